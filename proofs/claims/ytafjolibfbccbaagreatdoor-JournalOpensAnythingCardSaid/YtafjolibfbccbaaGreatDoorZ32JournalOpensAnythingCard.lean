/-
  aircheckref02.Head of nothing; airchecklaw34.sized, heads.
  aircheckref02.Head of a list of records.
  What wire.String accepts is an encoding: so the reference's test of a record is the program's.
-/
import Derived.Test.YtafjolibfbccbaaGreatDoorZ29JournalOpensAnythingCard
import Derived.Test.YtafjolibfbccbaaGreatDoorZ27JournalOpensAnythingCard
import Derived.Test.YtafjolibfbccbaaGreatDoorZ28JournalOpensAnythingCard
import Derived.Test.YtafjolibfbccbaaGreatDoorZ31JournalOpensAnythingCard

namespace Go.Proofs.YtafjolibfbccbaaGreatDoor
open Go.RowKit
set_option maxRecDepth 100000
set_option maxHeartbeats 8000000

theorem headTo_length (ks : List Int) : ∀ (l : List (List UInt8)) (h : List UInt8), h.length = 32 → (headTo ks h l).length = 32
  | [], _, e => e
  | r :: l, h, _ => headTo_length ks l (chainS ks h r) (chainS_length ks h r)
theorem refHead (w : World) :
    Calls Tryz.prog 43 #[.slice none 0 0] w fun e w' => e = .returned (.string (zs 32)) ∧ Upd [] w w' := by
  have hm := make_bytes 32 (by decide) w
  rw [show ((32 : Nat) : Int) = 32 from rfl] at hm
  have hcv := conv_zeros (w.alloc (.cells (bCells (List.replicate 32 0)).toArray 5)) 32 w.heap.size (Blk.new w _ _)
  obtain ⟨wz, hwz⟩ : ∃ x, w.alloc (.cells (bCells (List.replicate 32 0)).toArray 5) = x := ⟨_, rfl⟩
  have HU := hide (show Upd [] w wz by rw [← hwz]; exact (Upd.refl [] _).alloc _)
  rw [hwz] at hm hcv
  clear hwz
  go_enter Tryz.func43, Tryz.ntmps43
  go_wp2_with fail
  go_loopw [3, 4] (fun s3 s4 wr => s3 = .string (zs 32) ∧ s4 = .int .i64 0 ∧ Hid (Upd [] w wr)) (fun _ _ _ => 0)
  case atStart => exact ⟨rfl, rfl, HU⟩
  case round =>
    obtain ⟨rfl, rfl, hU⟩ := hrel
    go_wp2_with fail
    go_ret
    exact ⟨rfl, hU.out⟩
theorem sized_any (A : Option Addr) (n c : Nat) (l : List (List UInt8)) (a : Int) (w : World) (hl : l.length = n) (hS : StrsAt w A (l.map fun r => ⟨r.toArray⟩)) (hb : ∀ r ∈ l, r.length ≤ 100) (hn : n ≤ 1000) (h0 : 0 ≤ a) (h1 : a ≤ 100000) :
    Calls Tryz.prog 26 #[.slice A n c, .int .i64 a] w fun e w' => e = .returned (.bool (sizedS l a)) ∧ Upd [] w w' := by
  have HL := hide hl
  have HS := hide hS
  have HB := hide hb
  have HP := hide (fun (r : List UInt8) (W : World) (h : r.length ≤ 100) => refPutInt r.length W (by omega))
  clear hl hS hb
  go_enter Tryz.func26, Tryz.ntmps26
  go_wp2_with fail
  go_loopw [1, 5] (fun s1 s5 wr => ∃ (k : Nat) (z : Int), k ≤ n ∧ s5 = .int .i64 k ∧ s1 = .int .i64 z ∧ -1000 * (k : Int) ≤ z ∧ z ≤ 100000 ∧ Hid (sizedS l a = sizedS (l.drop k) z) ∧ Hid (Upd [] w wr)) (fun _ s _ => n - (intOf s).toNat)
  case atStart => exact ⟨0, a, Nat.zero_le _, rfl, rfl, by omega, h1, hide (by rw [List.drop_zero]), hide (Upd.refl _ _)⟩
  case round =>
    obtain ⟨k, z, hk, rfl, rfl, hz0, hz1, hE, hU⟩ := hrel
    obtain ⟨wo, rfl⟩ : ∃ x : World, x = wr := ⟨_, rfl⟩
    by_cases hkn : k < n
    case neg =>
      obtain rfl : k = n := by omega
      have hki : ¬ (k : Int) < k := by omega
      go_wp2_with fail
      go_ret
      rw [hE.out, List.drop_eq_nil_of_le (by rw [HL.out]; exact Nat.le_refl _)]
      exact ⟨rfl, hU.out⟩
    have hki : (k : Int) < n := by omega
    have hkw : IntKind.i64.wrap ((k : Int) + 1) = (k : Int) + 1 := Go.IntWalk.i64_in _ (by omega)
    obtain ⟨r, hr⟩ : ∃ r, l[k]? = some r := ⟨_, List.getElem?_eq_getElem (by have := HL.out; omega)⟩
    have hrb := HB.out r (List.mem_of_getElem? hr)
    obtain ⟨lb, lo, rfl, hc⟩ := HS.out k ⟨r.toArray⟩ (by rw [List.getElem?_map, hr]; rfl)
    have hrc := keepc _ _ _ _ hU.out hc
    have hpl := putS_len (r.length : Int) (by omega) (by omega)
    obtain ⟨rn, hrn⟩ : ∃ x, r.length = x := ⟨_, rfl⟩
    obtain ⟨pn, hpn⟩ : ∃ x, (putS (r.length : Int)).length = x := ⟨_, rfl⟩
    have hd : l.drop k = r :: l.drop (k + 1) := by rw [List.drop_eq_getElem_cons (by have := HL.out; omega)]; congr 1; exact (List.getElem?_eq_some_iff.1 hr).2
    have hE2 := hE.out
    rw [hd, sizedS_cons, hpn, hrn] at hE2
    have HPR := hide (HP.out r wo hrb)
    obtain ⟨ps, hps⟩ : ∃ x : ByteArray, ⟨(putS (r.length : Int)).toArray⟩ = x := ⟨_, rfl⟩
    rw [hps, hrn] at HPR
    have hsz : ps.size = pn := by rw [← hps, ← hpn]; simp [ByteArray.size]
    obtain ⟨rs, hrs⟩ : ∃ x : ByteArray, ⟨r.toArray⟩ = x := ⟨_, rfl⟩
    rw [hrs] at hrc
    have hrsz : rs.size = rn := by rw [← hrs, ← hrn]; simp [ByteArray.size]
    rw [hrn] at hrb
    rw [hpn] at hpl
    clear hr hc hps hpn hrn hd hrs hE
    go_wp2_with fail
    refine HPR.out.mono ?_
    rintro e w5 ⟨rfl, u⟩
    have HU5 := hide (hU.out.trans u (by simp))
    have hrc5 := keepc _ _ _ _ u hrc
    clear u HPR hrc hU
    by_cases h1z : 1 ≤ z ∧ z ≤ pn
    case pos =>
      rw [if_pos h1z] at hE2
      have HE := hide hE2
      have g1 : (1 : Int) ≤ z := h1z.1
      have g2 : z ≤ (pn : Int) := h1z.2
      clear h1z hE2
      go_wp2_with fail
      go_ret
      exact ⟨by rw [HE.out]; rfl, HU5.out⟩
    rw [if_neg h1z] at hE2
    have HE := hide hE2
    have w1 : IntKind.i64.wrap (1 + (pn : Int)) = 1 + (pn : Int) := Go.IntWalk.i64_in _ (by omega)
    have w2 : IntKind.i64.wrap (1 + (pn : Int) + (rn : Int)) = 1 + (pn : Int) + (rn : Int) := Go.IntWalk.i64_in _ (by omega)
    have w3 : IntKind.i64.wrap (1 + (pn : Int) + (rn : Int) + 32) = 1 + (pn : Int) + (rn : Int) + 32 := Go.IntWalk.i64_in _ (by omega)
    have w4 : IntKind.i64.wrap (z - (1 + (pn : Int) + (rn : Int) + 32)) = z - (1 + (pn : Int) + (rn : Int) + 32) := Go.IntWalk.i64_in _ (by omega)
    clear hE2
    by_cases g1 : 1 ≤ z
    case pos =>
      have g2 : ¬ z ≤ (pn : Int) := fun h => h1z ⟨g1, h⟩
      clear h1z
      go_wp2_with fail
      go_roundw
      case rel => exact ⟨k + 1, _, by omega, by go_num, rfl, by omega, by omega, HE, HU5⟩
      case measure => simp [intOf] <;> omega
    clear h1z
    go_wp2_with fail
    go_roundw
    case rel => exact ⟨k + 1, _, by omega, by go_num, rfl, by omega, by omega, HE, HU5⟩
    case measure => simp [intOf] <;> omega
theorem heads_any (A : Option Addr) (n c : Nat) (l : List (List UInt8)) (w : World) (hl : l.length = n) (hS : StrsAt w A (l.map fun r => ⟨r.toArray⟩)) (hb : ∀ r ∈ l, r.length ≤ 100) (hn : n ≤ 1000) :
    Calls Tryz.prog 27 #[.slice A n c] w fun e w' => ∃ A' c', e = .returned (.slice A' n c') ∧ w'.ownsRow w.heap.size 9 1 (.slice A' n c') n ((headsS refK l (List.replicate 32 0)).map strV) ∧ Upd [] w w' := by
  have HL := hide hl
  have HS := hide hS
  have HB := hide hb
  clear hl hS hb
  obtain ⟨H0, hH0⟩ : ∃ x : List UInt8, List.replicate 32 0 = x := ⟨_, rfl⟩
  have hz0 : (⟨H0.toArray⟩ : ByteArray) = zs 32 := by rw [← hH0]; rfl
  have HH0 := hide (show H0.length = 32 by rw [← hH0]; rfl)
  rw [hH0]
  have HHD := hide (fun W => refHead W)
  rw [← hz0] at HHD
  clear hz0 hH0
  go_enter Tryz.func27, Tryz.ntmps27
  go_wp2_with fail
  refine (HHD.out w).mono ?_
  rintro e w1 ⟨rfl, u⟩
  have HU1 := hide u
  clear u HHD
  go_wp2_with fail
  go_loopw [3, 4, 5] (fun s3 s4 s5 wr => ∃ (k : Nat) (A : Option Addr) (c : Nat), k ≤ n ∧ s3 = .slice A k c ∧ s4 = .string ⟨(headTo refK H0 (l.take k)).toArray⟩ ∧ s5 = .int .i64 k ∧ Hid (wr.ownsRow w.heap.size 9 1 (.slice A k c) k (((headsS refK l H0).take k).map strV)) ∧ Hid (Upd [] w wr)) (fun _ _ s _ => n - (intOf s).toNat)
  case atStart => exact ⟨0, none, 0, Nat.zero_le _, rfl, rfl, rfl, hide (World.ownsRow_nil _ _ _ _), HU1⟩
  case round =>
    clear HU1
    obtain ⟨k, A, c, hk, rfl, rfl, rfl, hO, hU⟩ := hrel
    obtain ⟨wo, rfl⟩ : ∃ x : World, x = wr := ⟨_, rfl⟩
    by_cases hkn : k < n
    case neg =>
      obtain rfl : k = n := by omega
      have hki : ¬ (k : Int) < k := by omega
      have HO := hide hO.out
      rw [List.take_of_length_le (by rw [headsS_length, HL.out]; exact Nat.le_refl _)] at HO
      go_wp2_with fail
      go_ret
      exact ⟨A, c, rfl, HO.out, hU.out⟩
    have hki : (k : Int) < n := by omega
    have hkw : IntKind.i64.wrap ((k : Int) + 1) = (k : Int) + 1 := Go.IntWalk.i64_in _ (by omega)
    obtain ⟨r, hr⟩ : ∃ r, l[k]? = some r := ⟨_, List.getElem?_eq_getElem (by have := HL.out; omega)⟩
    have hrb := HB.out r (List.mem_of_getElem? hr)
    obtain ⟨lb, lo, rfl, hc⟩ := HS.out k ⟨r.toArray⟩ (by rw [List.getElem?_map, hr]; rfl)
    have hrc := keepc _ _ _ _ hU.out hc
    obtain ⟨hd, hhd⟩ : ∃ x, headTo refK H0 (l.take k) = x := ⟨_, rfl⟩
    have hhl : hd.length = 32 := by rw [← hhd]; exact headTo_length refK _ _ HH0.out
    have hat := headsS_at refK l H0 k r hr
    have hnx : headTo refK H0 (l.take (k + 1)) = chainS refK hd r := by rw [List.take_add_one, hr, Option.toList_some]; unfold headTo; rw [List.foldl_append]; unfold headTo at hhd; rw [hhd]; rfl
    rw [hhd] at hat ⊢
    obtain ⟨hs, hhs⟩ : ∃ x : ByteArray, ⟨hd.toArray⟩ = x := ⟨_, rfl⟩
    obtain ⟨rs, hrs⟩ : ∃ x : ByteArray, ⟨r.toArray⟩ = x := ⟨_, rfl⟩
    rw [hrs] at hrc hc
    rw [hhs]
    have hsz : hs.size = 32 := by rw [← hhs]; simp [ByteArray.size]; exact hhl
    obtain ⟨rn, hrn⟩ : ∃ x, r.length = x := ⟨_, rfl⟩
    have hrsz : rs.size = rn := by rw [← hrs, ← hrn]; simp [ByteArray.size]
    rw [hrn] at hrb
    have o1 : (⟨#[2]⟩ : ByteArray).size = 1 := rfl
    have o2 : (⟨#[2]⟩ ++ hs : ByteArray).size = 33 := by rw [ByteArray.size_append, hsz]; rfl
    have hs1 : ¬ (9223372036854775807 : Nat) < 1 + 32 := by omega
    have hs2 : ¬ 9223372036854775807 < 33 + rn := by omega
    have HCH := hide (fun W => refChain hs rs W (by omega) (by omega))
    have HCE := hide (show (⟨(chainS refK hs.data.toList rs.data.toList).toArray⟩ : ByteArray) = ⟨(headTo refK H0 (l.take (k + 1))).toArray⟩ by rw [hnx, ← hhs, ← hrs])
    rw [HCE.out] at HCH
    have HV := hide (show Value.string (⟨#[2]⟩ ++ hs ++ rs) = strV (2 :: (hd ++ r)) by unfold strV; congr 1; apply ByteArray.ext; apply Array.toList_inj.1; rw [← hhs, ← hrs]; simp [ByteArray.data_append])
    have HAT := hide hat
    have HC0 := hide hc
    clear hr hc hhd hhl hat hnx hhs hrs hrn
    have O1 := hide (show ∀ u ∈ [Value.string (⟨#[2]⟩ ++ hs ++ rs)], u.oneCell' = true by simp [Value.oneCell'])
    have O3 := hide (show k + 1 ≤ maxLen by unfold maxLen; omega)
    have O4 := hide (show (k + 1) * 16 ≤ 140737488355328 by omega)
    have OB := hide (hO.out.alloc (.cells #[.string (⟨#[2]⟩ ++ hs ++ rs)] 9))
    have OS := hide (show w.heap.size ≤ (wo.alloc (.cells #[.string (⟨#[2]⟩ ++ hs ++ rs)] 9)).heap.size by have := hU.out.size; rw [World.size_alloc]; omega)
    go_wp2_with (at_builtin; refine wpList_append_base rfl (.tmp 13) (.tmp 21) _ rfl w.heap.size 9 (.string ⟨#[]⟩) 1 16 Tryz.underlying22 info_str rfl (by decide) A k c _ rfl OB.out ⟨wo.heap.size, 0, none⟩ 1 1 [.string (⟨#[2]⟩ ++ hs ++ rs)] rfl rfl (cell_one_new _ _ _) O1.out O3.out O4.out OS.out ?_; intro A5 c5 w5 h5 u5 _; have H5 := hide h5; have V5 := hide ((hU.out.alloc _).trans u5 (fun z hz => .inr (it_own_block hO.out z (by rw [ownBlock_slice]; simpa using hz)))); have hrc5 := keepc _ _ _ _ V5.out HC0.out; clear h5 u5)
    refine (HCH.out w5).mono ?_
    rintro e w6 ⟨rfl, u⟩
    have H6 := hide (own_kept H5.out u (by simp))
    have V6 := hide (V5.out.trans u (by simp))
    clear u HCH H5 V5
    go_wp2_with fail
    go_roundw
    case rel => exact ⟨k + 1, A5, c5, by omega, rfl, rfl, by go_num, hide (by
      rw [List.take_add_one, HAT.out, Option.toList_some, List.map_append, List.map_singleton, ← HV.out]
      exact H6.out), V6⟩
    case measure => simp [intOf] <;> omega
end Go.Proofs.YtafjolibfbccbaaGreatDoor

namespace Go.Proofs.YtafjolibfbccbaaGreatDoor
open Go.RowKit
set_option maxRecDepth 100000
set_option maxHeartbeats 8000000

theorem refHeadL (A : Option Addr) (n c : Nat) (l : List (List UInt8)) (w : World) (hl : l.length = n) (hS : StrsAt w A (l.map fun r => ⟨r.toArray⟩)) (hb : ∀ r ∈ l, r.length ≤ 65536) (hn : n ≤ 1000000000) :
    Calls Tryz.prog 43 #[.slice A n c] w fun e w' => e = .returned (.string ⟨(headTo refK (List.replicate 32 0) l).toArray⟩) ∧ Upd [] w w' := by
  have hm := make_bytes 32 (by decide) w
  rw [show ((32 : Nat) : Int) = 32 from rfl] at hm
  have hcv := conv_zeros (w.alloc (.cells (bCells (List.replicate 32 0)).toArray 5)) 32 w.heap.size (Blk.new w _ _)
  obtain ⟨wz, hwz⟩ : ∃ x, w.alloc (.cells (bCells (List.replicate 32 0)).toArray 5) = x := ⟨_, rfl⟩
  have HU := hide (show Upd [] w wz by rw [← hwz]; exact (Upd.refl [] _).alloc _)
  rw [hwz] at hm hcv
  clear hwz
  obtain ⟨H0, hH0⟩ : ∃ x : List UInt8, List.replicate 32 0 = x := ⟨_, rfl⟩
  have hz0 : zs 32 = (⟨H0.toArray⟩ : ByteArray) := by rw [← hH0]; rfl
  have HH0 := hide (show H0.length = 32 by rw [← hH0]; rfl)
  rw [hz0] at hcv
  rw [hH0]
  have HL := hide hl
  have HS := hide hS
  have HB := hide hb
  clear hl hS hb hz0 hH0
  go_enter Tryz.func43, Tryz.ntmps43
  go_wp2_with fail
  go_loopw [3, 4] (fun s3 s4 wr => ∃ k : Nat, k ≤ n ∧ s3 = .string ⟨(headTo refK H0 (l.take k)).toArray⟩ ∧ s4 = .int .i64 k ∧ Hid (Upd [] w wr)) (fun _ s _ => n - (intOf s).toNat)
  case atStart => exact ⟨0, Nat.zero_le _, rfl, rfl, HU⟩
  case round =>
    obtain ⟨k, hk, rfl, rfl, hU⟩ := hrel
    obtain ⟨wo, rfl⟩ : ∃ x : World, x = wr := ⟨_, rfl⟩
    by_cases hkn : k < n
    case neg =>
      obtain rfl : k = n := by omega
      have hki : ¬ (k : Int) < k := by omega
      go_wp2_with fail
      go_ret
      exact ⟨by rw [List.take_of_length_le (by rw [HL.out]; exact Nat.le_refl _)]; rfl, hU.out⟩
    have hki : (k : Int) < n := by omega
    have hkw : IntKind.i64.wrap ((k : Int) + 1) = (k : Int) + 1 := Go.IntWalk.i64_in _ (by omega)
    obtain ⟨r, hr⟩ : ∃ r, l[k]? = some r := ⟨_, List.getElem?_eq_getElem (by have := HL.out; omega)⟩
    have hrb := HB.out r (List.mem_of_getElem? hr)
    obtain ⟨lb, lo, rfl, hc⟩ := HS.out k ⟨r.toArray⟩ (by rw [List.getElem?_map, hr]; rfl)
    have hrc := keepc _ _ _ _ hU.out hc
    have hhl := headTo_length refK (l.take k) _ HH0.out
    have HCH := hide (fun W => refChain ⟨(headTo refK H0 (l.take k)).toArray⟩ ⟨r.toArray⟩ W (by show (headTo refK H0 (l.take k)).toArray.size ≤ _; rw [List.size_toArray, hhl]; decide) (by show r.toArray.size ≤ _; rw [List.size_toArray]; omega))
    have HNX := hide (show chainS refK (headTo refK H0 (l.take k)) r = headTo refK H0 (l.take (k + 1)) by rw [List.take_add_one, hr, Option.toList_some]; unfold headTo; rw [List.foldl_append]; rfl)
    clear hr hc hhl hrb
    go_wp2_with fail
    refine (HCH.out wo).mono ?_
    rintro e w1 ⟨rfl, u⟩
    have HU1 := hide (hU.out.trans u (by simp))
    clear u HCH hU
    go_wp2_with fail
    go_roundw
    case rel => exact ⟨k + 1, by omega, by rw [← HNX.out], by go_num, HU1⟩
    case measure => simp [intOf] <;> omega
end Go.Proofs.YtafjolibfbccbaaGreatDoor

namespace Go.Proofs.YtafjolibfbccbaaGreatDoor
open Go.RowKit Go.Shelf
set_option maxRecDepth 100000
set_option maxHeartbeats 4000000

theorem intFrom_canon (bs : List UInt8) (a : Nat) : ∀ (f i z : Nat) (pre : List UInt8), (bs.drop a).take i = pre → pre.length = i → (∀ x ∈ pre, 128 ≤ x.toNat) → z = valD (pre.map (fun x => x.toNat % 128)) → (intFrom bs a f i z).2.2 = 0 →
    ∃ k : Nat, (intFrom bs a f i z).2.1 = ((a + k : Nat) : Int) ∧ putS (intFrom bs a f i z).1 = (bs.drop a).take k ∧ a + k ≤ bs.length
  | 0, _, _, _, _, _, _, _, h => by simp [intFrom] at h
  | f + 1, i, z, pre, hp, hl, ha, hz, h => by
    unfold intFrom at h ⊢
    cases hb : bs[a + i]? with
    | none => rw [hb] at h; simp at h
    | some b =>
      rw [hb] at h
      simp only at h ⊢
      have hlt := (List.getElem?_eq_some_iff.1 hb).1
      have htk : (bs.drop a).take (i + 1) = pre ++ [b] := by rw [List.take_add_one, hp, List.getElem?_drop, hb]; rfl
      have hzv : z + b.toNat % 128 * 2 ^ (7 * i) = valD (pre.map (fun x => x.toNat % 128) ++ [b.toNat % 128]) := by rw [valD_snoc, List.length_map, hl, ← hz]
      by_cases h1 : 128 ≤ b.toNat
      · rw [if_pos h1] at h ⊢
        exact intFrom_canon bs a f (i + 1) _ (pre ++ [b]) htk (by simp [hl]) (fun v hv => (List.mem_append.1 hv).elim (ha v) (fun h => by have : v = b := (by simpa using h); rw [this]; exact h1)) (by rw [hzv, List.map_append]; rfl) h
      · rw [if_neg h1] at h ⊢
        by_cases h2 : intBad b.toNat i (z + b.toNat % 128 * 2 ^ (7 * i))
        · rw [if_pos h2] at h; simp at h
        · rw [if_neg h2]
          refine ⟨i + 1, rfl, ?_, by omega⟩
          rw [htk]
          refine (put_canon pre b ha (by omega) _ ?_).2 (fun h9 => h2 (.inl ⟨h9.1, by omega⟩))
          rw [hzv, Nat.mod_eq_of_lt (by omega)]
theorem string_canon (bs : List UInt8) (a : Nat) (h : (stringS bs a).2.2 = 0) : ∃ k : Nat, (stringS bs a).2.1 = ((a + k : Nat) : Int) ∧ putStrS (stringS bs a).1 = (bs.drop a).take k ∧ a + k ≤ bs.length := by
  unfold stringS at h ⊢
  by_cases h1 : (intS bs a).2.2 ≠ 0
  · rw [if_pos h1] at h; exact absurd h h1
  rw [if_neg h1] at h ⊢
  by_cases h2 : strBad (intS bs a).1 bs.length (intS bs a).2.1.toNat
  · rw [if_pos h2] at h; simp at h
  rw [if_neg h2]
  have h3 : (intS bs a).2.2 = 0 := by omega
  have hi : intS bs a = intFrom bs a 9 0 0 := by
    unfold intS at h3 ⊢
    split
    · rename_i h9; rw [if_pos h9] at h3; simp at h3
    · rfl
  rw [hi] at h2 h3 ⊢
  obtain ⟨k, hk, hp, hkl⟩ := intFrom_canon bs a 9 0 0 [] (by simp) rfl (by simp) rfl h3
  obtain ⟨n, hn⟩ : ∃ n, (intFrom bs a 9 0 0).1 = n := ⟨_, rfl⟩
  rw [hn, hk] at h2
  rw [hn] at hp
  rw [hk, hn]
  unfold strBad at h2
  simp only [Int.toNat_natCast] at h2 ⊢
  have hlen : ((bs.drop (a + k)).take n.toNat).length = n.toNat := by rw [List.length_take, List.length_drop]; omega
  refine ⟨k + n.toNat, by omega, ?_, by omega⟩
  unfold putStrS
  rw [hlen, show ((n.toNat : Nat) : Int) = n by omega, hp, List.take_add, List.drop_drop]
/-- The reference's test of a stored record. -/
theorem stored_iff (ks : List Int) (bs : List UInt8) (T : TapeS) (r : List UInt8) (k : Nat) (h1 : bs[T.size]? = some 1) (hs : stringS bs (T.size + 1) = (r, (k : Int), 0)) (_hk : k + 32 ≤ bs.length) :
    storedS ks T r = (bs.drop T.size).take (k + 32 - T.size) ↔ chainS ks T.head r = (bs.drop k).take 32 := by
  obtain ⟨m, hm, hp, hml⟩ := string_canon bs (T.size + 1) (by rw [hs])
  rw [hs] at hm hp
  simp only at hm hp
  have hk2 : k = T.size + 1 + m := by omega
  have hlt := (List.getElem?_eq_some_iff.1 h1).1
  have hcut : (bs.drop T.size).take (k + 32 - T.size) = 1 :: (putStrS r ++ (bs.drop k).take 32) := by
    rw [show bs.drop T.size = 1 :: bs.drop (T.size + 1) by
      rw [List.drop_eq_getElem_cons hlt, (List.getElem?_eq_some_iff.1 h1).2]]
    rw [show k + 32 - T.size = (m + 32) + 1 by omega, List.take_succ_cons, hp, List.take_add, List.drop_drop, hk2]
  rw [hcut]
  unfold storedS
  constructor
  · intro h
    have h9 := (List.cons.inj h).2
    exact List.append_cancel_left h9
  · intro h
    rw [h]
theorem dropWhile_nil {p : UInt8 → Bool} : ∀ l : List UInt8, l.dropWhile p = [] → ∀ x ∈ l, p x = true
  | [], _ => by simp
  | a :: l, h => by
    rw [List.dropWhile_cons] at h
    split at h
    · rename_i ha
      intro x hx
      rcases List.mem_cons.1 hx with rfl | hx
      · exact ha
      · exact dropWhile_nil l h x hx
    · cases h
theorem dropWhile_cons_head {p : UInt8 → Bool} : ∀ (l : List UInt8) (b : UInt8) (t : List UInt8), l.dropWhile p = b :: t → p b = false
  | [], _, _, h => by simp at h
  | a :: l, b, t, h => by
    rw [List.dropWhile_cons] at h
    split at h
    · exact dropWhile_cons_head l b t h
    · rename_i ha
      have := (List.cons.inj h).1
      rw [← this]
      simpa using ha
theorem trim_nil (l : List UInt8) (h : Lib.trimB l 0 = []) : l = List.replicate l.length 0 := by
  unfold Lib.trimB Lib.trimRightB Lib.trimLeftB at h
  have h1 := dropWhile_nil _ h
  have h2 : l.reverse.dropWhile (· == 0) = [] := by
    cases hd : l.reverse.dropWhile (· == 0) with
    | nil => rfl
    | cons b t =>
      have h3 := dropWhile_cons_head _ _ _ hd
      have h4 := h1 b (by rw [hd]; simp)
      rw [h4] at h3
      cases h3
  have h5 := dropWhile_nil _ h2
  refine List.eq_replicate_iff.2 ⟨rfl, fun x hx => ?_⟩
  have := h5 x (List.mem_reverse.2 hx)
  simpa using this
/-- The disk's visible content is that of its pending writes; at most m of them. -/
def DInv (m : Nat) (D : DiskS) : Prop := D.vis = puts D.sure D.pend ∧ D.vis.length = D.sure.length ∧ D.pend.length ≤ m
theorem DInv.fresh (n : Nat) : DInv 0 (DiskS.fresh n) := ⟨rfl, rfl, Nat.le_refl _⟩
theorem DInv.mono {m n : Nat} {D : DiskS} (h : DInv m D) (hn : m ≤ n) : DInv n D := ⟨h.1, h.2.1, Nat.le_trans h.2.2 hn⟩
theorem used_same (D : DiskS) : D.used.sure = D.sure ∧ D.used.vis = D.vis ∧ D.used.pend = D.pend := by unfold DiskS.used; split <;> exact ⟨rfl, rfl, rfl⟩
theorem DInv.write {m : Nat} {D : DiskS} (h : DInv m D) (off : Int) (s : List UInt8) : DInv (m + 1) (D.write off s).1 ∧ (D.write off s).1.sure.length = D.sure.length := by
  unfold DiskS.write
  split
  · exact ⟨h.mono (by omega), rfl⟩
  split
  · rename_i hi
    obtain ⟨e1, e2, e3⟩ := used_same { D with pend := D.pend ++ [(off.toNat, s)], vis := put D.vis off.toNat s }
    show DInv (m + 1) (D.written off.toNat s) ∧ _
    unfold DiskS.written DInv
    rw [e1, e2, e3]
    simp only
    refine ⟨⟨by unfold puts; rw [List.foldl_append, h.1]; rfl, ?_, by rw [List.length_append, List.length_singleton]; have := h.2.2; omega⟩, trivial⟩
    unfold inB at hi
    have hi2 := of_decide_eq_true hi
    rw [put_length _ _ _ (by have := h.2.1; omega)]
    exact h.2.1
  · exact ⟨h.mono (by omega), rfl⟩
theorem DInv.sync {m : Nat} {D : DiskS} (h : DInv m D) : DInv (m + 1) D.sync.1 ∧ D.sync.1.sure.length = D.sure.length := by
  unfold DiskS.sync
  split
  · exact ⟨h.mono (by omega), rfl⟩
  · exact ⟨⟨rfl, rfl, by simp [DiskS.settled]⟩, h.2.1⟩
theorem DInv.cut {m : Nat} {D : DiskS} (h : DInv m D) (c : Int) : DInv m (D.cut c).1 ∧ (D.cut c).1.sure.length = D.sure.length := by
  unfold DiskS.cut
  split
  · exact ⟨h, rfl⟩
  split
  · exact ⟨h, rfl⟩
  · exact ⟨⟨h.1, h.2.1, h.2.2⟩, rfl⟩
theorem DInv.crash (D : DiskS) (keep : List Int) (torn : Int) : DInv 0 (D.crash keep torn) := ⟨rfl, rfl, Nat.le_refl _⟩
theorem DInv.ops : ∀ (l : List DOp) {m : Nat} {D : DiskS}, DInv m D → DInv (m + l.length) (runOps D l).1 ∧ (runOps D l).1.sure.length = D.sure.length
  | [], _, _, h => ⟨h, rfl⟩
  | o :: l, m, D, h => by
    have h1 : DInv (m + 1) (o.run D).1 ∧ (o.run D).1.sure.length = D.sure.length := by
      cases o with
      | write a s => exact h.write a _
      | sync => exact h.sync
    rw [runOps]
    split
    · exact ⟨h1.1.mono (by rw [List.length_cons]; omega), h1.2⟩
    · obtain ⟨a, b⟩ := DInv.ops l h1.1
      exact ⟨a.mono (by rw [List.length_cons]; omega), b.trans h1.2⟩
/-- What is known of an open journal's records. -/
def TInv (T : TapeS) : Prop := T.head = headTo refK (List.replicate 32 0) T.recs ∧ (∀ r ∈ T.recs, r.length ≤ 65536) ∧ 33 * T.recs.length ≤ T.size
theorem TInv.start : TInv tape0 := ⟨rfl, by simp [tape0], Nat.le_refl _⟩
theorem TInv.head32 {T : TapeS} (h : TInv T) : T.head.length = 32 := by rw [h.1]; exact headTo_length _ _ _ (by simp)
theorem TInv.add {T : TapeS} (h : TInv T) (r : List UInt8) (hr : r.length ≤ 65536) : TInv (T.add refK r) := by
  refine ⟨?_, fun x hx => ?_, ?_⟩
  · unfold TapeS.add headTo
    simp only
    rw [List.foldl_append, ← show headTo refK (List.replicate 32 0) T.recs = T.recs.foldl (chainS refK) (List.replicate 32 0) from rfl, ← h.1]
    rfl
  · rcases List.mem_append.1 hx with hx | hx
    · exact h.2.1 x hx
    · rw [show x = r by simpa using hx]; exact hr
  · unfold TapeS.add
    simp only [List.length_append, List.length_singleton]
    have := h.2.2
    omega
theorem TInv.addL : ∀ (l : List (List UInt8)) {T : TapeS}, TInv T → (∀ r ∈ l, r.length ≤ 65536) → TInv (addL refK T l).1
  | [], _, h, _ => h
  | r :: l, T, h, hr => by rw [addL_cons]; exact TInv.addL l (h.add r (hr r (by simp))) (fun x hx => hr x (by simp [hx]))
theorem TInv.load (bs : List UInt8) : ∀ (f : Nat) {T T' : TapeS}, TInv T → loadS refK bs f T = some T' → TInv T'
  | 0, _, _, h, e => by simp [loadS] at e; rw [← e]; exact h
  | f + 1, T, T', h, e => by
    rw [loadS] at e
    split at e
    · split at e
      · rename_i h1 h2
        obtain ⟨r, x, er, hs⟩ : ∃ r x er, stringS bs (T.size + 1) = (r, x, er) := ⟨_, _, _, rfl⟩
        rw [hs] at h2 e
        obtain ⟨_, h3, _⟩ := h2
        simp only at h3 e
        subst h3
        obtain ⟨_, _, _, _, h4⟩ := stringS_ok bs _ r x hs
        exact TInv.load bs f (h.add r h4) e
      · cases e
    · simp only [Option.some.injEq] at e
      rw [← e]; exact h
/-- Open keeps what is known. -/
theorem open_inv {m : Nat} {D : DiskS} (h : DInv m D) : DInv (m + 2) (OpenS refK D).2.1 ∧ (OpenS refK D).2.1.sure.length = D.sure.length ∧ ∀ T, (OpenS refK D).1 = some T → TInv T ∧ T.size ≤ D.sure.length := by
  unfold OpenS
  split
  · exact ⟨h.mono (by omega), rfl, by simp⟩
  cases hl : loadS refK D.vis (D.vis.length + 1) tape0 with
  | none => exact ⟨h.mono (by omega), rfl, by simp⟩
  | some T =>
    have hT : TInv T ∧ T.size ≤ D.sure.length := ⟨TInv.load _ _ TInv.start hl, by rw [← h.2.1]; exact loadS_size _ _ _ _ _ hl (by simp [tape0])⟩
    simp only
    split
    · exact ⟨h.mono (by omega), rfl, fun T' e => by simp only [Option.some.injEq] at e; rw [← e]; exact hT⟩
    · obtain ⟨a, b⟩ := DInv.ops [.write (T.size : Int) ⟨(List.replicate (D.vis.length - T.size) 0).toArray⟩, .sync] h
      split
      · exact ⟨a, b, by simp⟩
      · exact ⟨a, b, fun T' e => by simp only [Option.some.injEq] at e; rw [← e]; exact hT⟩
theorem append_inv {m : Nat} {D : DiskS} {T : TapeS} (h : DInv m D) (hT : TInv T) (hs : T.size ≤ D.sure.length) (br : Bool) (l : List ByteArray) (hl : ∀ s ∈ l, s.size ≤ 65536) :
    DInv (m + 4) (appendS refK T D br l).2.1 ∧ TInv (appendS refK T D br l).1 ∧ (appendS refK T D br l).1.size ≤ (appendS refK T D br l).2.1.sure.length := by
  unfold appendS
  split
  · exact ⟨h.mono (by omega), hT, hs⟩
  split
  · exact ⟨h.mono (by omega), hT, hs⟩
  rename_i hfit
  have hA := addAll_L refK T l
  have hT' : TInv (addAll refK T l).1 := by
    rw [hA]
    refine hT.addL _ (fun r hr => ?_)
    obtain ⟨s, h1, rfl⟩ := List.mem_map.1 hr
    have h2 := hl s h1
    have h3 : s.data.toList.length = s.size := Lib.size_eq s ▸ rfl
    omega
  have hsz : (addAll refK T l).1.size = T.size + (addAll refK T l).2.length := by rw [hA, addL_size]
  cases ho : (addAll refK T l).2 with
  | nil => exact ⟨h.mono (by omega), hT, hs⟩
  | cons b t =>
    simp only
    obtain ⟨a, e⟩ := DInv.ops [.write ((T.size : Int) + 1) ⟨t.toArray⟩, .sync, .write (T.size : Int) ⟨#[b]⟩, .sync] h
    split
    · exact ⟨a, hT, by rw [e]; exact hs⟩
    · exact ⟨a, hT', by rw [e]; simp only; omega⟩
end Go.Proofs.YtafjolibfbccbaaGreatDoor
