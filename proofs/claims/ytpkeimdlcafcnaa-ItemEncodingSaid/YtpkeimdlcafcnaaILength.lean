/-
  item.Length.
-/
import Derived.Test.YtpkeimdlcafcnaaIIsCut
namespace Go.Proofs.Ytpkeimdlcafcnaa
open Go.RowKit
set_option maxRecDepth 100000
set_option maxHeartbeats 20000000

def spOf (l : List Sp) (k : Int) : Sp := l[k.toNat]?.getD ⟨0, 0⟩
def cutLen (i : It) (cut : List Int) : Int := cut.foldl (fun n k => n - ((spOf i.trims k).to_ - (spOf i.trims k).fr)) i.len
theorem cutLen_snoc (i : It) (cut : List Int) (k : Int) : cutLen i (cut ++ [k]) = cutLen i cut - ((spOf i.trims k).to_ - (spOf i.trims k).fr) := by
  unfold cutLen
  rw [List.foldl_append]
  rfl

theorem itemLength {n₀ n₁ : Nat} (i : It) (ta : Option Addr) (tc : Nat) (ka : Option Addr) (kc : Nat) (ca : Option Addr) (cn cc : Nat) (cut : List Int) (w : World) (hT : SpsAt n₀ w ta i.trims) (hK : SpsAt n₀ w ka i.talks) (hn : n₀ ≤ w.heap.size) (hm : i.trims.length ≤ maxLen) (hm2 : i.talks.length ≤ maxLen)
    (hC : Ints n₁ w (.slice ca cn cc) cut) (hn1 : n₁ ≤ w.heap.size) (hm3 : cn ≤ maxLen) :
    Calls Try.prog 24 #[.agg #[.int .i64 i.id, .int .i64 i.kind, .int .i64 i.len, .slice ta i.trims.length tc, .slice ka i.talks.length kc, .int .i64 i.artist, .int .i64 i.tempo, .int .i64 i.lang], .slice ca cn cc] w fun e w' => e = .returned (if ItOk i ∧ CutOk i.trims.length cut then .tuple #[.int .i64 (cutLen i cut), .int .i64 0] else .tuple #[.int .i64 0, .int .i64 70]) ∧ Upd [] w w' := by
  obtain ⟨tn, htn⟩ : ∃ n, i.trims.length = n := ⟨_, rfl⟩
  obtain ⟨kn, hkn⟩ : ∃ n, i.talks.length = n := ⟨_, rfl⟩
  obtain ⟨r, hr⟩ : ∃ q, (if ItOk i ∧ CutOk i.trims.length cut then Value.tuple #[.int .i64 (cutLen i cut), .int .i64 0] else .tuple #[.int .i64 0, .int .i64 70]) = q := ⟨_, rfl⟩
  rw [hr]
  have HR := hide hr
  clear hr
  have L1 := Blk.new w 24 [.int .i64 i.id, .int .i64 i.kind, .int .i64 i.len, .slice ta i.trims.length tc, .slice ka i.talks.length kc, .int .i64 i.artist, .int .i64 i.tempo, .int .i64 i.lang]
  have u1 := (Upd.refl [] w).alloc (.cells #[.int .i64 i.id, .int .i64 i.kind, .int .i64 i.len, .slice ta i.trims.length tc, .slice ka i.talks.length kc, .int .i64 i.artist, .int .i64 i.tempo, .int .i64 i.lang] 24)
  have VA := isCut_it i ta tc ka kc ca cn cc cut _ (hT.upd u1 hn (by simp)) (hK.upd u1 hn (by simp)) (Nat.le_trans hn u1.size) hm hm2 (ints_upd hC u1 hn1 (by simp)) (Nat.le_trans hn1 u1.size) hm3
  obtain ⟨q, hq⟩ : ∃ q, decide (ItOk i ∧ CutOk i.trims.length cut) = q := ⟨_, rfl⟩
  rw [hq] at VA
  rw [htn, hkn] at VA u1 L1 ⊢
  have HQ := hide hq
  have HTN := hide htn
  have HT := hide hT
  have HC := hide hC.form.2
  have HCN := hide hC.form.1
  have k0 := L1.cell 0
  have k1 := L1.cell 1
  have k2 := L1.cell 2
  have k3 := L1.cell 3
  have k4 := L1.cell 4
  have k5 := L1.cell 5
  have k6 := L1.cell 6
  have k7 := L1.cell 7
  have HV := hide VA
  have U1 := hide u1
  have hcm : cn ≤ 9223372036854775807 := by unfold maxLen at hm3; omega
  clear hT hK hm hm2 hC VA u1 L1 htn hkn hq
  go_enter Try.func24, Try.ntmps24
  go_wp2_with fail
  refine HV.out.mono ?_
  rintro e w1 ⟨rfl, u⟩
  have U2 := hide (U1.out.trans u (by simp))
  have m2 := keepc _ _ _ _ u k2
  have m3 := keepc _ _ _ _ u k3
  have M3 := hide m3
  clear u k0 k1 k2 k3 k4 k5 k6 k7
  cases q with
  | false =>
    obtain rfl := HR.out.symm.trans (if_neg (of_decide_eq_false HQ.out))
    go_wp2_with fail
    go_ret2
    exact ⟨rfl, U2.out⟩
  | true =>
  have hQ := of_decide_eq_true HQ.out
  have hcn4 : cn ≤ 4 := by have := hQ.2.2; have := HCN.out; omega
  have hlen := hQ.1.1.2.2
  have HIT := hide hQ
  obtain ⟨hlen1, hlen2⟩ := hlen
  clear hQ
  go_wp2_with fail
  go_loopw [6, 17] (fun s6 s17 wr => ∃ (k : Nat) (v : Int), k ≤ cn ∧ s17 = .int .i64 k ∧ s6 = .int .i64 v ∧ Hid (v = cutLen i (cut.take k)) ∧ (-3600 * (k : Int) ≤ v ∧ v ≤ 3600) ∧ Hid (Upd [] w1 wr)) (fun _ k _ => cn - (intOf k).toNat)
  case atStart => exact ⟨0, i.len, Nat.zero_le _, rfl, rfl, hide (by rw [List.take_zero]; rfl), by omega, Upd.refl _ _⟩
  case round =>
    obtain ⟨k, v, hk, rfl, rfl, hv, ⟨hv1, hv2⟩, hu⟩ := hrel
    obtain ⟨wo, rfl⟩ : ∃ wo : World, wo = wr := ⟨_, rfl⟩
    by_cases hkl : k < cn
    · obtain ⟨x, hx⟩ : ∃ x, cut[k]? = some x := ⟨_, List.getElem?_eq_getElem (by have := HCN.out; omega)⟩
      have hxi := (HIT.out.2.1 k (by have := HCN.out; omega)).1
      rw [hx] at hxi
      obtain ⟨xn, rfl⟩ : ∃ xn : Nat, x = (xn : Int) := ⟨x.toNat, by have := hxi.1; simp at this; omega⟩
      have hxt : xn < tn := by have := hxi.2; have := HTN.out; simp at *; omega
      obtain ⟨s, hs⟩ : ∃ s, i.trims[xn]? = some s := ⟨_, List.getElem?_eq_getElem (by have := HTN.out; omega)⟩
      obtain ⟨b, o, ea, hb, c0, c1⟩ := (HT.out.upd (U2.out.trans hu.out (by simp)) hn (by simp)) xn s hs
      subst ea
      obtain ⟨cb, co, eb, hcb, hxc⟩ := HC.out k _ hx
      subst eb
      have d0 := keepc _ _ _ _ (U2.out.trans hu.out (by simp)) hxc
      have d1 := keepc _ _ _ _ hu.out M3.out
      obtain ⟨hi1, hi2, hi3⟩ := sp_in HIT.out.1.2.1.1 (List.mem_of_getElem? hs)
      have hki : (k : Int) < cn := by omega
      have hxi2 : (xn : Int) < tn := by omega
      have hw : IntKind.i64.wrap (v - (s.to_ - s.fr)) = v - (s.to_ - s.fr) := Go.IntWalk.i64_in _ (by omega)
      have LN := hide (length_any s.fr s.to_ wo (by omega) (by omega))
      have HST := hide (show cutLen i (cut.take (k + 1)) = v - (s.to_ - s.fr) by
        rw [List.take_add_one, hx, Option.toList_some, cutLen_snoc, ← hv.out]
        unfold spOf
        rw [show (xn : Int).toNat = xn by omega, hs]
        rfl)
      clear hs hb hx hxi hcb hxc
      go_wp2_with fail
      refine LN.out.mono ?_
      rintro e w3 ⟨rfl, u3⟩
      have V3 := hide (hu.out.trans u3 (by simp))
      clear u3
      go_wp2_with fail
      go_roundw
      case rel => exact ⟨k + 1, v - (s.to_ - s.fr), by omega, by go_num, by go_num, HST.out.symm, by omega, V3⟩
      case measure => simp [intOf] <;> omega
    · obtain rfl : k = cn := by omega
      have hki : ¬ (k : Int) < k := by omega
      have hv9 := hv.out
      rw [List.take_of_length_le (by have := HCN.out; omega)] at hv9
      obtain rfl := HR.out.symm.trans (if_pos HIT.out |>.trans (by rfl))
      subst hv9
      have U9 := hide (U2.out.trans hu.out (by simp))
      go_wp2_with fail
      go_ret2
      exact ⟨rfl, U9.out⟩
end Go.Proofs.Ytpkeimdlcafcnaa
