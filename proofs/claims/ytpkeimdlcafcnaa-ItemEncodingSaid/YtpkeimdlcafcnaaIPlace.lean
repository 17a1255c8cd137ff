/-
  item.Place.
-/
import Derived.Test.YtpkeimdlcafcnaaILength
namespace Go.Proofs.Ytpkeimdlcafcnaa
open Go.RowKit
set_option maxRecDepth 100000
set_option maxHeartbeats 20000000

def placeS (trims : List Sp) (cut : List Int) (at_ : Int) : Int := cut.foldl (fun a k => if (spOf trims k).fr ≤ a then a + ((spOf trims k).to_ - (spOf trims k).fr) else a) at_
theorem placeS_snoc (trims : List Sp) (cut : List Int) (at_ k : Int) : placeS trims (cut ++ [k]) at_ = if (spOf trims k).fr ≤ placeS trims cut at_ then placeS trims cut at_ + ((spOf trims k).to_ - (spOf trims k).fr) else placeS trims cut at_ := by
  unfold placeS
  rw [List.foldl_append]
  rfl
theorem cutLen_le {i : It} (h : ItOk i) (cut : List Int) : cutLen i cut ≤ i.len := by
  have hsp : ∀ k : Int, (spOf i.trims k).fr ≤ (spOf i.trims k).to_ := fun k => by
    unfold spOf
    cases hs : i.trims[k.toNat]? with
    | none => show (0 : Int) ≤ 0; omega
    | some s =>
      have := sp_in h.2.1.1 (List.mem_of_getElem? hs)
      have := this.2.1
      show s.fr ≤ s.to_
      omega
  unfold cutLen
  have : ∀ (l : List Int) (v : Int), l.foldl (fun n k => n - ((spOf i.trims k).to_ - (spOf i.trims k).fr)) v ≤ v := by
    intro l
    induction l with
    | nil => intro v; exact Int.le_refl _
    | cons k l ih =>
      intro v
      have h1 := ih (v - ((spOf i.trims k).to_ - (spOf i.trims k).fr))
      have h2 := hsp k
      rw [List.foldl_cons]
      omega
  exact this cut i.len

theorem itemPlace {n₀ n₁ : Nat} (i : It) (ta : Option Addr) (tc : Nat) (ka : Option Addr) (kc : Nat) (ca : Option Addr) (cn cc : Nat) (cut : List Int) (at_ : Int) (w : World) (hT : SpsAt n₀ w ta i.trims) (hK : SpsAt n₀ w ka i.talks) (hn : n₀ ≤ w.heap.size) (hm : i.trims.length ≤ maxLen) (hm2 : i.talks.length ≤ maxLen)
    (hC : Ints n₁ w (.slice ca cn cc) cut) (hn1 : n₁ ≤ w.heap.size) (hm3 : cn ≤ maxLen) :
    Calls Try.prog 29 #[.agg #[.int .i64 i.id, .int .i64 i.kind, .int .i64 i.len, .slice ta i.trims.length tc, .slice ka i.talks.length kc, .int .i64 i.artist, .int .i64 i.tempo, .int .i64 i.lang], .slice ca cn cc, .int .i64 at_] w fun e w' => e = .returned (if (ItOk i ∧ CutOk i.trims.length cut) ∧ 0 ≤ at_ ∧ at_ < cutLen i cut then .tuple #[.int .i64 (placeS i.trims cut at_), .int .i64 0] else .tuple #[.int .i64 0, .int .i64 70]) ∧ Upd [] w w' := by
  obtain ⟨tn, htn⟩ : ∃ n, i.trims.length = n := ⟨_, rfl⟩
  obtain ⟨kn, hkn⟩ : ∃ n, i.talks.length = n := ⟨_, rfl⟩
  obtain ⟨r, hr⟩ : ∃ q, (if (ItOk i ∧ CutOk i.trims.length cut) ∧ 0 ≤ at_ ∧ at_ < cutLen i cut then Value.tuple #[.int .i64 (placeS i.trims cut at_), .int .i64 0] else .tuple #[.int .i64 0, .int .i64 70]) = q := ⟨_, rfl⟩
  rw [hr]
  have HR := hide hr
  clear hr
  have L1 := Blk.new w 24 [.int .i64 i.id, .int .i64 i.kind, .int .i64 i.len, .slice ta i.trims.length tc, .slice ka i.talks.length kc, .int .i64 i.artist, .int .i64 i.tempo, .int .i64 i.lang]
  have u1 := (Upd.refl [] w).alloc (.cells #[.int .i64 i.id, .int .i64 i.kind, .int .i64 i.len, .slice ta i.trims.length tc, .slice ka i.talks.length kc, .int .i64 i.artist, .int .i64 i.tempo, .int .i64 i.lang] 24)
  have VA := itemLength i ta tc ka kc ca cn cc cut _ (hT.upd u1 hn (by simp)) (hK.upd u1 hn (by simp)) (Nat.le_trans hn u1.size) hm hm2 (ints_upd hC u1 hn1 (by simp)) (Nat.le_trans hn1 u1.size) hm3
  have HTN := hide htn
  have HT := hide hT
  have HC := hide hC.form.2
  have HCN := hide hC.form.1
  have hcm : cn ≤ 9223372036854775807 := by unfold maxLen at hm3; omega
  obtain ⟨cl, hcl⟩ : ∃ v, cutLen i cut = v := ⟨_, rfl⟩
  by_cases hq : ItOk i ∧ CutOk i.trims.length cut
  case neg =>
    rw [if_neg hq] at VA
    obtain rfl := HR.out.symm.trans (if_neg (fun h => hq h.1))
    rw [htn, hkn] at VA u1 L1 ⊢
    have HV := hide VA
    have U1 := hide u1
    have k0 := L1.cell 0
    have k1 := L1.cell 1
    have k2 := L1.cell 2
    have k3 := L1.cell 3
    have k4 := L1.cell 4
    have k5 := L1.cell 5
    have k6 := L1.cell 6
    have k7 := L1.cell 7
    clear hT hK hm hm2 hC VA u1 L1 htn hkn hq
    go_enter Try.func29, Try.ntmps29
    go_wp2_with fail
    refine HV.out.mono ?_
    rintro e w1 ⟨rfl, u⟩
    have U2 := hide (U1.out.trans u (by simp))
    clear u
    go_wp2_with fail
    go_ret2
    exact ⟨rfl, U2.out⟩
  rw [if_pos hq, hcl] at VA
  rw [htn, hkn] at VA u1 L1 ⊢
  have HV := hide VA
  have U1 := hide u1
  have k0 := L1.cell 0
  have k1 := L1.cell 1
  have k2 := L1.cell 2
  have k3 := L1.cell 3
  have k4 := L1.cell 4
  have k5 := L1.cell 5
  have k6 := L1.cell 6
  have k7 := L1.cell 7
  have HIT := hide hq
  have HCL := hide hcl
  clear hT hK hm hm2 hC VA u1 L1 htn hkn hq hcl
  go_enter Try.func29, Try.ntmps29
  go_wp2_with fail
  refine HV.out.mono ?_
  rintro e w1 ⟨rfl, u⟩
  have U2 := hide (U1.out.trans u (by simp))
  have M3 := hide (keepc _ _ _ _ u k3)
  clear u k0 k1 k2 k3 k4 k5 k6 k7
  by_cases g1 : at_ < 0
  · obtain rfl := HR.out.symm.trans (if_neg (fun h => by have := h.2.1; omega))
    go_wp2_with fail
    go_ret2
    exact ⟨rfl, U2.out⟩
  by_cases g2 : cl ≤ at_
  · obtain rfl := HR.out.symm.trans (if_neg (fun h => by have := h.2.2; rw [HCL.out] at this; omega))
    go_wp2_with fail
    go_ret2
    exact ⟨rfl, U2.out⟩
  have hcn4 : cn ≤ 4 := by have := HIT.out.2.2; have := HCN.out; omega
  have hat : at_ ≤ 3600 := by have := cutLen_le HIT.out.1 cut; have := HCL.out; have := HIT.out.1.1.2.2; omega
  have hlen2 := HIT.out.1.1.2.2.2
  go_wp2_with fail
  go_loopw [2, 31] (fun s2 s31 wr => ∃ (k : Nat) (v : Int), k ≤ cn ∧ s31 = .int .i64 k ∧ s2 = .int .i64 v ∧ Hid (v = placeS i.trims (cut.take k) at_) ∧ (0 ≤ v ∧ v ≤ 3600 + 3600 * (k : Int)) ∧ Hid (Upd [] w1 wr)) (fun _ k _ => cn - (intOf k).toNat)
  case atStart => exact ⟨0, at_, Nat.zero_le _, rfl, rfl, hide (by rw [List.take_zero]; rfl), by omega, Upd.refl _ _⟩
  case round =>
    obtain ⟨k, v, hk, rfl, rfl, hv, ⟨hv1, hv2⟩, hu⟩ := hrel
    obtain ⟨wo, rfl⟩ : ∃ wo : World, wo = wr := ⟨_, rfl⟩
    by_cases hkl : k < cn
    · obtain ⟨x, hx⟩ : ∃ x, cut[k]? = some x := ⟨_, List.getElem?_eq_getElem (by have := HCN.out; omega)⟩
      have hxi := (HIT.out.2.1 k (by have := HCN.out; omega)).1
      rw [hx] at hxi
      obtain ⟨xn, rfl⟩ : ∃ xn : Nat, x = (xn : Int) := ⟨x.toNat, by have := hxi.1; simp at this; omega⟩
      have hxt : xn < tn := by have := hxi.2; have := HTN.out; simp at *; omega
      obtain ⟨s, hs⟩ : ∃ s, i.trims[xn]? = some s := ⟨_, List.getElem?_eq_getElem (by have := HTN.out; omega)⟩
      obtain ⟨b, o, ea, hb, c0, c1⟩ := (HT.out.upd (U2.out.trans hu.out (by simp)) hn (by simp)) xn s hs
      subst ea
      obtain ⟨cb, co, eb, hcb, hxc⟩ := HC.out k _ hx
      subst eb
      have d0 := keepc _ _ _ _ (U2.out.trans hu.out (by simp)) hxc
      have d1 := keepc _ _ _ _ hu.out M3.out
      obtain ⟨hi1, hi2, hi3⟩ := sp_in HIT.out.1.2.1.1 (List.mem_of_getElem? hs)
      have hki : (k : Int) < cn := by omega
      have hxi2 : (xn : Int) < tn := by omega
      have hw : IntKind.i64.wrap (v + (s.to_ - s.fr)) = v + (s.to_ - s.fr) := Go.IntWalk.i64_in _ (by omega)
      have LN := hide (length_any s.fr s.to_ wo (by omega) (by omega))
      have HST := hide (show placeS i.trims (cut.take (k + 1)) at_ = if s.fr ≤ v then v + (s.to_ - s.fr) else v by
        rw [List.take_add_one, hx, Option.toList_some, placeS_snoc, ← hv.out]
        unfold spOf
        rw [show (xn : Int).toNat = xn by omega, hs]
        rfl)
      clear hs hb hx hxi hcb hxc
      by_cases g3 : s.fr ≤ v
      · go_wp2_with fail
        refine LN.out.mono ?_
        rintro e w3 ⟨rfl, u3⟩
        have V3 := hide (hu.out.trans u3 (by simp))
        clear u3
        go_wp2_with fail
        go_roundw
        case rel => exact ⟨k + 1, v + (s.to_ - s.fr), by omega, by go_num, by go_num, hide (by rw [HST.out, if_pos g3]), by omega, V3⟩
        case measure => simp [intOf] <;> omega
      · go_wp2_with fail
        go_roundw
        case rel => exact ⟨k + 1, v, by omega, by go_num, by go_num, hide (by rw [HST.out, if_neg g3]), by omega, hu⟩
        case measure => simp [intOf] <;> omega
    · obtain rfl : k = cn := by omega
      have hki : ¬ (k : Int) < k := by omega
      have hv9 := hv.out
      rw [List.take_of_length_le (by have := HCN.out; omega)] at hv9
      obtain rfl := HR.out.symm.trans (if_pos ⟨HIT.out, by omega, by rw [HCL.out]; omega⟩)
      subst hv9
      have U9 := hide (U2.out.trans hu.out (by simp))
      go_wp2_with fail
      go_ret2
      exact ⟨rfl, U9.out⟩
end Go.Proofs.Ytpkeimdlcafcnaa
