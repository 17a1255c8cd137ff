/-
  item.Talk: how many seconds of a recording before a second are heard.
-/
import Derived.Test.YtpkeimdlcafcnaaILength
namespace Go.Proofs.Ytpkeimdlcafcnaa
open Go.RowKit
set_option maxRecDepth 100000
set_option maxHeartbeats 20000000

def beforeS (trims : List Sp) (cut : List Int) (second : Int) : Int := cut.foldl (fun n k => n - max 0 (min second (spOf trims k).to_ - (spOf trims k).fr)) second
theorem beforeS_snoc (trims : List Sp) (cut : List Int) (second k : Int) : beforeS trims (cut ++ [k]) second = beforeS trims cut second - max 0 (min second (spOf trims k).to_ - (spOf trims k).fr) := by
  unfold beforeS
  rw [List.foldl_append]
  rfl

theorem talkBefore {n₀ n₁ : Nat} (i : It) (hok : ItOk i) (ta : Option Addr) (tc : Nat) (ca : Option Addr) (cn cc : Nat) (cut : List Int) (hcut : CutOk i.trims.length cut) (second : Int) (h0 : 0 ≤ second) (h1 : second ≤ 3600) (bc bi : Nat) (w : World)
    (d0 : w.cell? ⟨bc, 0, none⟩ = some (.slice ca cn cc)) (d3 : w.cell? ⟨bi, 3, none⟩ = some (.slice ta i.trims.length tc)) (hT : SpsAt n₀ w ta i.trims) (hn : n₀ ≤ w.heap.size) (hC : Ints n₁ w (.slice ca cn cc) cut) :
    Calls Try.prog 59 #[.int .i64 second, .pointer (some ⟨bc, 0, none⟩), .pointer (some ⟨bi, 0, none⟩)] w fun e w' => e = .returned (.int .i64 (beforeS i.trims cut second)) ∧ Upd [] w w' := by
  obtain ⟨tn, htn⟩ : ∃ n, i.trims.length = n := ⟨_, rfl⟩
  obtain ⟨r, HR⟩ : ∃ q, Hid (beforeS i.trims cut second = q) := ⟨_, rfl⟩
  rw [HR.out]
  rw [htn] at d3
  have HTN := hide htn
  have HT := hide hT
  have HC := hide hC.form.2
  have HCN := hide hC.form.1
  have HOK := hide hok
  have HCUT := hide hcut
  have D3 := hide d3
  have hcn4 : cn ≤ 4 := by have := hcut.2; have := HCN.out; omega
  have hlen2 := hok.1.2.2.2
  clear hT hC htn hok hcut
  go_enter Try.func59, Try.ntmps59
  go_wp2_with fail
  go_loopw [5, 12] (fun s5 s12 wr => ∃ (k : Nat) (v : Int), k ≤ cn ∧ s12 = .int .i64 k ∧ s5 = .int .i64 v ∧ Hid (v = beforeS i.trims (cut.take k) second) ∧ (-3600 * (k : Int) ≤ v ∧ v ≤ 3600) ∧ Hid (Upd [] w wr)) (fun _ k _ => cn - (intOf k).toNat)
  case atStart => exact ⟨0, second, Nat.zero_le _, rfl, rfl, hide (by rw [List.take_zero]; rfl), by omega, Upd.refl _ _⟩
  case round =>
    obtain ⟨k, v, hk, rfl, rfl, hv, ⟨hv1, hv2⟩, hu⟩ := hrel
    obtain ⟨wo, rfl⟩ : ∃ wo : World, wo = wr := ⟨_, rfl⟩
    by_cases hkl : k < cn
    · obtain ⟨x, hx⟩ : ∃ x, cut[k]? = some x := ⟨_, List.getElem?_eq_getElem (by have := HCN.out; omega)⟩
      have hxi := (HCUT.out.1 k (by have := HCN.out; omega)).1
      rw [hx] at hxi
      obtain ⟨xn, rfl⟩ : ∃ xn : Nat, x = (xn : Int) := ⟨x.toNat, by have := hxi.1; simp at this; omega⟩
      have hxt : xn < tn := by have := hxi.2; have := HTN.out; simp at *; omega
      obtain ⟨s, hs⟩ : ∃ s, i.trims[xn]? = some s := ⟨_, List.getElem?_eq_getElem (by have := HTN.out; omega)⟩
      obtain ⟨b, o, ea, hb, c0, c1⟩ := (HT.out.upd hu.out hn (by simp)) xn s hs
      subst ea
      obtain ⟨cb, co, eb, hcb, hxc⟩ := HC.out k _ hx
      subst eb
      have e0 := keepc _ _ _ _ hu.out hxc
      have e1 := keepc _ _ _ _ hu.out d0
      have e3 := keepc _ _ _ _ hu.out D3.out
      obtain ⟨hi1, hi2, hi3⟩ := sp_in HOK.out.2.1.1 (List.mem_of_getElem? hs)
      have hki : (k : Int) < cn := by omega
      have hxi2 : (xn : Int) < tn := by omega
      have HST := hide (show beforeS i.trims (cut.take (k + 1)) second = v - max 0 (min second s.to_ - s.fr) by
        rw [List.take_add_one, hx, Option.toList_some, beforeS_snoc, ← hv.out]
        unfold spOf
        rw [show (xn : Int).toNat = xn by omega, hs]
        rfl)
      have L2 := Blk.new wo 53 [.int .i64 s.fr, .int .i64 s.to_]
      have u2 := (Upd.refl [] wo).alloc (.cells #[.int .i64 s.fr, .int .i64 s.to_] 53)
      have j0 := L2.cell 0
      have j1 := L2.cell 1
      have V2 := hide (hu.out.trans u2 (by simp))
      clear hs hb hx hxi hcb hxc L2 u2
      have HM := hide (show (if s.fr < if s.to_ < second then s.to_ else second then (if s.to_ < second then s.to_ else second) - s.fr else 0) = max 0 (min second s.to_ - s.fr) by
        by_cases g1 : s.to_ < second
        · rw [if_pos g1]
          by_cases g2 : s.fr < s.to_
          · rw [if_pos g2]; omega
          · rw [if_neg g2]; omega
        · rw [if_neg g1]
          by_cases g2 : s.fr < second
          · rw [if_pos g2]; omega
          · rw [if_neg g2]; omega)
      go_wp2_with fail
      go_roundw
      case rel => exact ⟨k + 1, v - max 0 (min second s.to_ - s.fr), by omega, by go_num, by rw [HM.out], hide HST.out.symm, by omega, V2⟩
      case measure => simp [intOf] <;> omega
    · obtain rfl : k = cn := by omega
      have hki : ¬ (k : Int) < k := by omega
      have hv9 := hv.out
      rw [List.take_of_length_le (by have := HCN.out; omega), HR.out] at hv9
      subst hv9
      go_wp2_with fail
      go_ret
      exact ⟨rfl, hu.out⟩
end Go.Proofs.Ytpkeimdlcafcnaa
