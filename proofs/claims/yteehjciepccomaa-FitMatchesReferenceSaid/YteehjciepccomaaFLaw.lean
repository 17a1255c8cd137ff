/-
  The small functions of the statements: Ints, First, pick, has, away.
-/
import Derived.Test.YteehjciepccomaaFBestP
import Derived.OpenShut
namespace Go.Proofs.Yteehjciepccomaa
open Go.RowKit
set_option maxRecDepth 100000
set_option maxHeartbeats 1000000

def pickN (c n : Int) : Int := (if c < 0 then -(c + 1) else c) % n
theorem pickN_lt (c : Int) {n : Int} (hn : 0 < n) : 0 ≤ pickN c n ∧ pickN c n < n := ⟨Int.emod_nonneg _ (by omega), Int.emod_lt_of_pos _ hn⟩

theorem pick_any (c n : Int) (w : World) (hc : (Lit.int .i64 c).wf = true) (h0 : 0 < n) (_h1 : n ≤ 9223372036854775807) :
    Calls Try.prog 15 #[.int .i64 c, .int .i64 n] w fun e w' => e = .returned (.int .i64 (pickN c n)) ∧ w = w' := by
  have hb : -9223372036854775808 ≤ c ∧ c ≤ 9223372036854775807 := bounds_i64 hc
  by_cases h : c < 0
  · have e : pickN c n = (-(c + 1)) % n := by simp [pickN, h]
    have H := hide e
    obtain ⟨b1, b2⟩ := hb
    clear e hc
    go_enter Try.func15, Try.ntmps15
    go_wp2
    go_ret
    refine ⟨?_, rfl⟩
    rw [H.out, ← Int.tmod_eq_emod_of_nonneg (show 0 ≤ -(c + 1) by omega), Int.neg_tmod]
    rfl
  · have e : pickN c n = c % n := by simp [pickN, h]
    have H := hide e
    obtain ⟨b1, b2⟩ := hb
    clear e hc
    go_enter Try.func15, Try.ntmps15
    go_wp2
    go_ret
    exact ⟨by rw [H.out]; rfl, rfl⟩

theorem rpick_any (c n : Int) (w : World) (hc : (Lit.int .i64 c).wf = true) (h0 : 0 < n) (_h1 : n ≤ 9223372036854775807) :
    Calls Try.prog 40 #[.int .i64 c, .int .i64 n] w fun e w' => e = .returned (.int .i64 (pickN c n)) ∧ w = w' := by
  have hb : -9223372036854775808 ≤ c ∧ c ≤ 9223372036854775807 := bounds_i64 hc
  by_cases h : c < 0
  · have e : pickN c n = (-(c + 1)) % n := by simp [pickN, h]
    have H := hide e
    obtain ⟨b1, b2⟩ := hb
    clear e hc
    go_enter Try.func40, Try.ntmps40
    go_wp2
    go_ret
    refine ⟨?_, rfl⟩
    rw [H.out, ← Int.tmod_eq_emod_of_nonneg (show 0 ≤ -(c + 1) by omega), Int.neg_tmod]
    rfl
  · have e : pickN c n = c % n := by simp [pickN, h]
    have H := hide e
    obtain ⟨b1, b2⟩ := hb
    clear e hc
    go_enter Try.func40, Try.ntmps40
    go_wp2
    go_ret
    exact ⟨by rw [H.out]; rfl, rfl⟩

theorem drop_at {l : List Int} {k : Nat} {z : Int} (h : l[k]? = some z) : l.drop k = z :: l.drop (k + 1) := by
  have hlk := (List.getElem?_eq_some_iff.1 h).1
  rw [List.drop_eq_getElem_cons hlk]
  congr 1
  rw [List.getElem?_eq_getElem hlk] at h
  simpa using h

/-- The element of a list that is in memory, in a later world. -/
theorem Ints.at_ {n₀ : Nat} {w w' : World} {a : Option Addr} {n c : Nat} {zs : List Int} (h : Ints n₀ w (.slice a n c) zs) (hu : Upd [] w w') (hn : n₀ ≤ w.heap.size) {k : Nat} {z : Int} (hz : zs[k]? = some z) : ∃ b o, a = some ⟨b, o, none⟩ ∧ w'.cell? ⟨b, o + k, none⟩ = some (.int .i64 z) := by
  obtain ⟨b, o, ea, hb, hc⟩ := h.form.2 k z hz
  exact ⟨b, o, ea, (hu.cell (p := ⟨b, o + k, none⟩) (Nat.lt_of_lt_of_le hb hn) (by simp)).trans hc⟩
theorem take_eq_succ {zs ys : List Int} {k : Nat} {z y : Int} (h1 : zs[k]? = some z) (h2 : ys[k]? = some y) (h : zs.take k = ys.take k) (e : z = y) : zs.take (k + 1) = ys.take (k + 1) := by
  rw [List.take_add_one, List.take_add_one, h1, h2, h, e]
/-- Ints -/
theorem ints_any {n₀ n₁ : Nat} (a : Option Addr) (n c : Nat) (zs : List Int) (a' : Option Addr) (n' c' : Nat) (ys : List Int) (w : World) (hI : Ints n₀ w (.slice a n c) zs) (hJ : Ints n₁ w (.slice a' n' c') ys) (h0 : n₀ ≤ w.heap.size) (h1 : n₁ ≤ w.heap.size) (hm : n ≤ 1000000000) :
    Calls Try.prog 18 #[.slice a n c, .slice a' n' c'] w fun e w' => e = .returned (.bool (decide (zs = ys))) ∧ Upd [] w w' := by
  have HI := hide hI
  have HJ := hide hJ
  have hl1 := hI.form.1
  have hl2 := hJ.form.1
  have HL1 := hide hl1
  have HL2 := hide hl2
  clear hI hJ hl1 hl2
  obtain ⟨r, hr⟩ : ∃ r, decide (zs = ys) = r := ⟨_, rfl⟩
  rw [hr]
  have HR := hide hr
  clear hr
  by_cases hne : n = n'
  case neg =>
    have hne' : ¬ (n : Int) = n' := by omega
    obtain rfl : r = false := by
      rw [← HR.out]
      exact decide_eq_false (fun e => hne (by rw [HL1.out, HL2.out, e]))
    go_enter Try.func18, Try.ntmps18
    go_wp2_with fail
    go_ret
    exact ⟨rfl, Upd.refl _ _⟩
  subst hne
  go_enter Try.func18, Try.ntmps18
  go_wp2_with fail
  go_loopw [5] (fun i wr => ∃ k : Nat, k ≤ n ∧ i = .int .i64 k ∧ Hid (Upd [] w wr) ∧ Hid (zs.take k = ys.take k))
    (fun i _ => n - (intOf i).toNat)
  case atStart => exact ⟨0, Nat.zero_le _, rfl, Upd.refl _ _, rfl⟩
  case round =>
    obtain ⟨k, hk, rfl, hu, hpre⟩ := hrel
    by_cases hlt : k < n
    · obtain ⟨z, hz⟩ : ∃ z, zs[k]? = some z := ⟨_, List.getElem?_eq_getElem (by have := HL1.out; omega)⟩
      obtain ⟨y, hy⟩ : ∃ y, ys[k]? = some y := ⟨_, List.getElem?_eq_getElem (by have := HL2.out; omega)⟩
      obtain ⟨b, o, ea, hc⟩ := HI.out.at_ hu.out h0 hz
      obtain ⟨b', o', ea', hc'⟩ := HJ.out.at_ hu.out h1 hy
      subst ea ea'
      have HZ := hide hz
      have HY := hide hy
      clear hz hy
      have hun := hide (hu.out.drew)
      by_cases hzy : z = y
      · have HE := hide hzy
        subst hzy
        go_wp2_with fail
        go_region
        go_wp2_with fail
        go_roundw
        case rel => exact ⟨k + 1, by omega, by go_num, hun, take_eq_succ HZ.out HY.out hpre.out rfl⟩
        case measure => simp [intOf] <;> omega
      · obtain rfl : r = false := by
          rw [← HR.out]
          refine decide_eq_false (fun e => hzy ?_)
          have := HZ.out
          rw [e, HY.out] at this
          simpa using this.symm
        go_wp2_with fail
        go_region
        go_wp2_with fail
        go_ret
        exact ⟨rfl, hun.out⟩
    · obtain rfl : k = n := by omega
      obtain ⟨wo, rfl⟩ : ∃ wo : World, wo = wr := ⟨_, rfl⟩
      obtain rfl : r = true := by
        rw [← HR.out]
        have h := hpre.out
        rw [List.take_of_length_le (by have := HL1.out; omega), List.take_of_length_le (by have := HL2.out; omega)] at h
        exact decide_eq_true h
      go_wp2_with fail
      go_ret
      exact ⟨rfl, hu.out⟩
/-- has -/
theorem lhas_any {n₀ : Nat} (a : Option Addr) (n c : Nat) (zs : List Int) (x : Int) (w : World) (hI : Ints n₀ w (.slice a n c) zs) (hm : n ≤ 1000000000) :
    Calls Try.prog 31 #[.slice a n c, .int .i64 x] w fun e w' => e = .returned (.bool (decide (x ∈ zs))) ∧ w = w' := by
  have HI := hide hI.form.2
  have HZ := hide hI.form.1
  clear hI
  go_enter Try.func31, Try.ntmps31
  go_wp2_with fail
  go_loopw [5] (fun i wr => ∃ k : Nat, k ≤ n ∧ i = .int .i64 k ∧ wr = w ∧ Hid (∀ j v, j < k → zs[j]? = some v → v ≠ x))
    (fun i _ => n - (intOf i).toNat)
  case atStart => exact ⟨0, Nat.zero_le _, rfl, rfl, fun j v hj => by omega⟩
  case round =>
    obtain ⟨k, hk, rfl, rfl, hno⟩ := hrel
    by_cases hlt : k < n
    · obtain ⟨v, hv⟩ : ∃ v, zs[k]? = some v := ⟨_, List.getElem?_eq_getElem (by rw [← HZ.out]; exact hlt)⟩
      obtain ⟨b, o, rfl, _, hc⟩ := HI.out k v hv
      have HV := hide hv
      clear hv
      by_cases hx : v = x
      · have HX := hide hx
        have e : decide (x ∈ zs) = true := decide_eq_true (by rw [← HX.out]; exact List.mem_of_getElem? HV.out)
        have HE := hide e
        rw [HX.out] at hc
        clear hx e
        go_wp2_with fail
        go_ret
        exact ⟨by rw [HE.out]; rfl, rfl⟩
      · have HX := hide hx
        go_wp2_with fail
        go_roundw
        case rel => exact ⟨k + 1, by omega, by go_num, by first | rfl | trivial, fun j u hj hu => by
          rcases Nat.lt_or_ge j k with h | h
          · exact hno.out j u h hu
          · obtain rfl : j = k := by omega
            have := HV.out
            rw [hu] at this
            obtain rfl : u = v := by simpa using this
            exact HX.out⟩
        case measure => simp [intOf] <;> omega
    · obtain rfl : k = n := by omega
      have e : decide (x ∈ zs) = false := decide_eq_false (fun hm => by
        obtain ⟨j, hj⟩ := List.getElem?_of_mem hm
        have hjl := (List.getElem?_eq_some_iff.1 hj).1
        exact hno.out j x (by have := HZ.out; omega) hj rfl)
      have HE := hide e
      clear e
      go_wp2_with fail
      go_ret
      exact ⟨by rw [HE.out]; rfl, rfl⟩
/-- away -/
theorem laway_any (a b : Int) (w : World) (h1 : -1000000000000000000 ≤ a ∧ a ≤ 1000000000000000000) (h2 : -1000000000000000000 ≤ b ∧ b ≤ 1000000000000000000) : Calls Try.prog 32 #[.int .i64 a, .int .i64 b] w fun e w' => e = .returned (.int .i64 (awayS a b)) ∧ w = w' := by
  obtain ⟨a1, a2⟩ := h1
  obtain ⟨b1, b2⟩ := h2
  by_cases h : a < b
  · rw [show awayS a b = b - a by unfold awayS; omega]
    go_enter Try.func32, Try.ntmps32
    go_wp2_with fail
    go_ret
    exact ⟨rfl, rfl⟩
  · rw [show awayS a b = a - b by unfold awayS; omega]
    go_enter Try.func32, Try.ntmps32
    go_wp2_with fail
    go_ret
    exact ⟨rfl, rfl⟩
theorem first_any {n₀ n₁ : Nat} (a : Option Addr) (n c : Nat) (zs : List Int) (a' : Option Addr) (n' c' : Nat) (ys : List Int) (w : World) (hI : Ints n₀ w (.slice a n c) zs) (hJ : Ints n₁ w (.slice a' n' c') ys) (h0 : n₀ ≤ w.heap.size) (h1 : n₁ ≤ w.heap.size) (hm : n ≤ 1000000000) (hm' : n' ≤ 1000000000) :
    Calls Try.prog 30 #[.slice a n c, .slice a' n' c'] w fun e w' => e = .returned (.bool (firstS zs ys)) ∧ Upd [] w w' := by
  have HI := hide hI
  have HJ := hide hJ
  have hl1 := hI.form.1
  have hl2 := hJ.form.1
  have HL1 := hide hl1
  have HL2 := hide hl2
  clear hI hJ hl1 hl2
  obtain ⟨r, hr⟩ : ∃ r, firstS zs ys = r := ⟨_, rfl⟩
  rw [hr]
  have HR := hide hr
  clear hr
  go_enter Try.func30, Try.ntmps30
  go_wp2_with fail
  go_loopw [5] (fun i wr => ∃ k : Nat, k ≤ n ∧ k ≤ n' ∧ i = .int .i64 k ∧ Hid (Upd [] w wr) ∧ Hid (firstS (zs.drop k) (ys.drop k) = r))
    (fun i _ => n - (intOf i).toNat)
  case atStart => exact ⟨0, Nat.zero_le _, Nat.zero_le _, rfl, Upd.refl _ _, HR.out⟩
  case round =>
    obtain ⟨k, hk, hk', rfl, hu, hpre⟩ := hrel
    by_cases hlt : k < n
    case neg =>
      obtain rfl : k = n := by omega
      obtain ⟨wo, rfl⟩ : ∃ wo : World, wo = wr := ⟨_, rfl⟩
      obtain rfl : r = false := by
        rw [← hpre.out, List.drop_of_length_le (l := zs) (by have := HL1.out; omega)]
        rfl
      go_wp2_with fail
      go_ret
      exact ⟨rfl, hu.out⟩
    by_cases hlt' : k < n'
    case neg =>
      obtain rfl : k = n' := by omega
      obtain ⟨wo, rfl⟩ : ∃ wo : World, wo = wr := ⟨_, rfl⟩
      obtain rfl : r = false := by
        rw [← hpre.out, List.drop_of_length_le (l := ys) (by have := HL2.out; omega)]
        cases zs.drop k <;> rfl
      go_wp2_with fail
      go_ret
      exact ⟨rfl, hu.out⟩
    obtain ⟨z, hz⟩ : ∃ z, zs[k]? = some z := ⟨_, List.getElem?_eq_getElem (by have := HL1.out; omega)⟩
    obtain ⟨y, hy⟩ : ∃ y, ys[k]? = some y := ⟨_, List.getElem?_eq_getElem (by have := HL2.out; omega)⟩
    obtain ⟨b, o, ea, hc⟩ := HI.out.at_ hu.out h0 hz
    obtain ⟨b', o', ea', hc'⟩ := HJ.out.at_ hu.out h1 hy
    subst ea ea'
    have hd := hpre.out
    rw [drop_at hz, drop_at hy, firstS] at hd
    have HD := hide hd
    have hun := hide (hu.out.drew)
    have hun2 := hide (hu.out.drew.drew)
    have d1 : wr.drew.cell? ⟨b, o + k, none⟩ = some (.int .i64 z) := hc
    have d2 : wr.drew.cell? ⟨b', o' + k, none⟩ = some (.int .i64 y) := hc'
    clear hz hy hd
    by_cases hzy : z = y
    · have h := HD.out
      rw [if_pos hzy] at h
      have HH := hide h
      subst hzy
      clear h
      go_wp2_with fail
      go_region
      go_wp2_with fail
      go_roundw
      case rel => exact ⟨k + 1, by omega, by omega, by go_num, hun, HH.out⟩
      case measure => simp [intOf] <;> omega
    · have h := HD.out
      rw [if_neg hzy] at h
      have HH := hide h
      clear h
      go_wp2_with fail
      go_region
      go_wp2_with fail
      go_region
      go_wp2_with fail
      go_ret
      exact ⟨by rw [← HH.out]; rfl, hun2.out⟩
end Go.Proofs.Yteehjciepccomaa
