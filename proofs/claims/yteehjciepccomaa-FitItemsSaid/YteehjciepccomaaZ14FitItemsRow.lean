/-
  The small functions of the statements: Ints, First, pick, has, away.
  The program's functions as the statements use them: results as lists in memory.
  The chapter's examples: their values.
  What Solve answers; a choice that goes on.
  sane: the chapter's examples hold.
-/
import Derived.Test.YteehjciepccomaaZ13FitItemsRow
import Derived.OpenShut
import Derived.Test.YteehjciepccomaaZ8FitItemsRow

namespace Go.Proofs.Yteehjciepccomaa
open Go.RowKit
set_option maxRecDepth 100000
set_option maxHeartbeats 1000000

def pickN (c n : Int) : Int := (if c < 0 then -(c + 1) else c) % n
theorem pickN_lt (c : Int) {n : Int} (hn : 0 < n) : 0 ≤ pickN c n ∧ pickN c n < n := ⟨Int.emod_nonneg _ (by omega), Int.emod_lt_of_pos _ hn⟩

theorem pick_any (c n : Int) (w : World) (hc : (Lit.int .i64 c).wf = true) (h0 : 0 < n) (_h1 : n ≤ 9223372036854775807) :
    Calls Try.prog 15 #[.int .i64 c, .int .i64 n] w fun e w' => e = .returned (.int .i64 (pickN c n)) ∧ w = w' := by
  have hb : -9223372036854775808 ≤ c ∧ c ≤ 9223372036854775807 := bounds_i64 hc
  by_cases h : c < 0
  · have e : pickN c n = (-(c + 1)) % n := by simp [pickN, h]
    have H := hide e
    obtain ⟨b1, b2⟩ := hb
    clear e hc
    go_enter Try.func15, Try.ntmps15
    go_wp2
    go_ret
    refine ⟨?_, rfl⟩
    rw [H.out, ← Int.tmod_eq_emod_of_nonneg (show 0 ≤ -(c + 1) by omega), Int.neg_tmod]
    rfl
  · have e : pickN c n = c % n := by simp [pickN, h]
    have H := hide e
    obtain ⟨b1, b2⟩ := hb
    clear e hc
    go_enter Try.func15, Try.ntmps15
    go_wp2
    go_ret
    exact ⟨by rw [H.out]; rfl, rfl⟩

theorem rpick_any (c n : Int) (w : World) (hc : (Lit.int .i64 c).wf = true) (h0 : 0 < n) (_h1 : n ≤ 9223372036854775807) :
    Calls Try.prog 40 #[.int .i64 c, .int .i64 n] w fun e w' => e = .returned (.int .i64 (pickN c n)) ∧ w = w' := by
  have hb : -9223372036854775808 ≤ c ∧ c ≤ 9223372036854775807 := bounds_i64 hc
  by_cases h : c < 0
  · have e : pickN c n = (-(c + 1)) % n := by simp [pickN, h]
    have H := hide e
    obtain ⟨b1, b2⟩ := hb
    clear e hc
    go_enter Try.func40, Try.ntmps40
    go_wp2
    go_ret
    refine ⟨?_, rfl⟩
    rw [H.out, ← Int.tmod_eq_emod_of_nonneg (show 0 ≤ -(c + 1) by omega), Int.neg_tmod]
    rfl
  · have e : pickN c n = c % n := by simp [pickN, h]
    have H := hide e
    obtain ⟨b1, b2⟩ := hb
    clear e hc
    go_enter Try.func40, Try.ntmps40
    go_wp2
    go_ret
    exact ⟨by rw [H.out]; rfl, rfl⟩

theorem drop_at {l : List Int} {k : Nat} {z : Int} (h : l[k]? = some z) : l.drop k = z :: l.drop (k + 1) := by
  have hlk := (List.getElem?_eq_some_iff.1 h).1
  rw [List.drop_eq_getElem_cons hlk]
  congr 1
  rw [List.getElem?_eq_getElem hlk] at h
  simpa using h

/-- The element of a list that is in memory, in a later world. -/
theorem Ints.at_ {n₀ : Nat} {w w' : World} {a : Option Addr} {n c : Nat} {zs : List Int} (h : Ints n₀ w (.slice a n c) zs) (hu : Upd [] w w') (hn : n₀ ≤ w.heap.size) {k : Nat} {z : Int} (hz : zs[k]? = some z) : ∃ b o, a = some ⟨b, o, none⟩ ∧ w'.cell? ⟨b, o + k, none⟩ = some (.int .i64 z) := by
  obtain ⟨b, o, ea, hb, hc⟩ := h.form.2 k z hz
  exact ⟨b, o, ea, (hu.cell (p := ⟨b, o + k, none⟩) (Nat.lt_of_lt_of_le hb hn) (by simp)).trans hc⟩
theorem take_eq_succ {zs ys : List Int} {k : Nat} {z y : Int} (h1 : zs[k]? = some z) (h2 : ys[k]? = some y) (h : zs.take k = ys.take k) (e : z = y) : zs.take (k + 1) = ys.take (k + 1) := by
  rw [List.take_add_one, List.take_add_one, h1, h2, h, e]
/-- Ints -/
theorem ints_any {n₀ n₁ : Nat} (a : Option Addr) (n c : Nat) (zs : List Int) (a' : Option Addr) (n' c' : Nat) (ys : List Int) (w : World) (hI : Ints n₀ w (.slice a n c) zs) (hJ : Ints n₁ w (.slice a' n' c') ys) (h0 : n₀ ≤ w.heap.size) (h1 : n₁ ≤ w.heap.size) (hm : n ≤ 1000000000) :
    Calls Try.prog 18 #[.slice a n c, .slice a' n' c'] w fun e w' => e = .returned (.bool (decide (zs = ys))) ∧ Upd [] w w' := by
  have HI := hide hI
  have HJ := hide hJ
  have hl1 := hI.form.1
  have hl2 := hJ.form.1
  have HL1 := hide hl1
  have HL2 := hide hl2
  clear hI hJ hl1 hl2
  obtain ⟨r, hr⟩ : ∃ r, decide (zs = ys) = r := ⟨_, rfl⟩
  rw [hr]
  have HR := hide hr
  clear hr
  by_cases hne : n = n'
  case neg =>
    have hne' : ¬ (n : Int) = n' := by omega
    obtain rfl : r = false := by
      rw [← HR.out]
      exact decide_eq_false (fun e => hne (by rw [HL1.out, HL2.out, e]))
    go_enter Try.func18, Try.ntmps18
    go_wp2_with fail
    go_ret
    exact ⟨rfl, Upd.refl _ _⟩
  subst hne
  go_enter Try.func18, Try.ntmps18
  go_wp2_with fail
  go_loopw [5] (fun i wr => ∃ k : Nat, k ≤ n ∧ i = .int .i64 k ∧ Hid (Upd [] w wr) ∧ Hid (zs.take k = ys.take k))
    (fun i _ => n - (intOf i).toNat)
  case atStart => exact ⟨0, Nat.zero_le _, rfl, Upd.refl _ _, rfl⟩
  case round =>
    obtain ⟨k, hk, rfl, hu, hpre⟩ := hrel
    by_cases hlt : k < n
    · obtain ⟨z, hz⟩ : ∃ z, zs[k]? = some z := ⟨_, List.getElem?_eq_getElem (by have := HL1.out; omega)⟩
      obtain ⟨y, hy⟩ : ∃ y, ys[k]? = some y := ⟨_, List.getElem?_eq_getElem (by have := HL2.out; omega)⟩
      obtain ⟨b, o, ea, hc⟩ := HI.out.at_ hu.out h0 hz
      obtain ⟨b', o', ea', hc'⟩ := HJ.out.at_ hu.out h1 hy
      subst ea ea'
      have HZ := hide hz
      have HY := hide hy
      clear hz hy
      have hun := hide (hu.out.drew)
      by_cases hzy : z = y
      · have HE := hide hzy
        subst hzy
        go_wp2_with fail
        go_region
        go_wp2_with fail
        go_roundw
        case rel => exact ⟨k + 1, by omega, by go_num, hun, take_eq_succ HZ.out HY.out hpre.out rfl⟩
        case measure => simp [intOf] <;> omega
      · obtain rfl : r = false := by
          rw [← HR.out]
          refine decide_eq_false (fun e => hzy ?_)
          have := HZ.out
          rw [e, HY.out] at this
          simpa using this.symm
        go_wp2_with fail
        go_region
        go_wp2_with fail
        go_ret
        exact ⟨rfl, hun.out⟩
    · obtain rfl : k = n := by omega
      obtain ⟨wo, rfl⟩ : ∃ wo : World, wo = wr := ⟨_, rfl⟩
      obtain rfl : r = true := by
        rw [← HR.out]
        have h := hpre.out
        rw [List.take_of_length_le (by have := HL1.out; omega), List.take_of_length_le (by have := HL2.out; omega)] at h
        exact decide_eq_true h
      go_wp2_with fail
      go_ret
      exact ⟨rfl, hu.out⟩
/-- has -/
theorem lhas_any {n₀ : Nat} (a : Option Addr) (n c : Nat) (zs : List Int) (x : Int) (w : World) (hI : Ints n₀ w (.slice a n c) zs) (hm : n ≤ 1000000000) :
    Calls Try.prog 31 #[.slice a n c, .int .i64 x] w fun e w' => e = .returned (.bool (decide (x ∈ zs))) ∧ w = w' := by
  have HI := hide hI.form.2
  have HZ := hide hI.form.1
  clear hI
  go_enter Try.func31, Try.ntmps31
  go_wp2_with fail
  go_loopw [5] (fun i wr => ∃ k : Nat, k ≤ n ∧ i = .int .i64 k ∧ wr = w ∧ Hid (∀ j v, j < k → zs[j]? = some v → v ≠ x))
    (fun i _ => n - (intOf i).toNat)
  case atStart => exact ⟨0, Nat.zero_le _, rfl, rfl, fun j v hj => by omega⟩
  case round =>
    obtain ⟨k, hk, rfl, rfl, hno⟩ := hrel
    by_cases hlt : k < n
    · obtain ⟨v, hv⟩ : ∃ v, zs[k]? = some v := ⟨_, List.getElem?_eq_getElem (by rw [← HZ.out]; exact hlt)⟩
      obtain ⟨b, o, rfl, _, hc⟩ := HI.out k v hv
      have HV := hide hv
      clear hv
      by_cases hx : v = x
      · have HX := hide hx
        have e : decide (x ∈ zs) = true := decide_eq_true (by rw [← HX.out]; exact List.mem_of_getElem? HV.out)
        have HE := hide e
        rw [HX.out] at hc
        clear hx e
        go_wp2_with fail
        go_ret
        exact ⟨by rw [HE.out]; rfl, rfl⟩
      · have HX := hide hx
        go_wp2_with fail
        go_roundw
        case rel => exact ⟨k + 1, by omega, by go_num, by first | rfl | trivial, fun j u hj hu => by
          rcases Nat.lt_or_ge j k with h | h
          · exact hno.out j u h hu
          · obtain rfl : j = k := by omega
            have := HV.out
            rw [hu] at this
            obtain rfl : u = v := by simpa using this
            exact HX.out⟩
        case measure => simp [intOf] <;> omega
    · obtain rfl : k = n := by omega
      have e : decide (x ∈ zs) = false := decide_eq_false (fun hm => by
        obtain ⟨j, hj⟩ := List.getElem?_of_mem hm
        have hjl := (List.getElem?_eq_some_iff.1 hj).1
        exact hno.out j x (by have := HZ.out; omega) hj rfl)
      have HE := hide e
      clear e
      go_wp2_with fail
      go_ret
      exact ⟨by rw [HE.out]; rfl, rfl⟩
/-- away -/
theorem laway_any (a b : Int) (w : World) (h1 : -1000000000000000000 ≤ a ∧ a ≤ 1000000000000000000) (h2 : -1000000000000000000 ≤ b ∧ b ≤ 1000000000000000000) : Calls Try.prog 32 #[.int .i64 a, .int .i64 b] w fun e w' => e = .returned (.int .i64 (awayS a b)) ∧ w = w' := by
  obtain ⟨a1, a2⟩ := h1
  obtain ⟨b1, b2⟩ := h2
  by_cases h : a < b
  · rw [show awayS a b = b - a by unfold awayS; omega]
    go_enter Try.func32, Try.ntmps32
    go_wp2_with fail
    go_ret
    exact ⟨rfl, rfl⟩
  · rw [show awayS a b = a - b by unfold awayS; omega]
    go_enter Try.func32, Try.ntmps32
    go_wp2_with fail
    go_ret
    exact ⟨rfl, rfl⟩
theorem first_any {n₀ n₁ : Nat} (a : Option Addr) (n c : Nat) (zs : List Int) (a' : Option Addr) (n' c' : Nat) (ys : List Int) (w : World) (hI : Ints n₀ w (.slice a n c) zs) (hJ : Ints n₁ w (.slice a' n' c') ys) (h0 : n₀ ≤ w.heap.size) (h1 : n₁ ≤ w.heap.size) (hm : n ≤ 1000000000) (hm' : n' ≤ 1000000000) :
    Calls Try.prog 30 #[.slice a n c, .slice a' n' c'] w fun e w' => e = .returned (.bool (firstS zs ys)) ∧ Upd [] w w' := by
  have HI := hide hI
  have HJ := hide hJ
  have hl1 := hI.form.1
  have hl2 := hJ.form.1
  have HL1 := hide hl1
  have HL2 := hide hl2
  clear hI hJ hl1 hl2
  obtain ⟨r, hr⟩ : ∃ r, firstS zs ys = r := ⟨_, rfl⟩
  rw [hr]
  have HR := hide hr
  clear hr
  go_enter Try.func30, Try.ntmps30
  go_wp2_with fail
  go_loopw [5] (fun i wr => ∃ k : Nat, k ≤ n ∧ k ≤ n' ∧ i = .int .i64 k ∧ Hid (Upd [] w wr) ∧ Hid (firstS (zs.drop k) (ys.drop k) = r))
    (fun i _ => n - (intOf i).toNat)
  case atStart => exact ⟨0, Nat.zero_le _, Nat.zero_le _, rfl, Upd.refl _ _, HR.out⟩
  case round =>
    obtain ⟨k, hk, hk', rfl, hu, hpre⟩ := hrel
    by_cases hlt : k < n
    case neg =>
      obtain rfl : k = n := by omega
      obtain ⟨wo, rfl⟩ : ∃ wo : World, wo = wr := ⟨_, rfl⟩
      obtain rfl : r = false := by
        rw [← hpre.out, List.drop_of_length_le (l := zs) (by have := HL1.out; omega)]
        rfl
      go_wp2_with fail
      go_ret
      exact ⟨rfl, hu.out⟩
    by_cases hlt' : k < n'
    case neg =>
      obtain rfl : k = n' := by omega
      obtain ⟨wo, rfl⟩ : ∃ wo : World, wo = wr := ⟨_, rfl⟩
      obtain rfl : r = false := by
        rw [← hpre.out, List.drop_of_length_le (l := ys) (by have := HL2.out; omega)]
        cases zs.drop k <;> rfl
      go_wp2_with fail
      go_ret
      exact ⟨rfl, hu.out⟩
    obtain ⟨z, hz⟩ : ∃ z, zs[k]? = some z := ⟨_, List.getElem?_eq_getElem (by have := HL1.out; omega)⟩
    obtain ⟨y, hy⟩ : ∃ y, ys[k]? = some y := ⟨_, List.getElem?_eq_getElem (by have := HL2.out; omega)⟩
    obtain ⟨b, o, ea, hc⟩ := HI.out.at_ hu.out h0 hz
    obtain ⟨b', o', ea', hc'⟩ := HJ.out.at_ hu.out h1 hy
    subst ea ea'
    have hd := hpre.out
    rw [drop_at hz, drop_at hy, firstS] at hd
    have HD := hide hd
    have hun := hide (hu.out.drew)
    have hun2 := hide (hu.out.drew.drew)
    have d1 : wr.drew.cell? ⟨b, o + k, none⟩ = some (.int .i64 z) := hc
    have d2 : wr.drew.cell? ⟨b', o' + k, none⟩ = some (.int .i64 y) := hc'
    clear hz hy hd
    by_cases hzy : z = y
    · have h := HD.out
      rw [if_pos hzy] at h
      have HH := hide h
      subst hzy
      clear h
      go_wp2_with fail
      go_region
      go_wp2_with fail
      go_roundw
      case rel => exact ⟨k + 1, by omega, by omega, by go_num, hun, HH.out⟩
      case measure => simp [intOf] <;> omega
    · have h := HD.out
      rw [if_neg hzy] at h
      have HH := hide h
      clear h
      go_wp2_with fail
      go_region
      go_wp2_with fail
      go_region
      go_wp2_with fail
      go_ret
      exact ⟨by rw [← HH.out]; rfl, hun2.out⟩
end Go.Proofs.Yteehjciepccomaa

namespace Go.Proofs.Yteehjciepccomaa
open Go.RowKit
set_option maxRecDepth 100000
set_option maxHeartbeats 1000000

theorem eq_of_strict {l m : List Int} (hl : l.Pairwise (· < ·)) (hm : m.Pairwise (· < ·)) (h : ∀ x, x ∈ l ↔ x ∈ m) : l = m := by
  induction l generalizing m with
  | nil => cases m with
    | nil => rfl
    | cons y m => exact absurd ((h y).2 (by simp)) (by simp)
  | cons x l ih => cases m with
    | nil => exact absurd ((h x).1 (by simp)) (by simp)
    | cons y m =>
      rw [List.pairwise_cons] at hl hm
      have hxy : x = y := by
        have h1 := (h x).1 (by simp)
        have h2 := (h y).2 (by simp)
        simp only [List.mem_cons] at h1 h2
        rcases h1 with h1 | h1
        · exact h1
        · rcases h2 with h2 | h2
          · exact h2.symm
          · have := hm.1 x h1
            have := hl.1 y h2
            omega
      subst hxy
      congr 1
      refine ih hl.2 hm.2 fun z => ?_
      have hz := h z
      simp only [List.mem_cons] at hz
      constructor
      · intro hzl
        have := hl.1 z hzl
        rcases hz.1 (.inr hzl) with e | e
        · omega
        · exact e
      · intro hzm
        have := hm.1 z hzm
        rcases hz.2 (.inr hzm) with e | e
        · omega
        · exact e
theorem memb_strict (L : List Int) (k : Nat) : (memb L k).Pairwise (· < ·) := by
  unfold memb
  rw [List.pairwise_map]
  exact (List.Pairwise.filter _ List.pairwise_lt_range).imp (by intro a b h; exact_mod_cast h)
theorem memb_eq {L M : List Int} (hM : M.Pairwise (· < ·)) (hb : ∀ x ∈ L, 0 ≤ x ∧ x ≤ 72000) (h : ∀ x, x ∈ L ↔ x ∈ M) : memb L 72001 = M :=
  eq_of_strict (memb_strict L _) hM fun x => (memb_mem hb x).trans (h x)

theorem own_slice {w : World} {base : Nat} {v : Value} {zs : List Int} (h : w.ownsRow base 3 1 v zs.length (zs.map (Value.int .i64))) : ∃ A c, v = .slice A zs.length c ∧ Ints w.heap.size w (.slice A zs.length c) zs := by
  obtain ⟨A, c, rfl⟩ := own_form h
  exact ⟨A, c, rfl, own_ints h⟩

section
variable {n₀ : Nat} (a : Option Addr) (c : Nat) (l : List Pc) (total : Int) (w : World) (hI : PcsAt n₀ w a l) (hn : n₀ ≤ w.heap.size) (hm : l.length ≤ maxLen)
include hI hn hm
theorem resume_use (ta : Option Addr) (tn tc : Nat) (took : List Int) {n₁ : Nat} (hJ : Ints n₁ w (.slice ta tn tc) took) (hn1 : n₁ ≤ w.heap.size) (hm2 : took.length ≤ maxLen) {ri : List Int} {rc re : Int} (hr : resumeS l total took = (ri, rc, re)) :
    Calls Try.prog 23 #[.slice a l.length c, .int .i64 total, .slice ta tn tc] w fun e w' => ∃ A c', e = .returned (.tuple #[.slice A ri.length c', .int .i64 rc, .int .i64 re]) ∧ Ints w'.heap.size w' (.slice A ri.length c') ri ∧ Upd [] w w' := by
  refine (resume_any (n₀ := w.heap.size) a c l total ta tn tc took w (hI.mono hn) (hJ.mono hn1) (Nat.le_refl _) hm hm2).mono ?_
  rintro e w' ⟨v, rfl, h1, h2⟩
  rw [hr] at h1 ⊢
  obtain ⟨A, c', rfl, h3⟩ := own_slice h1
  exact ⟨A, c', rfl, h3, (Upd.refl [] w).below h2⟩
theorem solve_use {ri : List Int} {rc re : Int} (hr : resumeS l total [] = (ri, rc, re)) :
    Calls Try.prog 19 #[.slice a l.length c, .int .i64 total] w fun e w' => ∃ A c', e = .returned (.tuple #[.slice A ri.length c', .int .i64 rc, .int .i64 re]) ∧ Ints w'.heap.size w' (.slice A ri.length c') ri ∧ Upd [] w w' := by
  refine (solve_any a c l total w hI hn hm).mono ?_
  rintro e w' ⟨v, rfl, h1, h2⟩
  rw [hr] at h1 ⊢
  obtain ⟨A, c', rfl, h3⟩ := own_slice h1
  exact ⟨A, c', rfl, h3, (Upd.refl [] w).below h2⟩
theorem blame_use (hV : ValidS l total) {ri : Int} {rl : List Int} (hr : blameS l total = (ri, rl)) :
    Calls Try.prog 21 #[.slice a l.length c, .int .i64 total] w fun e w' => ∃ A c', e = .returned (.tuple #[.int .i64 ri, .slice A rl.length c', .int .i64 0]) ∧ Ints w'.heap.size w' (.slice A rl.length c') rl ∧ Upd [] w w' := by
  refine (blame_yes a c l total w hI hn hm hV).mono ?_
  rintro e w' ⟨v, rfl, h1, h2⟩
  rw [hr] at h1 ⊢
  obtain ⟨A, c', rfl, h3⟩ := own_slice h1
  exact ⟨A, c', rfl, h3, (Upd.refl [] w).below h2⟩
theorem begins_use (hV : ValidS l 0) (n : Nat) (hn2 : n ≤ l.length) (hc : l.length ≤ c) {rl : List Int} (hr : beginsL l n = rl) :
    Calls Try.prog 16 #[.slice a l.length c, .int .i64 (n : Int)] w fun e w' => ∃ A c', e = .returned (.tuple #[.slice A rl.length c', .int .i64 0]) ∧ Ints w'.heap.size w' (.slice A rl.length c') rl ∧ Upd [] w w' := by
  refine (begins_yes a c l n w hI hn hm hc hV hn2).mono ?_
  rintro e w' ⟨v, rfl, h1, h2⟩
  rw [hr] at h1
  obtain ⟨A, c', rfl, h3⟩ := own_slice h1
  exact ⟨A, c', rfl, h3, (Upd.refl [] w).below h2⟩
theorem check_use (ca : Option Addr) (cn cc : Nat) (ch : List Int) {n₁ : Nat} (hJ : Ints n₁ w (.slice ca cn cc) ch) (hn1 : n₁ ≤ w.heap.size) (hm2 : ch.length ≤ maxLen) :
    Calls Try.prog 28 #[.slice a l.length c, .int .i64 total, .slice ca cn cc] w fun e w' => e = .returned (if ValidS l total ∧ ch.length = l.length ∧ fitsS total l 0 ch = true then .tuple #[.int .i64 (costS l ch), .bool true] else .tuple #[.int .i64 0, .bool false]) ∧ Upd [] w w' := by
  obtain rfl := hJ.form.1
  exact check_any (n₀ := w.heap.size) a c l total ca cc ch w (hI.mono hn) (hJ.mono hn1) (Nat.le_refl _) hm hm2
end
end Go.Proofs.Yteehjciepccomaa

namespace Go.Proofs.Yteehjciepccomaa
open Go.RowKit
set_option maxRecDepth 100000
set_option maxHeartbeats 1000000

def exS (j : Int) : List Pc := [⟨[10], 10, -1⟩, ⟨[170, 200], 200, -1⟩, ⟨[60, 90, 120], 90, -1⟩, ⟨[30], 30, j⟩]

theorem ex_r1 : resumeS (exS 300) 330 [] = ([10, 200, 90, 30], 0, 0) := by decide +kernel
theorem ex_r2 : resumeS (exS 300) 330 [10, 230] = ([60, 30], 30, 0) := by decide +kernel
theorem ex_r3 : resumeS (exS 300) 330 [10, 260] = ([], 0, 100) := by decide +kernel
theorem ex_r4 : resumeS (exS 300) 340 [] = ([], 0, 100) := by decide +kernel
theorem ex_v1 : ValidS (exS 300) 330 := by decide +kernel
theorem ex_v2 : ValidS (exS 300) 340 := by decide +kernel
theorem ex_v3 : ValidS (exS 305) 340 := by decide +kernel
theorem ex_v4 : ValidS (exS 300) 0 := by decide +kernel
theorem ex_v5 : ¬ ValidS (exS 300) 3601 := by decide +kernel
theorem ex_c1 : (ValidS (exS 300) 330 ∧ ([10, 170, 120, 30] : List Int).length = (exS 300).length ∧ fitsS 330 (exS 300) 0 [10, 170, 120, 30] = true) ∧ costS (exS 300) [10, 170, 120, 30] = 60 := by decide +kernel
theorem ex_c2 : ¬ (ValidS (exS 300) 330 ∧ ([10, 200, 60, 30] : List Int).length = (exS 300).length ∧ fitsS 330 (exS 300) 0 [10, 200, 60, 30] = true) := by decide +kernel
theorem strict_of {M : List Int} (h : decide (M.Pairwise (· < ·)) = true) : M.Pairwise (· < ·) := of_decide_eq_true h
theorem memb_val {L M : List Int} (hM : decide (M.Pairwise (· < ·)) = true) (hb : decide (∀ x ∈ L, 0 ≤ x ∧ x ≤ 72000) = true) (h1 : decide (∀ x ∈ L, x ∈ M) = true) (h2 : decide (∀ x ∈ M, x ∈ L) = true) : memb L 72001 = M :=
  memb_eq (of_decide_eq_true hM) (of_decide_eq_true hb) fun x => ⟨of_decide_eq_true h1 x, of_decide_eq_true h2 x⟩
theorem ex_b1 : blameS (exS 300) 340 = (4, [330]) := by
  have h : blameS (exS 300) 340 = (4, memb (reachS (exS 300) [0]) 72001) := by
    rw [blameS, exS, blameFrom, if_neg (by decide +kernel), blameFrom, if_neg (by decide +kernel), blameFrom, if_neg (by decide +kernel), blameFrom, if_neg (by decide +kernel), blameFrom, if_neg (by decide +kernel)]
    rfl
  rw [h, memb_val (M := [330]) (by decide +kernel) (by decide +kernel) (by decide +kernel) (by decide +kernel)]
theorem ex_b2 : blameS (exS 305) 340 = (3, [240, 270, 300, 330]) := by
  have h : blameS (exS 305) 340 = (3, memb (reachS ((exS 305).take 3) [0]) 72001) := by
    rw [blameS, exS, blameFrom, if_neg (by decide +kernel), blameFrom, if_neg (by decide +kernel), blameFrom, if_neg (by decide +kernel), blameFrom, if_pos (by decide +kernel)]
    rfl
  rw [h, memb_val (M := [240, 270, 300, 330]) (by decide +kernel) (by decide +kernel) (by decide +kernel) (by decide +kernel)]
theorem ex_b3 : blameS (exS 300) 330 = (-1, []) := by
  rw [blameS, exS, blameFrom, if_neg (by decide +kernel), blameFrom, if_neg (by decide +kernel), blameFrom, if_neg (by decide +kernel), blameFrom, if_neg (by decide +kernel), blameFrom, if_pos (by decide +kernel)]
theorem ex_g1 : beginsL (exS 300) 2 = [180, 210] := by
  have h : beginsL (exS 300) 2 = (memb (reachS ((exS 300).take 2) [0]) 72001).filter (meetsS ⟨[60, 90, 120], 90, -1⟩) := rfl
  rw [h, memb_val (M := [180, 210]) (by decide +kernel) (by decide +kernel) (by decide +kernel) (by decide +kernel)]
  decide +kernel

theorem ints_cells {zs : List Int} {k : Nat} {z : Int} (h : zs[k]? = some z) : (zs.map (Value.int .i64))[k]? = some (.int .i64 z) := by
  rw [List.getElem?_map, h]; rfl
theorem example_any (j : Int) (w : World) :
    Calls Try.prog 39 #[.int .i64 j] w fun e w' => ∃ b, e = .returned (.slice (some ⟨b, 0, none⟩) 4 4) ∧ PcsAt w'.heap.size w' (some ⟨b, 0, none⟩) (exS j) ∧ Upd [] w w' := by
  go_enter Try.func39, Try.ntmps39
  go_wp2_with fail
  go_ret
  obtain ⟨W, hW⟩ : ∃ W, (((((w.alloc (.cells #[.int .i64 10] 3)).alloc (.cells #[.int .i64 170, .int .i64 200] 3)).alloc (.cells #[.int .i64 60, .int .i64 90, .int .i64 120] 3)).alloc (.cells #[.int .i64 30] 3)).alloc (.cells #[.slice (some ⟨w.heap.size, 0, none⟩) 1 1, .int .i64 10, .int .i64 (-1), .slice (some ⟨w.heap.size + 1, 0, none⟩) 2 2, .int .i64 200, .int .i64 (-1), .slice (some ⟨w.heap.size + 1 + 1, 0, none⟩) 3 3, .int .i64 90, .int .i64 (-1), .slice (some ⟨w.heap.size + 1 + 1 + 1, 0, none⟩) 1 1, .int .i64 30, .int .i64 j] 50)) = W := ⟨_, rfl⟩
  rw [hW]
  have hsz : W.heap.size = w.heap.size + 5 := by rw [← hW]; simp
  have L0 : Blk W w.heap.size 3 ([10].map (Value.int .i64)) := by
    have := ((((Blk.new w 3 [.int .i64 10]).alloc (.cells #[.int .i64 170, .int .i64 200] 3)).alloc (.cells #[.int .i64 60, .int .i64 90, .int .i64 120] 3)).alloc (.cells #[.int .i64 30] 3)).alloc (.cells #[.slice (some ⟨w.heap.size, 0, none⟩) 1 1, .int .i64 10, .int .i64 (-1), .slice (some ⟨w.heap.size + 1, 0, none⟩) 2 2, .int .i64 200, .int .i64 (-1), .slice (some ⟨w.heap.size + 1 + 1, 0, none⟩) 3 3, .int .i64 90, .int .i64 (-1), .slice (some ⟨w.heap.size + 1 + 1 + 1, 0, none⟩) 1 1, .int .i64 30, .int .i64 j] 50)
    rw [hW] at this
    exact this
  have L1 : Blk W (w.heap.size + 1) 3 ([170, 200].map (Value.int .i64)) := by
    have := (((Blk.new (w.alloc (.cells #[.int .i64 10] 3)) 3 [.int .i64 170, .int .i64 200]).alloc (.cells #[.int .i64 60, .int .i64 90, .int .i64 120] 3)).alloc (.cells #[.int .i64 30] 3)).alloc (.cells #[.slice (some ⟨w.heap.size, 0, none⟩) 1 1, .int .i64 10, .int .i64 (-1), .slice (some ⟨w.heap.size + 1, 0, none⟩) 2 2, .int .i64 200, .int .i64 (-1), .slice (some ⟨w.heap.size + 1 + 1, 0, none⟩) 3 3, .int .i64 90, .int .i64 (-1), .slice (some ⟨w.heap.size + 1 + 1 + 1, 0, none⟩) 1 1, .int .i64 30, .int .i64 j] 50)
    rw [hW] at this
    simpa using this
  have L2 : Blk W (w.heap.size + 1 + 1) 3 ([60, 90, 120].map (Value.int .i64)) := by
    have := ((Blk.new ((w.alloc (.cells #[.int .i64 10] 3)).alloc (.cells #[.int .i64 170, .int .i64 200] 3)) 3 [.int .i64 60, .int .i64 90, .int .i64 120]).alloc (.cells #[.int .i64 30] 3)).alloc (.cells #[.slice (some ⟨w.heap.size, 0, none⟩) 1 1, .int .i64 10, .int .i64 (-1), .slice (some ⟨w.heap.size + 1, 0, none⟩) 2 2, .int .i64 200, .int .i64 (-1), .slice (some ⟨w.heap.size + 1 + 1, 0, none⟩) 3 3, .int .i64 90, .int .i64 (-1), .slice (some ⟨w.heap.size + 1 + 1 + 1, 0, none⟩) 1 1, .int .i64 30, .int .i64 j] 50)
    rw [hW] at this
    simpa using this
  have L3 : Blk W (w.heap.size + 1 + 1 + 1) 3 ([30].map (Value.int .i64)) := by
    have := (Blk.new (((w.alloc (.cells #[.int .i64 10] 3)).alloc (.cells #[.int .i64 170, .int .i64 200] 3)).alloc (.cells #[.int .i64 60, .int .i64 90, .int .i64 120] 3)) 3 [.int .i64 30]).alloc (.cells #[.slice (some ⟨w.heap.size, 0, none⟩) 1 1, .int .i64 10, .int .i64 (-1), .slice (some ⟨w.heap.size + 1, 0, none⟩) 2 2, .int .i64 200, .int .i64 (-1), .slice (some ⟨w.heap.size + 1 + 1, 0, none⟩) 3 3, .int .i64 90, .int .i64 (-1), .slice (some ⟨w.heap.size + 1 + 1 + 1, 0, none⟩) 1 1, .int .i64 30, .int .i64 j] 50)
    rw [hW] at this
    simpa using this
  have K : Blk W (w.heap.size + 1 + 1 + 1 + 1) 50 [.slice (some ⟨w.heap.size, 0, none⟩) 1 1, .int .i64 10, .int .i64 (-1), .slice (some ⟨w.heap.size + 1, 0, none⟩) 2 2, .int .i64 200, .int .i64 (-1), .slice (some ⟨w.heap.size + 1 + 1, 0, none⟩) 3 3, .int .i64 90, .int .i64 (-1), .slice (some ⟨w.heap.size + 1 + 1 + 1, 0, none⟩) 1 1, .int .i64 30, .int .i64 j] := by
    have := Blk.new ((((w.alloc (.cells #[.int .i64 10] 3)).alloc (.cells #[.int .i64 170, .int .i64 200] 3)).alloc (.cells #[.int .i64 60, .int .i64 90, .int .i64 120] 3)).alloc (.cells #[.int .i64 30] 3)) 50 [.slice (some ⟨w.heap.size, 0, none⟩) 1 1, .int .i64 10, .int .i64 (-1), .slice (some ⟨w.heap.size + 1, 0, none⟩) 2 2, .int .i64 200, .int .i64 (-1), .slice (some ⟨w.heap.size + 1 + 1, 0, none⟩) 3 3, .int .i64 90, .int .i64 (-1), .slice (some ⟨w.heap.size + 1 + 1 + 1, 0, none⟩) 1 1, .int .i64 30, .int .i64 j]
    rw [hW] at this
    simpa using this
  refine ⟨w.heap.size + 1 + 1 + 1 + 1, rfl, ?_, by rw [← hW]; exact (((((Upd.refl [] w).alloc _).alloc _).alloc _).alloc _).alloc _⟩
  intro i p hp
  match i with
  | 0 =>
    obtain rfl : (⟨[10], 10, -1⟩ : Pc) = p := by simpa [exS] using hp
    exact ⟨_, 0, _, _, _, rfl, by omega, Ints.of (by rfl) (fun k z hz => ⟨_, 0, rfl, by omega, by have := L0.cell k; rw [Nat.zero_add, this]; exact ints_cells hz⟩), by decide, K.cell 0, K.cell 1, K.cell 2⟩
  | 1 =>
    obtain rfl : (⟨[170, 200], 200, -1⟩ : Pc) = p := by simpa [exS] using hp
    exact ⟨_, 0, _, _, _, rfl, by omega, Ints.of (by rfl) (fun k z hz => ⟨_, 0, rfl, by omega, by have := L1.cell k; rw [Nat.zero_add, this]; exact ints_cells hz⟩), by decide, K.cell 3, K.cell 4, K.cell 5⟩
  | 2 =>
    obtain rfl : (⟨[60, 90, 120], 90, -1⟩ : Pc) = p := by simpa [exS] using hp
    exact ⟨_, 0, _, _, _, rfl, by omega, Ints.of (by rfl) (fun k z hz => ⟨_, 0, rfl, by omega, by have := L2.cell k; rw [Nat.zero_add, this]; exact ints_cells hz⟩), by decide, K.cell 6, K.cell 7, K.cell 8⟩
  | 3 =>
    obtain rfl : (⟨[30], 30, j⟩ : Pc) = p := by simpa [exS] using hp
    exact ⟨_, 0, _, _, _, rfl, by omega, Ints.of (by rfl) (fun k z hz => ⟨_, 0, rfl, by omega, by have := L3.cell k; rw [Nat.zero_add, this]; exact ints_cells hz⟩), (show 1 ≤ maxLen by decide), K.cell 9, K.cell 10, K.cell 11⟩
  | n + 4 => simp [exS] at hp
end Go.Proofs.Yteehjciepccomaa

namespace Go.Proofs.Yteehjciepccomaa
open Go.RowKit

theorem solve_cases {l : List Pc} {t : Int} (hV : ValidS l t) : (∃ ns, resumeS l t [] = (ns, leastS t l 0, 0) ∧ leastS t l 0 < never ∧ fitsS t l 0 ns = true ∧ costS l ns = leastS t l 0 ∧ bestS t l 0 = some ns) ∨
    (resumeS l t [] = ([], 0, 100) ∧ ∀ h, fitsS t l 0 h = false) := by
  have hb := leastS_bounds t l 0
  by_cases hlt : leastS t l 0 < never
  · obtain ⟨ns, h1, h2, h3⟩ := best_fits hV.2.2 hlt
    refine .inl ⟨ns, ?_, hlt, h2, h3, h1⟩
    unfold resumeS
    rw [if_pos ⟨hV, Nat.zero_le _, fun n hn => by simp at hn⟩]
    have e : restS l t ([] : List Int).length (sumS []) = (ns, leastS t l 0, true) := by
      show restS l t 0 0 = _
      unfold restS
      rw [List.drop_zero, if_neg (by omega), h1]
    rw [e]
    rfl
  · refine .inr ⟨?_, fun h => ?_⟩
    · unfold resumeS
      rw [if_pos ⟨hV, Nat.zero_le _, fun n hn => by simp at hn⟩]
      have e : restS l t ([] : List Int).length (sumS []) = ([], 0, false) := by
        show restS l t 0 0 = _
        unfold restS
        rw [List.drop_zero, if_pos (by omega)]
      rw [e]
      rfl
    · cases hf : fitsS t l 0 h with
      | false => rfl
      | true =>
        have h1 := least_le hV.2.2 (Int.le_refl 0) hf
        have h2 := cost_bound hV.2.2 hf
        have h3 := hV.1
        unfold never at hlt
        omega
/-- A further piece: a choice that fits goes on. -/
theorem fitsS_snoc {p : Pc} {n : Int} (hn : n ∈ p.lens) : ∀ {l : List Pc} {h : List Int} {s t : Int}, fitsS t l s h = true → meetsS p t = true → fitsS (t + n) (l ++ [p]) s (h ++ [n]) = true
  | [], [], s, t, hf, hm => by
    have e : s = t := by simpa [fitsS] using hf
    subst e
    simp [fitsS, hm, hn]
  | [], _ :: _, _, _, hf, _ => by simp [fitsS] at hf
  | _ :: _, [], _, _, hf, _ => by simp [fitsS] at hf
  | q :: l, m :: h, s, t, hf, hm => by
    simp only [fitsS, Bool.and_eq_true] at hf
    show fitsS (t + n) (q :: (l ++ [p])) s (m :: (h ++ [n])) = true
    simp only [fitsS, Bool.and_eq_true]
    exact ⟨hf.1, fitsS_snoc hn hf.2 hm⟩
end Go.Proofs.Yteehjciepccomaa

namespace Go.Proofs.Yteehjciepccomaa
open Go.RowKit
set_option maxRecDepth 100000
set_option maxHeartbeats 1000000

theorem lit_ints (w : World) (zs : List Int) : Ints (w.alloc (.cells (zs.map (Value.int .i64)).toArray 3)).heap.size (w.alloc (.cells (zs.map (Value.int .i64)).toArray 3)) (.slice (some ⟨w.heap.size, 0, none⟩) zs.length zs.length) zs := by
  refine Ints.of rfl fun k z hz => ⟨_, 0, rfl, by simp, ?_⟩
  rw [Nat.zero_add, (Blk.new w 3 (zs.map (Value.int .i64))).cell]
  exact ints_cells hz
theorem ints_yes {n₀ n₁ : Nat} (a : Option Addr) (n c : Nat) (zs : List Int) (a' : Option Addr) (n' c' : Nat) (w : World) (hI : Ints n₀ w (.slice a n c) zs) (hJ : Ints n₁ w (.slice a' n' c') zs) (h0 : n₀ ≤ w.heap.size) (h1 : n₁ ≤ w.heap.size) (hm : n ≤ 1000000000) :
    Calls Try.prog 18 #[.slice a n c, .slice a' n' c'] w fun e w' => e = .returned (.bool true) ∧ Upd [] w w' := by
  have h := ints_any a n c zs a' n' c' zs w hI hJ h0 h1 hm
  rwa [decide_eq_true rfl] at h

theorem sane_any (w : World) : Calls Try.prog 10 #[] w fun e w' => e = .returned (.bool true) ∧ Upd [] w w' := by
  go_enter Try.func10, Try.ntmps10
  go_wp2_with fail
  refine (example_any 300 w).mono ?_
  rintro e w1 ⟨b1, rfl, pc, u⟩
  have U0 := hide u
  clear u
  have Pb1 := hide pc
  clear pc
  go_wp2_with fail
  refine (solve_use (some ⟨b1, 0, none⟩) 4 (exS 300) 330 w1 (Pb1.out.upd (Upd.refl [] w1) (Nat.le_refl _) (by simp)) (Upd.refl [] w1).size (by decide) ex_r1).mono ?_
  rintro e w2 ⟨A1, c1, rfl, i1, u⟩
  have U1 := hide u
  clear u
  have IA1 := hide i1
  clear i1
  go_wp2_with fail
  obtain ⟨w3, hw⟩ : ∃ x, w2.alloc (.cells #[.int .i64 10, .int .i64 230] 3) = x := ⟨_, rfl⟩
  have J3 := hide (show Ints w3.heap.size w3 (.slice (some ⟨w2.heap.size, 0, none⟩) 2 2) [10, 230] from by rw [← hw]; exact lit_ints w2 [10, 230])
  have U2 := hide (show Upd [] w2 w3 by rw [← hw]; exact (Upd.refl [] _).alloc _)
  rw [hw]
  clear hw
  refine (resume_use (some ⟨b1, 0, none⟩) 4 (exS 300) 330 w3 (Pb1.out.upd (U1.out.trans U2.out (by simp)) (Nat.le_refl _) (by simp)) (U1.out.trans U2.out (by simp)).size (by decide) (some ⟨w2.heap.size, 0, none⟩) 2 2 [10, 230] J3.out (Nat.le_refl _) (by decide) ex_r2).mono ?_
  rintro e w4 ⟨A2, c2, rfl, i1, u⟩
  have U3 := hide u
  clear u
  have IA2 := hide i1
  clear i1
  go_wp2_with fail
  obtain ⟨w5, hw⟩ : ∃ x, w4.alloc (.cells #[.int .i64 10, .int .i64 260] 3) = x := ⟨_, rfl⟩
  have J5 := hide (show Ints w5.heap.size w5 (.slice (some ⟨w4.heap.size, 0, none⟩) 2 2) [10, 260] from by rw [← hw]; exact lit_ints w4 [10, 260])
  have U4 := hide (show Upd [] w4 w5 by rw [← hw]; exact (Upd.refl [] _).alloc _)
  rw [hw]
  clear hw
  refine (resume_use (some ⟨b1, 0, none⟩) 4 (exS 300) 330 w5 (Pb1.out.upd (((U1.out.trans U2.out (by simp)).trans U3.out (by simp)).trans U4.out (by simp)) (Nat.le_refl _) (by simp)) (((U1.out.trans U2.out (by simp)).trans U3.out (by simp)).trans U4.out (by simp)).size (by decide) (some ⟨w4.heap.size, 0, none⟩) 2 2 [10, 260] J5.out (Nat.le_refl _) (by decide) ex_r3).mono ?_
  rintro e w6 ⟨A3, c3, rfl, i1, u⟩
  have U5 := hide u
  clear u
  have IA3 := hide i1
  clear i1
  go_wp2_with fail
  refine (solve_use (some ⟨b1, 0, none⟩) 4 (exS 300) 340 w6 (Pb1.out.upd ((((U1.out.trans U2.out (by simp)).trans U3.out (by simp)).trans U4.out (by simp)).trans U5.out (by simp)) (Nat.le_refl _) (by simp)) ((((U1.out.trans U2.out (by simp)).trans U3.out (by simp)).trans U4.out (by simp)).trans U5.out (by simp)).size (by decide) ex_r4).mono ?_
  rintro e w7 ⟨A4, c4, rfl, i1, u⟩
  have U6 := hide u
  clear u
  have IA4 := hide i1
  clear i1
  go_wp2_with fail
  refine (blame_use (some ⟨b1, 0, none⟩) 4 (exS 300) 340 w7 (Pb1.out.upd (((((U1.out.trans U2.out (by simp)).trans U3.out (by simp)).trans U4.out (by simp)).trans U5.out (by simp)).trans U6.out (by simp)) (Nat.le_refl _) (by simp)) (((((U1.out.trans U2.out (by simp)).trans U3.out (by simp)).trans U4.out (by simp)).trans U5.out (by simp)).trans U6.out (by simp)).size (by decide) ex_v2 ex_b1).mono ?_
  rintro e w8 ⟨A5, c5, rfl, i1, u⟩
  have U7 := hide u
  clear u
  have IA5 := hide i1
  clear i1
  go_wp2_with fail
  refine (example_any 305 w8).mono ?_
  rintro e w9 ⟨b2, rfl, pc, u⟩
  have U8 := hide u
  clear u
  have Pb2 := hide pc
  clear pc
  go_wp2_with fail
  refine (blame_use (some ⟨b2, 0, none⟩) 4 (exS 305) 340 w9 (Pb2.out.upd (Upd.refl [] w9) (Nat.le_refl _) (by simp)) (Upd.refl [] w9).size (by decide) ex_v3 ex_b2).mono ?_
  rintro e w10 ⟨A6, c6, rfl, i1, u⟩
  have U9 := hide u
  clear u
  have IA6 := hide i1
  clear i1
  go_wp2_with fail
  refine (blame_use (some ⟨b1, 0, none⟩) 4 (exS 300) 330 w10 (Pb1.out.upd ((((((((U1.out.trans U2.out (by simp)).trans U3.out (by simp)).trans U4.out (by simp)).trans U5.out (by simp)).trans U6.out (by simp)).trans U7.out (by simp)).trans U8.out (by simp)).trans U9.out (by simp)) (Nat.le_refl _) (by simp)) ((((((((U1.out.trans U2.out (by simp)).trans U3.out (by simp)).trans U4.out (by simp)).trans U5.out (by simp)).trans U6.out (by simp)).trans U7.out (by simp)).trans U8.out (by simp)).trans U9.out (by simp)).size (by decide) ex_v1 ex_b3).mono ?_
  rintro e w11 ⟨A7, c7, rfl, i1, u⟩
  have U10 := hide u
  clear u
  have IA7 := hide i1
  clear i1
  go_wp2_with fail
  refine (begins_use (some ⟨b1, 0, none⟩) 4 (exS 300) w11 (Pb1.out.upd (((((((((U1.out.trans U2.out (by simp)).trans U3.out (by simp)).trans U4.out (by simp)).trans U5.out (by simp)).trans U6.out (by simp)).trans U7.out (by simp)).trans U8.out (by simp)).trans U9.out (by simp)).trans U10.out (by simp)) (Nat.le_refl _) (by simp)) (((((((((U1.out.trans U2.out (by simp)).trans U3.out (by simp)).trans U4.out (by simp)).trans U5.out (by simp)).trans U6.out (by simp)).trans U7.out (by simp)).trans U8.out (by simp)).trans U9.out (by simp)).trans U10.out (by simp)).size (by decide) ex_v4 2 (by decide) (by decide) ex_g1).mono ?_
  rintro e w12 ⟨A8, c8, rfl, i1, u⟩
  have U11 := hide u
  clear u
  have IA8 := hide i1
  clear i1
  go_wp2_with fail
  obtain ⟨w13, hw⟩ : ∃ x, w12.alloc (.cells #[.int .i64 10, .int .i64 170, .int .i64 120, .int .i64 30] 3) = x := ⟨_, rfl⟩
  have J13 := hide (show Ints w13.heap.size w13 (.slice (some ⟨w12.heap.size, 0, none⟩) 4 4) [10, 170, 120, 30] from by rw [← hw]; exact lit_ints w12 [10, 170, 120, 30])
  have U12 := hide (show Upd [] w12 w13 by rw [← hw]; exact (Upd.refl [] _).alloc _)
  rw [hw]
  clear hw
  have CK := check_use (some ⟨b1, 0, none⟩) 4 (exS 300) 330 w13 (Pb1.out.upd (((((((((((U1.out.trans U2.out (by simp)).trans U3.out (by simp)).trans U4.out (by simp)).trans U5.out (by simp)).trans U6.out (by simp)).trans U7.out (by simp)).trans U8.out (by simp)).trans U9.out (by simp)).trans U10.out (by simp)).trans U11.out (by simp)).trans U12.out (by simp)) (Nat.le_refl _) (by simp)) (((((((((((U1.out.trans U2.out (by simp)).trans U3.out (by simp)).trans U4.out (by simp)).trans U5.out (by simp)).trans U6.out (by simp)).trans U7.out (by simp)).trans U8.out (by simp)).trans U9.out (by simp)).trans U10.out (by simp)).trans U11.out (by simp)).trans U12.out (by simp)).size (by decide) (some ⟨w12.heap.size, 0, none⟩) 4 4 [10, 170, 120, 30] J13.out (Nat.le_refl _) (by decide)
  rw [if_pos ex_c1.1, ex_c1.2] at CK
  refine (CK).mono ?_
  rintro e w14 ⟨rfl, u⟩
  have U13 := hide u
  clear u
  clear CK
  go_wp2_with fail
  obtain ⟨w15, hw⟩ : ∃ x, w14.alloc (.cells #[.int .i64 10, .int .i64 200, .int .i64 60, .int .i64 30] 3) = x := ⟨_, rfl⟩
  have J15 := hide (show Ints w15.heap.size w15 (.slice (some ⟨w14.heap.size, 0, none⟩) 4 4) [10, 200, 60, 30] from by rw [← hw]; exact lit_ints w14 [10, 200, 60, 30])
  have U14 := hide (show Upd [] w14 w15 by rw [← hw]; exact (Upd.refl [] _).alloc _)
  rw [hw]
  clear hw
  have CK := check_use (some ⟨b1, 0, none⟩) 4 (exS 300) 330 w15 (Pb1.out.upd (((((((((((((U1.out.trans U2.out (by simp)).trans U3.out (by simp)).trans U4.out (by simp)).trans U5.out (by simp)).trans U6.out (by simp)).trans U7.out (by simp)).trans U8.out (by simp)).trans U9.out (by simp)).trans U10.out (by simp)).trans U11.out (by simp)).trans U12.out (by simp)).trans U13.out (by simp)).trans U14.out (by simp)) (Nat.le_refl _) (by simp)) (((((((((((((U1.out.trans U2.out (by simp)).trans U3.out (by simp)).trans U4.out (by simp)).trans U5.out (by simp)).trans U6.out (by simp)).trans U7.out (by simp)).trans U8.out (by simp)).trans U9.out (by simp)).trans U10.out (by simp)).trans U11.out (by simp)).trans U12.out (by simp)).trans U13.out (by simp)).trans U14.out (by simp)).size (by decide) (some ⟨w14.heap.size, 0, none⟩) 4 4 [10, 200, 60, 30] J15.out (Nat.le_refl _) (by decide)
  rw [if_neg ex_c2] at CK
  refine (CK).mono ?_
  rintro e w16 ⟨rfl, u⟩
  have U15 := hide u
  clear u
  clear CK
  go_wp2_with fail
  obtain ⟨w17, hw⟩ : ∃ x, w16.alloc (.cells #[.int .i64 10, .int .i64 200, .int .i64 90, .int .i64 30] 3) = x := ⟨_, rfl⟩
  have J17 := hide (show Ints w17.heap.size w17 (.slice (some ⟨w16.heap.size, 0, none⟩) 4 4) [10, 200, 90, 30] from by rw [← hw]; exact lit_ints w16 [10, 200, 90, 30])
  have U16 := hide (show Upd [] w16 w17 by rw [← hw]; exact (Upd.refl [] _).alloc _)
  rw [hw]
  clear hw
  refine (ints_yes A1 4 c1 [10, 200, 90, 30] (some ⟨w16.heap.size, 0, none⟩) 4 4 w17 (IA1.out.upd ((((((((((((((U2.out.trans U3.out (by simp)).trans U4.out (by simp)).trans U5.out (by simp)).trans U6.out (by simp)).trans U7.out (by simp)).trans U8.out (by simp)).trans U9.out (by simp)).trans U10.out (by simp)).trans U11.out (by simp)).trans U12.out (by simp)).trans U13.out (by simp)).trans U14.out (by simp)).trans U15.out (by simp)).trans U16.out (by simp)) (Nat.le_refl _) (by simp)) J17.out ((((((((((((((U2.out.trans U3.out (by simp)).trans U4.out (by simp)).trans U5.out (by simp)).trans U6.out (by simp)).trans U7.out (by simp)).trans U8.out (by simp)).trans U9.out (by simp)).trans U10.out (by simp)).trans U11.out (by simp)).trans U12.out (by simp)).trans U13.out (by simp)).trans U14.out (by simp)).trans U15.out (by simp)).trans U16.out (by simp)).size (Nat.le_refl _) (by decide)).mono ?_
  rintro e w18 ⟨rfl, u⟩
  have U17 := hide u
  clear u
  go_wp2_with fail
  obtain ⟨w19, hw⟩ : ∃ x, w18.alloc (.cells #[.int .i64 60, .int .i64 30] 3) = x := ⟨_, rfl⟩
  have J19 := hide (show Ints w19.heap.size w19 (.slice (some ⟨w18.heap.size, 0, none⟩) 2 2) [60, 30] from by rw [← hw]; exact lit_ints w18 [60, 30])
  have U18 := hide (show Upd [] w18 w19 by rw [← hw]; exact (Upd.refl [] _).alloc _)
  rw [hw]
  clear hw
  refine (ints_yes A2 2 c2 [60, 30] (some ⟨w18.heap.size, 0, none⟩) 2 2 w19 (IA2.out.upd ((((((((((((((U4.out.trans U5.out (by simp)).trans U6.out (by simp)).trans U7.out (by simp)).trans U8.out (by simp)).trans U9.out (by simp)).trans U10.out (by simp)).trans U11.out (by simp)).trans U12.out (by simp)).trans U13.out (by simp)).trans U14.out (by simp)).trans U15.out (by simp)).trans U16.out (by simp)).trans U17.out (by simp)).trans U18.out (by simp)) (Nat.le_refl _) (by simp)) J19.out ((((((((((((((U4.out.trans U5.out (by simp)).trans U6.out (by simp)).trans U7.out (by simp)).trans U8.out (by simp)).trans U9.out (by simp)).trans U10.out (by simp)).trans U11.out (by simp)).trans U12.out (by simp)).trans U13.out (by simp)).trans U14.out (by simp)).trans U15.out (by simp)).trans U16.out (by simp)).trans U17.out (by simp)).trans U18.out (by simp)).size (Nat.le_refl _) (by decide)).mono ?_
  rintro e w20 ⟨rfl, u⟩
  have U19 := hide u
  clear u
  go_wp2_with fail
  obtain ⟨w21, hw⟩ : ∃ x, w20.alloc (.cells #[.int .i64 330] 3) = x := ⟨_, rfl⟩
  have J21 := hide (show Ints w21.heap.size w21 (.slice (some ⟨w20.heap.size, 0, none⟩) 1 1) [330] from by rw [← hw]; exact lit_ints w20 [330])
  have U20 := hide (show Upd [] w20 w21 by rw [← hw]; exact (Upd.refl [] _).alloc _)
  rw [hw]
  clear hw
  refine (ints_yes A5 1 c5 [330] (some ⟨w20.heap.size, 0, none⟩) 1 1 w21 (IA5.out.upd ((((((((((((U8.out.trans U9.out (by simp)).trans U10.out (by simp)).trans U11.out (by simp)).trans U12.out (by simp)).trans U13.out (by simp)).trans U14.out (by simp)).trans U15.out (by simp)).trans U16.out (by simp)).trans U17.out (by simp)).trans U18.out (by simp)).trans U19.out (by simp)).trans U20.out (by simp)) (Nat.le_refl _) (by simp)) J21.out ((((((((((((U8.out.trans U9.out (by simp)).trans U10.out (by simp)).trans U11.out (by simp)).trans U12.out (by simp)).trans U13.out (by simp)).trans U14.out (by simp)).trans U15.out (by simp)).trans U16.out (by simp)).trans U17.out (by simp)).trans U18.out (by simp)).trans U19.out (by simp)).trans U20.out (by simp)).size (Nat.le_refl _) (by decide)).mono ?_
  rintro e w22 ⟨rfl, u⟩
  have U21 := hide u
  clear u
  go_wp2_with fail
  obtain ⟨w23, hw⟩ : ∃ x, w22.alloc (.cells #[.int .i64 240, .int .i64 270, .int .i64 300, .int .i64 330] 3) = x := ⟨_, rfl⟩
  have J23 := hide (show Ints w23.heap.size w23 (.slice (some ⟨w22.heap.size, 0, none⟩) 4 4) [240, 270, 300, 330] from by rw [← hw]; exact lit_ints w22 [240, 270, 300, 330])
  have U22 := hide (show Upd [] w22 w23 by rw [← hw]; exact (Upd.refl [] _).alloc _)
  rw [hw]
  clear hw
  refine (ints_yes A6 4 c6 [240, 270, 300, 330] (some ⟨w22.heap.size, 0, none⟩) 4 4 w23 (IA6.out.upd ((((((((((((U10.out.trans U11.out (by simp)).trans U12.out (by simp)).trans U13.out (by simp)).trans U14.out (by simp)).trans U15.out (by simp)).trans U16.out (by simp)).trans U17.out (by simp)).trans U18.out (by simp)).trans U19.out (by simp)).trans U20.out (by simp)).trans U21.out (by simp)).trans U22.out (by simp)) (Nat.le_refl _) (by simp)) J23.out ((((((((((((U10.out.trans U11.out (by simp)).trans U12.out (by simp)).trans U13.out (by simp)).trans U14.out (by simp)).trans U15.out (by simp)).trans U16.out (by simp)).trans U17.out (by simp)).trans U18.out (by simp)).trans U19.out (by simp)).trans U20.out (by simp)).trans U21.out (by simp)).trans U22.out (by simp)).size (Nat.le_refl _) (by decide)).mono ?_
  rintro e w24 ⟨rfl, u⟩
  have U23 := hide u
  clear u
  go_wp2_with fail
  obtain ⟨w25, hw⟩ : ∃ x, w24.alloc (.cells #[.int .i64 180, .int .i64 210] 3) = x := ⟨_, rfl⟩
  have J25 := hide (show Ints w25.heap.size w25 (.slice (some ⟨w24.heap.size, 0, none⟩) 2 2) [180, 210] from by rw [← hw]; exact lit_ints w24 [180, 210])
  have U24 := hide (show Upd [] w24 w25 by rw [← hw]; exact (Upd.refl [] _).alloc _)
  rw [hw]
  clear hw
  refine (ints_yes A8 2 c8 [180, 210] (some ⟨w24.heap.size, 0, none⟩) 2 2 w25 (IA8.out.upd ((((((((((((U12.out.trans U13.out (by simp)).trans U14.out (by simp)).trans U15.out (by simp)).trans U16.out (by simp)).trans U17.out (by simp)).trans U18.out (by simp)).trans U19.out (by simp)).trans U20.out (by simp)).trans U21.out (by simp)).trans U22.out (by simp)).trans U23.out (by simp)).trans U24.out (by simp)) (Nat.le_refl _) (by simp)) J25.out ((((((((((((U12.out.trans U13.out (by simp)).trans U14.out (by simp)).trans U15.out (by simp)).trans U16.out (by simp)).trans U17.out (by simp)).trans U18.out (by simp)).trans U19.out (by simp)).trans U20.out (by simp)).trans U21.out (by simp)).trans U22.out (by simp)).trans U23.out (by simp)).trans U24.out (by simp)).size (Nat.le_refl _) (by decide)).mono ?_
  rintro e w26 ⟨rfl, u⟩
  have U25 := hide u
  clear u
  go_wp2_with fail
  have VK := valid_any (some ⟨b1, 0, none⟩) 4 (exS 300) 330 w26 (Pb1.out.upd ((((((((((((((((((((((((U1.out.trans U2.out (by simp)).trans U3.out (by simp)).trans U4.out (by simp)).trans U5.out (by simp)).trans U6.out (by simp)).trans U7.out (by simp)).trans U8.out (by simp)).trans U9.out (by simp)).trans U10.out (by simp)).trans U11.out (by simp)).trans U12.out (by simp)).trans U13.out (by simp)).trans U14.out (by simp)).trans U15.out (by simp)).trans U16.out (by simp)).trans U17.out (by simp)).trans U18.out (by simp)).trans U19.out (by simp)).trans U20.out (by simp)).trans U21.out (by simp)).trans U22.out (by simp)).trans U23.out (by simp)).trans U24.out (by simp)).trans U25.out (by simp)) (Nat.le_refl _) (by simp)) ((((((((((((((((((((((((U1.out.trans U2.out (by simp)).trans U3.out (by simp)).trans U4.out (by simp)).trans U5.out (by simp)).trans U6.out (by simp)).trans U7.out (by simp)).trans U8.out (by simp)).trans U9.out (by simp)).trans U10.out (by simp)).trans U11.out (by simp)).trans U12.out (by simp)).trans U13.out (by simp)).trans U14.out (by simp)).trans U15.out (by simp)).trans U16.out (by simp)).trans U17.out (by simp)).trans U18.out (by simp)).trans U19.out (by simp)).trans U20.out (by simp)).trans U21.out (by simp)).trans U22.out (by simp)).trans U23.out (by simp)).trans U24.out (by simp)).trans U25.out (by simp)).size (by decide)
  rw [decide_eq_true ex_v1] at VK
  refine (VK).mono ?_
  rintro e w27 ⟨rfl, u⟩
  have U26 := hide u
  clear u
  clear VK
  go_wp2_with fail
  have VK := valid_any (some ⟨b1, 0, none⟩) 4 (exS 300) 3601 w27 (Pb1.out.upd (((((((((((((((((((((((((U1.out.trans U2.out (by simp)).trans U3.out (by simp)).trans U4.out (by simp)).trans U5.out (by simp)).trans U6.out (by simp)).trans U7.out (by simp)).trans U8.out (by simp)).trans U9.out (by simp)).trans U10.out (by simp)).trans U11.out (by simp)).trans U12.out (by simp)).trans U13.out (by simp)).trans U14.out (by simp)).trans U15.out (by simp)).trans U16.out (by simp)).trans U17.out (by simp)).trans U18.out (by simp)).trans U19.out (by simp)).trans U20.out (by simp)).trans U21.out (by simp)).trans U22.out (by simp)).trans U23.out (by simp)).trans U24.out (by simp)).trans U25.out (by simp)).trans U26.out (by simp)) (Nat.le_refl _) (by simp)) (((((((((((((((((((((((((U1.out.trans U2.out (by simp)).trans U3.out (by simp)).trans U4.out (by simp)).trans U5.out (by simp)).trans U6.out (by simp)).trans U7.out (by simp)).trans U8.out (by simp)).trans U9.out (by simp)).trans U10.out (by simp)).trans U11.out (by simp)).trans U12.out (by simp)).trans U13.out (by simp)).trans U14.out (by simp)).trans U15.out (by simp)).trans U16.out (by simp)).trans U17.out (by simp)).trans U18.out (by simp)).trans U19.out (by simp)).trans U20.out (by simp)).trans U21.out (by simp)).trans U22.out (by simp)).trans U23.out (by simp)).trans U24.out (by simp)).trans U25.out (by simp)).trans U26.out (by simp)).size (by decide)
  rw [decide_eq_false ex_v5] at VK
  refine (VK).mono ?_
  rintro e w28 ⟨rfl, u⟩
  have U27 := hide u
  clear u
  clear VK
  go_wp2_with fail
  go_ret
  exact ⟨rfl, (((((((((((((((((((((((((((U0.out.trans U1.out (by simp)).trans U2.out (by simp)).trans U3.out (by simp)).trans U4.out (by simp)).trans U5.out (by simp)).trans U6.out (by simp)).trans U7.out (by simp)).trans U8.out (by simp)).trans U9.out (by simp)).trans U10.out (by simp)).trans U11.out (by simp)).trans U12.out (by simp)).trans U13.out (by simp)).trans U14.out (by simp)).trans U15.out (by simp)).trans U16.out (by simp)).trans U17.out (by simp)).trans U18.out (by simp)).trans U19.out (by simp)).trans U20.out (by simp)).trans U21.out (by simp)).trans U22.out (by simp)).trans U23.out (by simp)).trans U24.out (by simp)).trans U25.out (by simp)).trans U26.out (by simp)).trans U27.out (by simp))⟩
end Go.Proofs.Yteehjciepccomaa
