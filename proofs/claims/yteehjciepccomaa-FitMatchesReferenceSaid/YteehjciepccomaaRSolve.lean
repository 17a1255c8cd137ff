/-
  The reference's Solve and Resume.
-/
import Derived.Test.YteehjciepccomaaRRest
import Derived.Test.YteehjciepccomaaFResume
namespace Go.Proofs.Yteehjciepccomaa
open Go.RowKit
set_option maxRecDepth 100000
set_option maxHeartbeats 20000000

section
variable {n₀ : Nat} (a : Option Addr) (c : Nat) (l : List Pc) (total : Int) (w : World) (hI : PcsAt n₀ w a l) (hn : n₀ ≤ w.heap.size) (hm : l.length ≤ maxLen)
include hI hn hm
theorem rsolve_use {ri : List Int} {rc re : Int} (hr : resumeS l total [] = (ri, rc, re)) :
    Calls Try.prog 20 #[.slice a l.length c, .int .i64 total] w fun e w' => ∃ A c', e = .returned (.tuple #[.slice A ri.length c', .int .i64 rc, .int .i64 re]) ∧ Ints w'.heap.size w' (.slice A ri.length c') ri ∧ Upd [] w w' := by
  have V := rvalid_any a c l total w hI hn hm
  have HI := hide hI
  obtain ⟨len, hlen⟩ : ∃ len, l.length = len := ⟨_, rfl⟩
  obtain ⟨x, hx⟩ : ∃ x, decide (ValidS l total) = x := ⟨_, rfl⟩
  rw [hx] at V
  rw [hlen] at V ⊢
  have HX := hide hx
  have HV := hide V
  have HLEN := hide hlen
  have HR := hide hr
  clear hI hm V hlen hx hr
  go_enter Try.func20, Try.ntmps20
  go_wp2_with fail
  refine HV.out.mono ?_
  rintro e w1 ⟨rfl, u1⟩
  have U1 := hide u1
  clear u1
  have hr := HR.out
  unfold resumeS at hr
  cases x with
  | false =>
    rw [if_neg (fun h => of_decide_eq_false HX.out h.1)] at hr
    obtain ⟨rfl, rfl, rfl⟩ : [] = ri ∧ 0 = rc ∧ 100 = re := by simpa using hr
    clear hr
    go_wp2_with fail
    go_ret3
    exact ⟨none, 0, rfl, .inl ⟨none, 0, rfl, rfl⟩, U1.out⟩
  | true =>
  have hV := of_decide_eq_true HX.out
  rw [if_pos ⟨hV, Nat.zero_le _, fun n hn => by simp at hn⟩] at hr
  have B := rrest_any a c l total 0 0 w1 (HI.out.upd U1.out hn (by simp)) (Nat.le_trans hn U1.out.size) hV (Nat.zero_le _) (by omega)
  obtain ⟨q, hq⟩ : ∃ q, restS l total 0 ((0 : Nat) : Int) = q := ⟨_, rfl⟩
  have hr2 : (if q.2.2 = true then (q.1, q.2.1, (0 : Int)) else ([], 0, 100)) = (ri, rc, re) := by rw [← hq]; exact hr
  rw [hq, HLEN.out] at B
  obtain ⟨qi, qc, qb⟩ := q
  have HB := hide B
  have HR2 := hide hr2
  clear B hr hr2 hq
  go_wp2_with fail
  refine HB.out.mono ?_
  rintro e w2 ⟨v, rfl, hv, u⟩
  obtain ⟨A, c2, rfl, hi⟩ := own_slice hv
  have HI2 := hide hi
  have U2 := hide (U1.out.trans u (by simp))
  clear hv hi u
  cases qb with
  | false =>
    obtain ⟨rfl, rfl, rfl⟩ : [] = ri ∧ 0 = rc ∧ 100 = re := by simpa using HR2.out
    go_wp2_with fail
    go_ret3
    exact ⟨none, 0, rfl, .inl ⟨none, 0, rfl, rfl⟩, U2.out⟩
  | true =>
    obtain ⟨rfl, rfl, rfl⟩ : qi = ri ∧ qc = rc ∧ 0 = re := by simpa using HR2.out
    go_wp2_with fail
    go_ret3
    exact ⟨_, _, rfl, HI2.out, U2.out⟩

theorem rresume_use (ta : Option Addr) (tn tc : Nat) (took : List Int) {n₁ : Nat} (hJ : Ints n₁ w (.slice ta tn tc) took) (hm2 : took.length ≤ maxLen) {ri : List Int} {rc re : Int} (hr : resumeS l total took = (ri, rc, re)) :
    Calls Try.prog 24 #[.slice a l.length c, .int .i64 total, .slice ta tn tc] w fun e w' => ∃ A c', e = .returned (.tuple #[.slice A ri.length c', .int .i64 rc, .int .i64 re]) ∧ Ints w'.heap.size w' (.slice A ri.length c') ri ∧ Upd [] w w' := by
  have V := rvalid_any a c l total w hI hn hm
  have HI := hide hI
  have HJ := hide hJ.form.2
  have hJl := hJ.form.1
  have htm : tn ≤ 9223372036854775807 := by unfold maxLen at hm2; omega
  obtain ⟨len, hlen⟩ : ∃ len, l.length = len := ⟨_, rfl⟩
  obtain ⟨x, hx⟩ : ∃ x, decide (ValidS l total) = x := ⟨_, rfl⟩
  rw [hx] at V
  rw [hlen] at V ⊢
  have HX := hide hx
  have HV := hide V
  have HLEN := hide hlen
  have HTL := hide hJl
  have HR := hide hr
  clear hI hJ hm hm2 V hlen hx hJl hr
  have NO : Hid (¬ (ValidS l total ∧ took.length ≤ l.length ∧ TookOk took) → ri = [] ∧ rc = 0 ∧ re = 100) := fun h => by
    have hr := HR.out
    unfold resumeS at hr
    rw [if_neg h] at hr
    obtain ⟨rfl, hr2⟩ := Prod.mk.inj hr
    obtain ⟨rfl, rfl⟩ := Prod.mk.inj hr2
    exact ⟨rfl, rfl, rfl⟩
  go_enter Try.func24, Try.ntmps24
  go_wp2_with fail
  refine HV.out.mono ?_
  rintro e w1 ⟨rfl, u1⟩
  have U1 := hide u1
  clear u1
  cases x with
  | false =>
    obtain ⟨rfl, rfl, rfl⟩ := NO.out (fun h => of_decide_eq_false HX.out h.1)
    go_wp2_with fail
    go_ret3
    exact ⟨none, 0, rfl, .inl ⟨none, 0, rfl, rfl⟩, U1.out⟩
  | true =>
  by_cases htl : len < tn
  · have htl' : (len : Int) < tn := by omega
    obtain ⟨rfl, rfl, rfl⟩ := NO.out (fun h => by have := h.2.1; have := HLEN.out; have := HTL.out; omega)
    go_wp2_with fail
    go_ret3
    exact ⟨none, 0, rfl, .inl ⟨none, 0, rfl, rfl⟩, U1.out⟩
  have htl' : ¬ (len : Int) < tn := by omega
  have hl20 : len ≤ 20 := by have := (of_decide_eq_true HX.out).1; have := HLEN.out; omega
  go_wp2_with fail
  go_loopw [9, 10] (fun s i wr => ∃ (k A : Nat), k ≤ tn ∧ i = .int .i64 k ∧ s = .int .i64 A ∧ A ≤ 3600 * k ∧ Hid (wr = w1) ∧ Hid (sumS (took.take k) = (A : Int)) ∧ Hid (∀ n ∈ took.take k, 0 ≤ n ∧ n ≤ 3600))
    (fun _ i _ => tn - (intOf i).toNat)
  case atStart => exact ⟨0, 0, Nat.zero_le _, rfl, rfl, Nat.le_refl _, rfl, rfl, fun n hn => by simp at hn⟩
  case round =>
    obtain ⟨k, A, hk, rfl, rfl, hA, hwr, hsum, hok⟩ := hrel
    obtain rfl := hwr.out
    clear hwr
    by_cases hlt : k < tn
    · obtain ⟨z, hz⟩ : ∃ z, took[k]? = some z := ⟨_, List.getElem?_eq_getElem (by have := HTL.out; omega)⟩
      obtain ⟨b, o, ea, hb, hc⟩ := HJ.out k z hz
      have hc2 := keep_cell _ _ _ _ U1.out hc
      subst ea
      have HZ := hide hz
      have hki : (k : Int) < tn := by omega
      clear hz hc hb
      by_cases hz1 : z < 0
      · obtain ⟨rfl, rfl, rfl⟩ := NO.out (fun h => by have := (h.2.2 z (List.mem_of_getElem? HZ.out)).1; omega)
        go_wp2_with fail
        go_ret3
        exact ⟨none, 0, rfl, .inl ⟨none, 0, rfl, rfl⟩, U1.out⟩
      by_cases hz2 : 3600 < z
      · obtain ⟨rfl, rfl, rfl⟩ := NO.out (fun h => by have := (h.2.2 z (List.mem_of_getElem? HZ.out)).2; omega)
        go_wp2_with fail
        go_ret3
        exact ⟨none, 0, rfl, .inl ⟨none, 0, rfl, rfl⟩, U1.out⟩
      obtain ⟨zn, rfl⟩ : ∃ zn : Nat, z = (zn : Int) := ⟨z.toNat, by omega⟩
      have hwA : IntKind.i64.wrap ((A : Int) + (zn : Int)) = (A : Int) + (zn : Int) := Go.IntWalk.i64_in _ (by omega)
      go_wp2_with fail
      go_roundw
      case rel => exact ⟨k + 1, A + zn, by omega, by go_num, by go_num, by omega, by first | exact rfl | exact hide trivial, by
        show sumS (took.take (k + 1)) = _
        rw [List.take_add_one, HZ.out, Option.toList_some, sumS_snoc, hsum.out]; omega, fun n hn => by
        rw [List.take_add_one, HZ.out, Option.toList_some, List.mem_append] at hn
        rcases hn with hn | hn
        · exact hok.out n hn
        · simp only [List.mem_singleton] at hn
          subst hn
          omega⟩
      case measure => simp [intOf] <;> omega
    · obtain rfl : k = tn := by omega
      have hki : ¬ (k : Int) < k := by omega
      have hok2 := hok.out
      have hsum2 := hsum.out
      rw [List.take_of_length_le (by have := HTL.out; omega)] at hok2 hsum2
      have hr := HR.out
      unfold resumeS at hr
      rw [if_pos ⟨of_decide_eq_true HX.out, by have := HLEN.out; have := HTL.out; omega, hok2⟩, hsum2, ← HTL.out] at hr
      have B := rrest_any a c l total k A wr (HI.out.upd U1.out hn (by simp)) (Nat.le_trans hn U1.out.size) (of_decide_eq_true HX.out) (by have := HLEN.out; omega) (by omega)
      obtain ⟨q, hq⟩ : ∃ q, restS l total k (A : Int) = q := ⟨_, rfl⟩
      rw [hq, HLEN.out] at B
      rw [hq] at hr
      obtain ⟨qi, qc, qb⟩ := q
      have HB := hide B
      have HR2 := hide hr
      clear B hr hq hok2 hsum2
      go_wp2_with fail
      refine HB.out.mono ?_
      rintro e w2 ⟨v, rfl, hv, u⟩
      obtain ⟨A2, c2, rfl, hi⟩ := own_slice hv
      have HI2 := hide hi
      have U2 := hide (U1.out.trans u (by simp))
      clear hv hi u
      cases qb with
      | false =>
        obtain ⟨rfl, rfl, rfl⟩ : [] = ri ∧ 0 = rc ∧ 100 = re := by simpa using HR2.out
        go_wp2_with fail
        go_ret3
        exact ⟨none, 0, rfl, .inl ⟨none, 0, rfl, rfl⟩, U2.out⟩
      | true =>
        obtain ⟨rfl, rfl, rfl⟩ : qi = ri ∧ qc = rc ∧ 0 = re := by simpa using HR2.out
        go_wp2_with fail
        go_ret3
        exact ⟨_, _, rfl, HI2.out, U2.out⟩
end
end Go.Proofs.Yteehjciepccomaa
