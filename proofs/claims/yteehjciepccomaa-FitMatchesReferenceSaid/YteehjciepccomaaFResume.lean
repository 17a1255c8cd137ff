/-
  Resume and Solve.
-/
import Derived.Test.YteehjciepccomaaFBest
namespace Go.Proofs.Yteehjciepccomaa
open Go.RowKit
set_option maxRecDepth 100000
set_option maxHeartbeats 1000000

def sumS (l : List Int) : Int := l.foldl (· + ·) 0
theorem sumS_snoc (l : List Int) (n : Int) : sumS (l ++ [n]) = sumS l + n := by unfold sumS; rw [List.foldl_append]; rfl
def TookOk (took : List Int) : Prop := ∀ n ∈ took, 0 ≤ n ∧ n ≤ 3600
instance (took : List Int) : Decidable (TookOk took) := by unfold TookOk; infer_instance
/-- What Resume answers. -/
def resumeS (l : List Pc) (total : Int) (took : List Int) : List Int × Int × Int :=
  if ValidS l total ∧ took.length ≤ l.length ∧ TookOk took then
    if (restS l total took.length (sumS took)).2.2 = true then ((restS l total took.length (sumS took)).1, (restS l total took.length (sumS took)).2.1, 0) else ([], 0, 100)
  else ([], 0, 100)

theorem resume_any {n₀ : Nat} (a : Option Addr) (c : Nat) (l : List Pc) (total : Int) (ta : Option Addr) (tn tc : Nat) (took : List Int) (w : World) (hI : PcsAt n₀ w a l) (hJ : Ints n₀ w (.slice ta tn tc) took) (hn : n₀ ≤ w.heap.size) (hm : l.length ≤ maxLen) (hm2 : took.length ≤ maxLen) :
    Calls Try.prog 23 #[.slice a l.length c, .int .i64 total, .slice ta tn tc] w fun e w' => ∃ v, e = .returned (.tuple #[v, .int .i64 (resumeS l total took).2.1, .int .i64 (resumeS l total took).2.2]) ∧ w'.ownsRow w.heap.size 3 1 v (resumeS l total took).1.length ((resumeS l total took).1.map (Value.int .i64)) ∧ Below w.heap.size w w' := by
  obtain ⟨ri, hri⟩ : ∃ ri, (resumeS l total took).1 = ri := ⟨_, rfl⟩
  obtain ⟨rc, hrc⟩ : ∃ rc, (resumeS l total took).2.1 = rc := ⟨_, rfl⟩
  obtain ⟨rb, hrb⟩ : ∃ rb, (resumeS l total took).2.2 = rb := ⟨_, rfl⟩
  have HR := hide (show resumeS l total took = (ri, rc, rb) by rw [← hri, ← hrc, ← hrb])
  rw [hri, hrc, hrb]
  have V := valid_any a c l total w hI hn hm
  have HI := hide hI
  have HJ := hide hJ.form.2
  have hJl := hJ.form.1
  have hlm : l.length ≤ 9223372036854775807 := by unfold maxLen at hm; omega
  have htm : tn ≤ 9223372036854775807 := by unfold maxLen at hm2; omega
  obtain ⟨len, hlen⟩ : ∃ len, l.length = len := ⟨_, rfl⟩
  obtain ⟨x, hx⟩ : ∃ x, decide (ValidS l total) = x := ⟨_, rfl⟩
  rw [hx] at V
  rw [hlen] at V hlm ⊢
  have HX := hide hx
  have HV := hide V
  have HLEN := hide hlen
  have HTL := hide hJl
  clear hI hJ hm hm2 V hlen hx hri hrc hrb hJl
  have NO : Hid (¬ (ValidS l total ∧ took.length ≤ l.length ∧ TookOk took) → ri = [] ∧ rc = 0 ∧ rb = 100) := fun h => by
    have hr := HR.out
    unfold resumeS at hr
    rw [if_neg h] at hr
    obtain ⟨rfl, hr2⟩ := Prod.mk.inj hr
    obtain ⟨rfl, rfl⟩ := Prod.mk.inj hr2
    exact ⟨rfl, rfl, rfl⟩
  go_enter Try.func23, Try.ntmps23
  go_wp2_with fail
  refine HV.out.mono ?_
  rintro e w1 ⟨rfl, u1⟩
  have U1 := hide u1
  clear u1
  cases x with
  | false =>
    obtain ⟨rfl, rfl, rfl⟩ := NO.out (fun h => of_decide_eq_false HX.out h.1)
    go_wp2_with fail
    go_ret3
    exact ⟨_, rfl, World.ownsRow_nil _ _ _ _, U1.out.toBelow (Nat.le_refl _) (by simp)⟩
  | true =>
  by_cases htl : len < tn
  · have htl' : (len : Int) < tn := by omega
    obtain ⟨rfl, rfl, rfl⟩ := NO.out (fun h => by have := h.2.1; have := HLEN.out; have := HTL.out; omega)
    go_wp2_with fail
    go_ret3
    exact ⟨_, rfl, World.ownsRow_nil _ _ _ _, U1.out.toBelow (Nat.le_refl _) (by simp)⟩
  · have htl' : ¬ (len : Int) < tn := by omega
    have hl20 : len ≤ 20 := by have := (of_decide_eq_true HX.out).1; have := HLEN.out; omega
    go_wp2_with fail
    go_loopw [9, 28] (fun s i wr => ∃ (k A : Nat), k ≤ tn ∧ i = .int .i64 k ∧ s = .int .i64 A ∧ A ≤ 3600 * k ∧ wr = w1 ∧ Hid (sumS (took.take k) = (A : Int)) ∧ Hid (∀ n ∈ took.take k, 0 ≤ n ∧ n ≤ 3600))
      (fun _ i _ => tn - (intOf i).toNat)
    case atStart => exact ⟨0, 0, Nat.zero_le _, rfl, rfl, Nat.le_refl _, rfl, rfl, fun n hn => by simp at hn⟩
    case round =>
      obtain ⟨k, A, hk, rfl, rfl, hA, rfl, hsum, hok⟩ := hrel
      by_cases hlt : k < tn
      · obtain ⟨z, hz⟩ : ∃ z, took[k]? = some z := ⟨_, List.getElem?_eq_getElem (by have := HTL.out; omega)⟩
        obtain ⟨b, o, ea, hb, hc⟩ := HJ.out k z hz
        have hc2 := (U1.out.cell (p := ⟨b, o + k, none⟩) (Nat.lt_of_lt_of_le hb hn) (by simp)).trans hc
        subst ea
        have C4 := fun W => isIn_any z 0 3600 W
        obtain ⟨x4, h4⟩ : ∃ r, decide ((0 : Int) ≤ z ∧ z ≤ 3600) = r := ⟨_, rfl⟩
        simp only [h4] at C4
        have D4 := hide C4
        have H4 := hide h4
        have HZ := hide hz
        clear h4 C4 hz hc hb
        go_wp2_with fail
        refine (D4.out _).mono ?_
        rintro e w' ⟨rfl, rfl⟩
        cases x4 with
        | false =>
          obtain ⟨rfl, rfl, rfl⟩ := NO.out (fun h => of_decide_eq_false H4.out (h.2.2 z (List.mem_of_getElem? HZ.out)))
          go_wp2_with fail
          go_ret3
          exact ⟨_, rfl, World.ownsRow_nil _ _ _ _, U1.out.toBelow (Nat.le_refl _) (by simp)⟩
        | true =>
          have hz9 := of_decide_eq_true H4.out
          obtain ⟨hz1, hz2⟩ := hz9
          obtain ⟨zn, rfl⟩ : ∃ zn : Nat, z = (zn : Int) := ⟨z.toNat, by omega⟩
          have hwA : IntKind.i64.wrap ((A : Int) + (zn : Int)) = (A : Int) + (zn : Int) := Go.IntWalk.i64_in _ (by omega)
          go_wp2_with fail
          go_roundw
          case rel => exact ⟨k + 1, A + zn, by omega, by go_num, by go_num, by omega, by first | rfl | trivial, by
            show sumS (took.take (k + 1)) = _
            rw [List.take_add_one, HZ.out, Option.toList_some, sumS_snoc, hsum.out]; omega, fun n hn => by
            rw [List.take_add_one, HZ.out, Option.toList_some, List.mem_append] at hn
            rcases hn with hn | hn
            · exact hok.out n hn
            · simp only [List.mem_singleton] at hn
              subst hn
              exact ⟨hz1, hz2⟩⟩
          case measure => simp [intOf] <;> omega
      · obtain rfl : k = tn := by omega
        have hok2 := hok.out
        have hsum2 := hsum.out
        rw [List.take_of_length_le (by have := HTL.out; omega)] at hok2 hsum2
        have hr := HR.out
        unfold resumeS at hr
        rw [if_pos ⟨of_decide_eq_true HX.out, by have := HLEN.out; have := HTL.out; omega, hok2⟩, hsum2, ← HTL.out] at hr
        have B := best_any a c l total k A wr (HI.out.upd U1.out hn (by simp)) (Nat.le_trans hn U1.out.size) (of_decide_eq_true HX.out) (by have := HLEN.out; omega) (by omega)
        obtain ⟨qi, hqi⟩ : ∃ qi, (restS l total k A).1 = qi := ⟨_, rfl⟩
        obtain ⟨qc, hqc⟩ : ∃ qc, (restS l total k A).2.1 = qc := ⟨_, rfl⟩
        obtain ⟨qb, hqb⟩ : ∃ qb, (restS l total k A).2.2 = qb := ⟨_, rfl⟩
        rw [hqi, hqc, hqb, HLEN.out] at B
        rw [hqi, hqc, hqb] at hr
        have HB := hide B
        have HRR := hide hr
        clear hok2 hsum2 hr B hqi hqc hqb
        go_wp2_with fail
        refine HB.out.mono ?_
        rintro e w5 ⟨v, rfl, r5, b5⟩
        have R5 := hide r5
        have B5 := hide ((U1.out.toBelow (Nat.le_refl _) (by simp)).trans (b5.mono U1.out.size))
        have hs1 := U1.out.size
        clear r5 b5
        cases qb with
        | false =>
          have hr := HRR.out
          rw [if_neg (by simp)] at hr
          obtain ⟨rfl, hr2⟩ := Prod.mk.inj hr
          obtain ⟨rfl, rfl⟩ := Prod.mk.inj hr2
          clear hr hr2
          go_wp2_with fail
          go_ret3
          exact ⟨_, rfl, World.ownsRow_nil _ _ _ _, B5.out⟩
        | true =>
          have hr := HRR.out
          rw [if_pos rfl] at hr
          obtain ⟨rfl, hr2⟩ := Prod.mk.inj hr
          obtain ⟨rfl, rfl⟩ := Prod.mk.inj hr2
          clear hr hr2
          go_wp2_with fail
          go_ret3
          exact ⟨_, rfl, own_less R5.out hs1, B5.out⟩
theorem solve_any {n₀ : Nat} (a : Option Addr) (c : Nat) (l : List Pc) (total : Int) (w : World) (hI : PcsAt n₀ w a l) (hn : n₀ ≤ w.heap.size) (hm : l.length ≤ maxLen) :
    Calls Try.prog 19 #[.slice a l.length c, .int .i64 total] w fun e w' => ∃ v, e = .returned (.tuple #[v, .int .i64 (resumeS l total []).2.1, .int .i64 (resumeS l total []).2.2]) ∧ w'.ownsRow w.heap.size 3 1 v (resumeS l total []).1.length ((resumeS l total []).1.map (Value.int .i64)) ∧ Below w.heap.size w w' := by
  have R := hide (resume_any a c l total none 0 0 [] w hI (.inl ⟨none, 0, rfl, rfl⟩) hn hm (Nat.zero_le _))
  obtain ⟨r, hr⟩ : ∃ r, resumeS l total [] = r := ⟨_, rfl⟩
  rw [hr] at R ⊢
  clear hI hm hr
  go_enter Try.func19, Try.ntmps19
  go_wp2_with fail
  refine R.out.mono ?_
  rintro e w1 ⟨v, rfl, h1, h2⟩
  have H1 := hide h1
  have H2 := hide h2
  clear h1 h2
  go_wp2_with fail
  go_ret3
  exact ⟨v, rfl, H1.out, H2.out⟩
end Go.Proofs.Yteehjciepccomaa
