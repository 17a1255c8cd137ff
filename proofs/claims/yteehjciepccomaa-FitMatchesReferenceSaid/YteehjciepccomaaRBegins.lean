/-
  The reference's Begins and Blame.
-/
import Derived.Test.YteehjciepccomaaRListed
import Derived.Test.YteehjciepccomaaFBlame
namespace Go.Proofs.Yteehjciepccomaa
open Go.RowKit
set_option maxRecDepth 100000
set_option maxHeartbeats 20000000

theorem begins_join {l : List Pc} {n : Nat} {p : Pc} (hp : l[n]? = some p) (hj : 0 ≤ p.join) (hj2 : p.join ≤ 72000) : beginsL l n = if p.join ∈ reachS (l.take n) [0] then [p.join] else [] := by
  unfold beginsL
  rw [hp]
  obtain ⟨L, hL⟩ : ∃ L, reachS (l.take n) [0] = L := ⟨_, rfl⟩
  rw [hL]
  have hm : ∀ t : Int, meetsS p t = true ↔ p.join = t := by
    intro t
    unfold meetsS
    simp
    omega
  refine eq_of_strict ((memb_strict L _).filter _) ?_ fun x => ?_
  · split
    · exact List.pairwise_singleton _ _
    · exact List.Pairwise.nil
  · rw [List.mem_filter]
    constructor
    · rintro ⟨h1, h2⟩
      obtain rfl := (hm x).1 h2
      unfold memb at h1
      simp only [List.mem_map, List.mem_filter, List.mem_range, decide_eq_true_eq] at h1
      obtain ⟨i, ⟨_, hi⟩, he⟩ := h1
      rw [he] at hi
      rw [if_pos hi]
      exact List.mem_singleton.2 rfl
    · intro h
      split at h
      · next hin =>
        obtain rfl := List.mem_singleton.1 h
        refine ⟨?_, (hm _).2 rfl⟩
        unfold memb
        simp only [List.mem_map, List.mem_filter, List.mem_range, decide_eq_true_eq]
        exact ⟨p.join.toNat, ⟨by omega, by rw [show ((p.join.toNat : Nat) : Int) = p.join by omega]; exact hin⟩, by omega⟩
      · simp at h
theorem begins_free {l : List Pc} {n : Nat} (h : ∀ p, l[n]? = some p → p.join < 0) : beginsL l n = memb (reachS (l.take n) [0]) 72001 := by
  unfold beginsL
  refine List.filter_eq_self.2 fun t _ => ?_
  cases hp : l[n]? with
  | none => rfl
  | some p =>
    have := h p hp
    show meetsS p t = true
    unfold meetsS
    simp [this]
theorem ints_none (w : World) (n₀ : Nat) : Ints n₀ w (.slice none 0 0) [] := .inl ⟨none, 0, rfl, rfl⟩
theorem ints_one (w : World) (x : Int) (c : Nat) : Ints (w.alloc (.cells #[.int .i64 x] 3)).heap.size (w.alloc (.cells #[.int .i64 x] 3)) (.slice (some ⟨w.heap.size, 0, none⟩) 1 c) [x] :=
  Ints.of rfl fun j z hz => by
    have hj := (List.getElem?_eq_some_iff.1 hz).1
    obtain rfl : j = 0 := by simpa using hj
    obtain rfl : x = z := by simpa using hz
    exact ⟨w.heap.size, 0, rfl, by rw [World.size_alloc]; omega, (Blk.new w 3 [.int .i64 x]).cell 0⟩

section
variable {n₀ : Nat} (a : Option Addr) (c : Nat) (l : List Pc) (w : World) (hI : PcsAt n₀ w a l) (hn : n₀ ≤ w.heap.size) (hm : l.length ≤ maxLen)
include hI hn hm
theorem rbegins_no (n : Int) (hV : ¬ (ValidS l 0 ∧ 0 ≤ n ∧ n ≤ l.length)) :
    Calls Try.prog 17 #[.slice a l.length c, .int .i64 n] w fun e w' => e = .returned (.tuple #[.slice none 0 0, .int .i64 100]) ∧ Upd [] w w' := by
  have C := right_any a c l w hI hn hm
  obtain ⟨len, hz⟩ : ∃ len, l.length = len := ⟨_, rfl⟩
  obtain ⟨r, hr⟩ : ∃ r, decide (l.length ≤ 20 ∧ ∀ p ∈ l, PcOk p) = r := ⟨_, rfl⟩
  rw [hr] at C
  rw [hz] at C hV ⊢
  have HC := hide C
  have hno : r = true → n < 0 ∨ (len : Int) < n := fun h => by
    rw [h] at hr
    have h2 := of_decide_eq_true hr
    by_cases h3 : 0 ≤ n
    · by_cases h4 : n ≤ len
      · exact absurd ⟨⟨h2.1, by omega, h2.2⟩, h3, h4⟩ hV
      · omega
    · omega
  clear hI hn hm hV C hr hz
  go_enter Try.func17, Try.ntmps17
  go_wp2_with fail
  refine HC.out.mono ?_
  rintro e w1 ⟨rfl, u⟩
  have U1 := hide u
  clear u
  cases r with
  | false =>
    clear hno
    go_wp2_with fail
    go_ret2
    exact ⟨rfl, U1.out⟩
  | true =>
    have hno := hno rfl
    by_cases h1 : n < 0
    · clear hno
      go_wp2_with fail
      go_ret2
      exact ⟨rfl, U1.out⟩
    · have h2 : (len : Int) < n := hno.resolve_left h1
      clear hno
      go_wp2_with fail
      go_ret2
      exact ⟨rfl, U1.out⟩

theorem rbegins_use (hV : ValidS l 0) (n : Nat) (hn2 : n ≤ l.length) {rl : List Int} (hrl : beginsL l n = rl) :
    Calls Try.prog 17 #[.slice a l.length c, .int .i64 (n : Int)] w fun e w' => ∃ A c', e = .returned (.tuple #[.slice A rl.length c', .int .i64 0]) ∧ Ints w'.heap.size w' (.slice A rl.length c') rl ∧ Upd [] w w' := by
  have C := right_any a c l w hI hn hm
  rw [decide_eq_true (⟨hV.1, hV.2.2⟩ : l.length ≤ 20 ∧ ∀ p ∈ l, PcOk p)] at C
  have RE := hide (show ∀ W, Upd [] w W → _ from fun W hW => reached_any a c l n W (hI.upd hW hn (by simp)) (Nat.le_trans hn hW.size) hV.2.2 hV.1 hn2)
  obtain ⟨len, hz⟩ : ∃ len, l.length = len := ⟨_, rfl⟩
  obtain ⟨L, hL⟩ : ∃ L, reachS (l.take n) [0] = L := ⟨_, rfl⟩
  simp only [hz, hL] at RE
  rw [hz] at C hn2 ⊢
  have HC := hide C
  have HV := hide hV
  have HI := hide hI
  have HZ := hide hz
  have HL := hide hL
  have HRL := hide hrl
  have h1 : ¬ (n : Int) < 0 := by omega
  have h2 : ¬ (len : Int) < n := by omega
  clear hI hm hV C hz hL hrl
  go_enter Try.func17, Try.ntmps17
  go_wp2_with fail
  refine HC.out.mono ?_
  rintro e w1 ⟨rfl, u⟩
  have U1 := hide u
  clear u
  go_wp2_with fail
  refine (RE.out _ U1.out).mono ?_
  rintro e w2 ⟨B, rfl, hrow, u⟩
  have HB := hide hrow
  have U2 := hide (U1.out.trans u (by simp))
  clear hrow u
  have LS := rlisted_any B L w2 HB.out
  have HLS := hide LS
  clear LS
  by_cases hlt : n < len
  · obtain ⟨p, hp⟩ : ∃ p, l[n]? = some p := ⟨_, List.getElem?_eq_getElem (by have := HZ.out; omega)⟩
    obtain ⟨b, o, pa, pn, pc, ea, hb, hI1, hpm, c0, c1, c2⟩ := (HI.out.upd U2.out hn (by simp)) n p hp
    subst ea
    have hlt' : (n : Int) < len := by omega
    have hj := (HV.out.2.2 p (List.mem_of_getElem? hp)).2.2.1
    have HP := hide hp
    clear hb hI1 hpm c0 c1 hp
    by_cases hj0 : p.join < 0
    · have hj1 : ¬ 0 ≤ p.join := by omega
      have HF := hide (show memb L 72001 = rl by
        rw [← HRL.out, ← HL.out]
        exact (begins_free fun q hq => by rw [HP.out] at hq; obtain rfl : p = q := (by simpa using hq); exact hj0).symm)
      clear hj
      go_wp2_with fail
      refine HLS.out.mono ?_
      rintro e w3 ⟨v, rfl, hv, u⟩
      rw [HF.out] at hv
      obtain ⟨A, c3, rfl, hi3⟩ := own_slice hv
      have HI3 := hide hi3
      have U3 := hide (U2.out.trans u (by simp))
      clear hi3 u hv
      go_wp2_with fail
      go_ret2
      exact ⟨_, _, rfl, HI3.out, U3.out⟩
    · obtain ⟨y, hy⟩ : ∃ y : Nat, p.join = (y : Int) := ⟨p.join.toNat, by omega⟩
      have hyl : y < 72001 := by omega
      have hyl' : (y : Int) < 72001 := by omega
      have HF := hide (show (if p.join ∈ L then [p.join] else []) = rl by
        rw [← HRL.out, ← HL.out]
        exact (begins_join HP.out (by omega) (by omega)).symm)
      have HF' := HF.out
      rw [hy] at c2 HF'
      have HF2 := hide HF'
      have f0 := (HB.out.cell hyl).1
      have hy0 : 0 ≤ (y : Int) := by omega
      clear hj hj0 hy HF HF'
      by_cases hin : (y : Int) ∈ L
      · rw [decide_eq_true hin] at f0
        obtain rfl := (if_pos hin).symm.trans HF2.out
        clear hin HF2
        go_wp2_with fail
        go_ret2
        exact ⟨_, 1, rfl, ints_one w2 (y : Int) 1, U2.out.alloc _⟩
      · rw [decide_eq_false hin] at f0
        obtain rfl := (if_neg hin).symm.trans HF2.out
        clear hin HF2
        go_wp2_with fail
        go_ret2
        exact ⟨none, 0, rfl, ints_none _ _, U2.out⟩
  · have hlt' : ¬ (n : Int) < len := by omega
    have HF := hide (show memb L 72001 = rl by
      rw [← HRL.out, ← HL.out]
      exact (begins_free fun q hq => by rw [List.getElem?_eq_none (by have := HZ.out; omega)] at hq; simp at hq).symm)
    go_wp2_with fail
    refine HLS.out.mono ?_
    rintro e w3 ⟨v, rfl, hv, u⟩
    rw [HF.out] at hv
    obtain ⟨A, c3, rfl, hi3⟩ := own_slice hv
    have HI3 := hide hi3
    have U3 := hide (U2.out.trans u (by simp))
    clear hi3 u hv
    go_wp2_with fail
    go_ret2
    exact ⟨_, _, rfl, HI3.out, U3.out⟩

theorem rblame_no (t : Int) (hV : ¬ ValidS l t) :
    Calls Try.prog 22 #[.slice a l.length c, .int .i64 t] w fun e w' => e = .returned (.tuple #[.int .i64 0, .slice none 0 0, .int .i64 100]) ∧ Upd [] w w' := by
  have C := rvalid_any a c l t w hI hn hm
  rw [decide_eq_false hV] at C
  have HC := hide C
  obtain ⟨len, hz⟩ : ∃ len, l.length = len := ⟨_, rfl⟩
  rw [hz] at HC ⊢
  clear hI hn hm hV C hz
  go_enter Try.func22, Try.ntmps22
  go_wp2_with fail
  refine HC.out.mono ?_
  rintro e w1 ⟨rfl, u⟩
  have U1 := hide u
  clear u
  go_wp2_with fail
  go_ret3
  exact ⟨rfl, U1.out⟩

theorem rblame_use (t : Int) (hV : ValidS l t) {ri : Int} {rl : List Int} (hr : blameS l t = (ri, rl)) :
    Calls Try.prog 22 #[.slice a l.length c, .int .i64 t] w fun e w' => ∃ A c', e = .returned (.tuple #[.int .i64 ri, .slice A rl.length c', .int .i64 0]) ∧ Ints w'.heap.size w' (.slice A rl.length c') rl ∧ Upd [] w w' := by
  have C := rvalid_any a c l t w hI hn hm
  rw [decide_eq_true hV] at C
  have RE := hide (show ∀ n, n ≤ l.length → ∀ W, Upd [] w W → _ from fun n hn2 W hW => reached_any a c l n W (hI.upd hW hn (by simp)) (Nat.le_trans hn hW.size) hV.2.2 hV.1 hn2)
  obtain ⟨len, hz⟩ : ∃ len, l.length = len := ⟨_, rfl⟩
  simp only [hz] at RE
  rw [hz] at C ⊢
  have hl20 := hV.1
  rw [hz] at hl20
  have HC := hide C
  have HV := hide hV
  have HI := hide hI
  have HZ := hide hz
  have HR := hide hr
  have ht := hV.2.1
  obtain ⟨tn, htn⟩ : ∃ tn : Nat, t = (tn : Int) := ⟨t.toNat, by omega⟩
  subst htn
  have htl : tn ≤ 3600 := by omega
  clear hI hm hV C hz hr ht
  go_enter Try.func22, Try.ntmps22
  go_wp2_with fail
  refine HC.out.mono ?_
  rintro e w1 ⟨rfl, u⟩
  have U1 := hide u
  clear u
  go_wp2_with fail
  go_loopw [7] (fun s7 wr => ∃ i : Nat, i ≤ len ∧ s7 = .int .i64 i ∧ Hid (Upd [] w wr) ∧ Hid (blameFrom (tn : Int) (l.drop i) i (reachS (l.take i) [0]) = (ri, rl))) (fun i _ => len - (intOf i).toNat)
  case atStart => exact ⟨0, Nat.zero_le _, rfl, U1, HR⟩
  case round =>
    obtain ⟨i, hi, rfl, hu, hbl⟩ := hrel
    obtain ⟨wo, rfl⟩ : ∃ wo : World, wo = wr := ⟨_, rfl⟩
    obtain ⟨L, hL⟩ : ∃ L, reachS (l.take i) [0] = L := ⟨_, rfl⟩
    have RC := RE.out i hi _ hu.out
    rw [hL] at RC
    have HRC := hide RC
    have HL := hide hL
    have hbl2 := hbl.out
    rw [hL] at hbl2
    have HBL := hide hbl2
    clear hL RC hbl hbl2
    by_cases hlt : i < len
    · obtain ⟨p, hp⟩ : ∃ p, l[i]? = some p := ⟨_, List.getElem?_eq_getElem (by have := HZ.out; omega)⟩
      have hlt' : (i : Int) < len := by omega
      have hj := (HV.out.2.2 p (List.mem_of_getElem? hp)).2.2.1
      have HSUC := hide (show nextS p L = reachS (l.take (i + 1)) [0] by rw [reachS_take hp, HL.out])
      have HST := HBL.out
      rw [List.drop_eq_getElem_cons (by have := HZ.out; omega), (List.getElem_eq_iff _).2 hp, blameFrom] at HST
      have HSTEP := hide HST
      have HP := hide hp
      clear hp HST
      go_wp2_with fail
      refine HRC.out.mono ?_
      rintro e w2 ⟨B, rfl, hrow, u⟩
      have HB := hide hrow
      have U2 := hide (hu.out.trans u (by simp))
      clear hrow u
      obtain ⟨b, o, pa, pn, pc, ea, hb, hI1, hpm, c0, c1, c2⟩ := (HI.out.upd U2.out hn (by simp)) i p HP.out
      subst ea
      have HLS := hide (rlisted_any B L w2 HB.out)
      clear hb hI1 hpm c0 c1
      by_cases hj0 : p.join < 0
      · have hj1 : ¬ 0 ≤ p.join := by omega
        have HN := hide (show blameFrom (tn : Int) (l.drop (i + 1)) (i + 1) (reachS (l.take (i + 1)) [0]) = (ri, rl) by
          have := HSTEP.out
          rwa [if_neg (fun h => hj1 h.1), HSUC.out] at this)
        clear hj
        go_wp2_with fail
        go_roundw
        case rel => exact ⟨i + 1, by omega, by go_num, U2, HN⟩
        case measure => simp [intOf] <;> omega
      · obtain ⟨y, hy⟩ : ∃ y : Nat, p.join = (y : Int) := ⟨p.join.toNat, by omega⟩
        have hyl : y < 72001 := by omega
        have hyl' : (y : Int) < 72001 := by omega
        have f0 := (HB.out.cell hyl).1
        have hy0 : 0 ≤ (y : Int) := by omega
        have HST2 := HSTEP.out
        rw [hy] at c2 HST2
        have HSTEP2 := hide HST2
        clear hj hj0 hy HST2
        by_cases hin : (y : Int) ∈ L
        · rw [decide_eq_true hin] at f0
          have HN := hide (show blameFrom (tn : Int) (l.drop (i + 1)) (i + 1) (reachS (l.take (i + 1)) [0]) = (ri, rl) by
            have := HSTEP2.out
            rwa [if_neg (fun h => h.2 hin), HSUC.out] at this)
          clear hin
          go_wp2_with fail
          go_roundw
          case rel => exact ⟨i + 1, by omega, by go_num, U2, HN⟩
          case measure => simp [intOf] <;> omega
        · rw [decide_eq_false hin] at f0
          have HN := HSTEP2.out
          rw [if_pos ⟨hy0, hin⟩] at HN
          obtain ⟨rfl, rfl⟩ : (i : Int) = ri ∧ memb L 72001 = rl := by simpa using HN
          clear hin HN
          go_wp2_with fail
          refine HLS.out.mono ?_
          rintro e w3 ⟨v, rfl, hv, u⟩
          obtain ⟨A, c3, rfl, hi3⟩ := own_slice hv
          have HI3 := hide hi3
          have U3 := hide (U2.out.trans u (by simp))
          clear hi3 u hv
          go_wp2_with fail
          go_ret3
          exact ⟨_, _, rfl, HI3.out, U3.out⟩
    · obtain rfl : i = len := by omega
      have hlt' : ¬ (i : Int) < i := by omega
      have htl' : (tn : Int) < 72001 := by omega
      have HST := HBL.out
      rw [List.drop_of_length_le (by have := HZ.out; omega), blameFrom] at HST
      have HSTEP := hide HST
      clear HST
      go_wp2_with fail
      refine HRC.out.mono ?_
      rintro e w2 ⟨B, rfl, hrow, u⟩
      have HB := hide hrow
      have U2 := hide (hu.out.trans u (by simp))
      clear hrow u
      have f0 := (HB.out.cell (j := tn) (by omega)).1
      have HLS := hide (rlisted_any B L w2 HB.out)
      by_cases hin : (tn : Int) ∈ L
      · rw [decide_eq_true hin] at f0
        have HN := HSTEP.out
        rw [if_pos hin] at HN
        obtain ⟨rfl, rfl⟩ : (-1 : Int) = ri ∧ [] = rl := by simpa using HN
        clear hin HN
        go_wp2_with fail
        go_ret3
        exact ⟨none, 0, rfl, ints_none _ _, U2.out⟩
      · rw [decide_eq_false hin] at f0
        have HN := HSTEP.out
        rw [if_neg hin] at HN
        obtain ⟨rfl, rfl⟩ : (i : Int) = ri ∧ memb L 72001 = rl := by simpa using HN
        clear hin HN
        go_wp2_with fail
        refine HLS.out.mono ?_
        rintro e w3 ⟨v, rfl, hv, u⟩
        obtain ⟨A, c3, rfl, hi3⟩ := own_slice hv
        have HI3 := hide hi3
        have U3 := hide (U2.out.trans u (by simp))
        clear hi3 u hv
        go_wp2_with fail
        go_ret3
        exact ⟨_, _, rfl, HI3.out, U3.out⟩
end
end Go.Proofs.Yteehjciepccomaa
