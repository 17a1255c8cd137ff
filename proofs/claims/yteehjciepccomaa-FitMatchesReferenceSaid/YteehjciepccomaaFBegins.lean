/-
  Begins.
-/
import Derived.Test.YteehjciepccomaaFListed
namespace Go.Proofs.Yteehjciepccomaa
open Go.RowKit
set_option maxRecDepth 100000
set_option maxHeartbeats 1000000

theorem rep_set (n : Nat) (v u : Value) : (Array.replicate n v).setIfInBounds 0 u = ((List.replicate n v).set 0 u).toArray := by
  rw [← List.toArray_replicate, List.setIfInBounds_toArray]
theorem set_one_cells (w : World) (n : Nat) (v u : Value) (t : TypeId) : Blk (w.alloc (.cells ((Array.replicate n v).setIfInBounds 0 u) t)) w.heap.size t ((List.replicate n v).set 0 u) := by
  rw [rep_set]
  exact Blk.new _ _ _
/-- &seconds{1}: the set with second 0 alone. -/
theorem set_one (w : World) : SetIs (w.alloc (.cells ((Array.replicate 1126 (.int .u64 0)).setIfInBounds 0 (.int .u64 1)) 75)) w.heap.size [0] := by
  refine ⟨(List.replicate 1126 0).set 0 1, by rw [List.length_set, List.length_replicate], ?_, fun x hx => ?_, fun q m hq hm => ?_, fun x hx => ?_⟩
  · rw [List.map_set, List.map_replicate]
    exact set_one_cells w 1126 _ _ _
  · rcases List.mem_or_eq_of_mem_set hx with h | rfl
    · rw [List.eq_of_mem_replicate h]; omega
    · omega
  · rw [List.getElem?_set]
    by_cases h0 : 0 = q
    · subst h0
      rw [if_pos rfl, if_pos (by rw [List.length_replicate]; omega)]
      show (1 : Nat).testBit m = _
      by_cases h1 : m = 0
      · subst h1
        exact (decide_eq_true (by simp)).symm
      · rw [decide_eq_false (by simp only [List.mem_singleton]; omega)]
        cases h : Nat.testBit 1 m with
        | true => exact absurd (Nat.testBit_one_eq_true_iff_self_eq_zero.1 h) h1
        | false => rfl
    · rw [if_neg h0, List.getElem?_replicate, if_pos hq, decide_eq_false (by simp only [List.mem_singleton]; omega)]
      exact Nat.zero_testBit m
  · simp only [List.mem_singleton] at hx
    omega

theorem reachS_snoc (l : List Pc) (p : Pc) : ∀ now, reachS (l ++ [p]) now = nextS p (reachS l now) := by
  induction l with
  | nil => intro now; rfl
  | cons q l ih => intro now; exact ih _
theorem reachS_take {l : List Pc} {k : Nat} {p : Pc} (h : l[k]? = some p) (now : List Int) : reachS (l.take (k + 1)) now = nextS p (reachS (l.take k) now) := by
  rw [List.take_add_one, h]
  exact reachS_snoc _ _ _
theorem reachS_bound {l : List Pc} (hok : ∀ p ∈ l, PcOk p) : ∀ (k : Nat), k ≤ l.length → ∀ x ∈ reachS (l.take k) [0], 0 ≤ x ∧ x ≤ 3600 * k := by
  intro k
  induction k with
  | zero => intro _ x hx; simp [reachS] at hx; omega
  | succ k ih =>
    intro hk x hx
    have hp : l[k]? = some (l[k]'(by omega)) := List.getElem?_eq_getElem _
    rw [reachS_take hp] at hx
    obtain ⟨a, ha, _, n, hn, rfl⟩ := mem_nextS.1 hx
    have h1 := ih (by omega) a ha
    have h2 := len_ok (hok _ (List.mem_of_getElem? hp)) hn
    omega

/-- the seconds that Begins lists -/
def beginsL (l : List Pc) (n : Nat) : List Int := (memb (reachS (l.take n) [0]) 72001).filter fun t => match l[n]? with | some p => meetsS p t | none => true

/-- Begins' predicate -/
theorem begins1_any {n₀ : Nat} (a : Option Addr) (c : Nat) (l : List Pc) (n : Nat) (p : Pc) (t : Int) (bl bn : Nat) (w : World) (hI : PcsAt n₀ w a l) (hp : l[n]? = some p) (hm : l.length ≤ maxLen)
    (hl : w.cell? ⟨bl, 0, none⟩ = some (.slice a l.length c)) (hn : w.cell? ⟨bn, 0, none⟩ = some (.int .i64 (n : Int))) :
    Calls Try.prog 45 #[.int .i64 t, .pointer (some ⟨bl, 0, none⟩), .pointer (some ⟨bn, 0, none⟩)] w fun e w' => e = .returned (.bool (meetsS p t)) ∧ Upd [] w w' := by
  obtain ⟨b, o, pa, pn, pc, rfl, hb, hi, hpm, c0, c1, c2⟩ := hI n p hp
  have hlt : n < l.length := (List.getElem?_eq_some_iff.1 hp).1
  have hlm : l.length ≤ 9223372036854775807 := by unfold maxLen at hm; omega
  have ME := hide (meets_any p (.slice pa pn pc) t w rfl)
  clear hI hp hi hb hpm hm
  go_enter Try.func45, Try.ntmps45
  go_wp2_with fail
  refine ME.out.mono ?_
  rintro e w1 ⟨rfl, u1⟩
  have U1 := hide u1
  clear u1
  go_wp2_with fail
  go_ret
  exact ⟨rfl, U1.out⟩

theorem begins_yes {n₀ : Nat} (a : Option Addr) (c : Nat) (l : List Pc) (n : Nat) (w : World) (hI : PcsAt n₀ w a l) (hn : n₀ ≤ w.heap.size) (hm : l.length ≤ maxLen) (hc : l.length ≤ c) (hV : ValidS l 0) (hn2 : n ≤ l.length) :
    Calls Try.prog 16 #[.slice a l.length c, .int .i64 (n : Int)] w fun e w' => ∃ v, e = .returned (.tuple #[v, .int .i64 0]) ∧ w'.ownsRow w.heap.size 3 1 v (beginsL l n).length ((beginsL l n).map (Value.int .i64)) ∧ Below w.heap.size w w' := by
  obtain ⟨hz, _⟩ := zero_of_info zero_set
  obtain ⟨z, hzz⟩ : ∃ z, Array.replicate 1126 (Value.int .u64 0) = z := ⟨_, rfl⟩
  rw [hzz] at hz
  have hzs : z.size = 1126 := by rw [← hzz]; exact Array.size_replicate
  have hza : ¬ z = #[] := by intro h; rw [h] at hzs; simp at hzs
  have hzb : ¬ z.size = 0 := by omega
  have hzc : 0 < z.size := by omega
  have HZ := hide hzz
  have hl20 := hV.1
  have HOK := hide hV.2.2
  obtain ⟨len, hlen⟩ : ∃ len, l.length = len := ⟨_, rfl⟩
  have UB := ((Upd.refl [] w).alloc (.cells #[.slice a len c] 22)).alloc (.cells #[.int .i64 (n : Int)] 3)
  have V := valid_any a c l 0 _ (hI.upd UB hn (by simp)) (Nat.le_trans hn UB.size) hm
  rw [decide_eq_true hV] at V
  rw [hlen] at V hn2 hl20 hc ⊢
  have HLEN := hide hlen
  have HV := hide V
  have B0 := hide ((Blk.new w 22 [.slice a len c]).alloc (.cells #[.int .i64 (n : Int)] 3))
  have B1 := hide (show Blk _ (w.heap.size + 1) _ _ by have := Blk.new (w.alloc (.cells #[.slice a len c] 22)) 3 [.int .i64 (n : Int)]; rwa [World.size_alloc] at this)
  have HI := hide hI
  have HUB := hide UB
  have k0 := B0.out.cell 0
  have k1 := B1.out.cell 0
  have hn1 : (0 : Int) ≤ n := by omega
  have hn3 : (n : Int) ≤ len := by omega
  have ISI := hide (fun W => isIn_yes hn1 hn3 W)
  clear hI hV hm V hlen hzz UB hn1 hn3
  go_enter Try.func16, Try.ntmps16
  go_wp2_with fail
  refine HV.out.mono ?_
  rintro e w1 ⟨rfl, u1⟩
  have U1 := hide (HUB.out.trans u1 (by simp))
  have C0 := hide (B0.out.upd u1 (by simp))
  have C1 := hide (B1.out.upd u1 (by simp))
  have j0 := C0.out.cell 0
  have j1 := C1.out.cell 0
  clear u1 k0 k1
  go_wp2_with fail
  refine (ISI.out _).mono ?_
  rintro e w' ⟨rfl, rfl⟩
  have u2 := (Upd.refl [] w1).alloc (.cells (z.setIfInBounds 0 (.int .u64 1)) 75)
  have D0 := hide (C0.out.upd u2 (by simp))
  have D1 := hide (C1.out.upd u2 (by simp))
  have i0 := D0.out.cell 0
  have i1 := D1.out.cell 0
  have S2 := hide (show SetIs (w1.alloc (.cells (z.setIfInBounds 0 (.int .u64 1)) 75)) w1.heap.size [0] by rw [← HZ.out]; exact set_one w1)
  have U2 := hide (U1.out.trans u2 (by simp))
  obtain ⟨W2, hW2⟩ : ∃ W2, w1.alloc (.cells (z.setIfInBounds 0 (.int .u64 1)) 75) = W2 := ⟨_, rfl⟩
  rw [hW2] at S2 U2 D0 D1
  have hb1 : w1.heap.size < W2.heap.size := S2.out.lt
  have HW2 := hide hW2
  clear u2 hW2
  go_wp2_with fail
  rw [HW2.out]
  go_loopw [6, 25] (fun s i wr => ∃ (k g : Nat), k ≤ n ∧ i = .int .i64 k ∧ s = .pointer (some ⟨g, 0, none⟩) ∧ Hid (Upd [] W2 wr) ∧ Hid (SetIs wr g (reachS (l.take k) [0])))
    (fun _ i _ => n - (intOf i).toNat)
  case atStart => exact ⟨0, _, Nat.zero_le _, rfl, rfl, Upd.refl _ _, S2⟩
  case round =>
    obtain ⟨k, g, hk, rfl, rfl, hu, hs⟩ := hrel
    by_cases hlt : k < n
    · obtain ⟨p, hp⟩ : ∃ p, l[k]? = some p := ⟨_, List.getElem?_eq_getElem (by have := HLEN.out; omega)⟩
      obtain ⟨b, o, pa, pn, pc, ea, hb, hi, hpm, c0, c1, c2⟩ := (HI.out.upd (U2.out.trans hu.out (by simp)) hn (by simp)) k p hp
      subst ea
      have u3 := (Upd.refl [] wr).alloc (.cells #[.slice pa pn pc, .int .i64 p.want, .int .i64 p.join] 50)
      have hwr := Nat.le_trans U2.out.size hu.out.size
      have hpk := HOK.out p (List.mem_of_getElem? hp)
      have hbd := reachS_bound HOK.out k (by have := HLEN.out; omega)
      have NX := hide (next_any p pa pn pc g (reachS (l.take k) [0]) _ (hi.upd u3 (Nat.le_trans hn hwr) (by simp)) (Nat.le_trans hn (Nat.le_trans hwr u3.size)) (hs.out.upd u3 (by simp)) hpk (fun x hx => by have := hbd x hx; omega))
      have L3 := Blk.new wr 50 [.slice pa pn pc, .int .i64 p.want, .int .i64 p.join]
      have l0 := L3.cell 0
      have l1 := L3.cell 1
      have l2 := L3.cell 2
      have ER := hide (reachS_take hp [0])
      have U3 := hide (hu.out.trans u3 (by simp))
      clear hp hi hpm hb L3 u3 hpk hbd hwr
      go_wp2_with fail
      refine NX.out.mono ?_
      rintro e w4 ⟨g', rfl, s4, _, b4⟩
      have S4 := hide s4
      have U4 := hide ((U3.out).trans ((Upd.refl [] _).below b4) (by simp))
      clear s4 b4
      go_wp2_with fail
      go_roundw
      case rel => exact ⟨k + 1, g', by omega, by go_num, rfl, U4, by rw [ER.out]; exact S4.out⟩
      case measure => simp [intOf] <;> omega
    · obtain rfl : k = n := by omega
      obtain ⟨wo, rfl⟩ : ∃ wo : World, wo = wr := ⟨_, rfl⟩
      have E0 := (D0.out.upd hu.out (by simp))
      have E1 := (D1.out.upd hu.out (by simp))
      have f0 := E0.cell 0
      have f1 := E1.cell 0
      have F0 := hide E0
      have F1 := hide E1
      have UF := hide (U2.out.trans hu.out (by simp))
      clear E0 E1
      by_cases hkl : k = len
      · have hll : l[k]? = none := by rw [List.getElem?_eq_none]; have := HLEN.out; omega
        have LE := listed_every g (reachS (l.take k) [0]) wo hs.out
        rw [show memb (reachS (l.take k) [0]) 72001 = beginsL l k by unfold beginsL; rw [hll]; exact (List.filter_eq_self.2 (fun _ _ => rfl)).symm] at LE
        have LE' := hide LE
        clear LE hll
        have hkl' : (k : Int) = len := by omega
        subst hkl
        go_wp2_with fail
        refine LE'.out.mono ?_
        rintro e w5 ⟨v, rfl, r5, b5⟩
        have R5 := hide r5
        have U5 := hide (UF.out.trans ((Upd.refl [] _).below b5) (by simp))
        have hs5 := UF.out.size
        clear r5 b5
        go_wp2_with fail
        go_ret2
        exact ⟨v, rfl, own_less R5.out hs5, U5.out.toBelow (Nat.le_refl _) (by simp)⟩
      · obtain ⟨p, hp⟩ : ∃ p, l[k]? = some p := ⟨_, List.getElem?_eq_getElem (by have := HLEN.out; omega)⟩
        have LB := callsIn_wide.1 (listedB_in 6 (by omega) g (reachS (l.take k) [0]) wo w.heap.size (w.heap.size + 1) (meetsS p) hs.out (fun x hx W hW => by
          have hsz := UF.out.size
          have q0 := F0.out.lt
          have q1 := F1.out.lt
          have := begins1_any a c l k p x w.heap.size (w.heap.size + 1) W ((HI.out.upd UF.out hn (by simp)).upd hW (Nat.le_trans hn hsz) (by simp; omega)) hp (by rw [HLEN.out]; unfold maxLen; omega)
            (by rw [HLEN.out]; exact (F0.out.upd hW (by simp; omega)).cell 0) ((F1.out.upd hW (by simp; omega)).cell 0)
          exact this))
        rw [show (memb (reachS (l.take k) [0]) 72001).filter (meetsS p) = beginsL l k by unfold beginsL; rw [hp]] at LB
        have LB' := hide LB
        clear LB hp
        have hkl' : ¬ (k : Int) = len := by omega
        go_wp2_with fail
        refine LB'.out.mono ?_
        rintro e w5 ⟨v, rfl, r5, b5⟩
        have R5 := hide r5
        have U5 := hide (UF.out.trans ((Upd.refl [] _).below b5) (by simp))
        have hs5 := UF.out.size
        clear r5 b5
        go_wp2_with fail
        go_ret2
        exact ⟨v, rfl, own_less R5.out hs5, U5.out.toBelow (Nat.le_refl _) (by simp)⟩

theorem begins_no {n₀ : Nat} (a : Option Addr) (c : Nat) (l : List Pc) (n : Int) (w : World) (hI : PcsAt n₀ w a l) (hn : n₀ ≤ w.heap.size) (hm : l.length ≤ maxLen) (hV : ¬ (ValidS l 0 ∧ 0 ≤ n ∧ n ≤ l.length)) :
    Calls Try.prog 16 #[.slice a l.length c, .int .i64 n] w fun e w' => e = .returned (.tuple #[.slice none 0 0, .int .i64 100]) ∧ Below w.heap.size w w' := by
  obtain ⟨len, hlen⟩ : ∃ len, l.length = len := ⟨_, rfl⟩
  have UB := ((Upd.refl [] w).alloc (.cells #[.slice a len c] 22)).alloc (.cells #[.int .i64 n] 3)
  have V := valid_any a c l 0 _ (hI.upd UB hn (by simp)) (Nat.le_trans hn UB.size) hm
  obtain ⟨x, hx⟩ : ∃ x, decide (ValidS l 0) = x := ⟨_, rfl⟩
  rw [hx] at V
  rw [hlen] at V ⊢
  have hlm : len ≤ 9223372036854775807 := by unfold maxLen at hm; omega
  have HX := hide hx
  have HV := hide V
  have HNO := hide hV
  have HLEN := hide hlen
  have B0 := hide ((Blk.new w 22 [.slice a len c]).alloc (.cells #[.int .i64 n] 3))
  have B1 := hide (show Blk _ (w.heap.size + 1) _ _ by have := Blk.new (w.alloc (.cells #[.slice a len c] 22)) 3 [.int .i64 n]; rwa [World.size_alloc] at this)
  have HUB := hide UB
  have k0 := B0.out.cell 0
  have k1 := B1.out.cell 0
  clear hI hV hm V hlen UB hx
  go_enter Try.func16, Try.ntmps16
  go_wp2_with fail
  refine HV.out.mono ?_
  rintro e w1 ⟨rfl, u1⟩
  have U1 := hide (HUB.out.trans u1 (by simp))
  have j0 := (B0.out.upd u1 (by simp)).cell 0
  have j1 := (B1.out.upd u1 (by simp)).cell 0
  clear u1 k0 k1
  cases x with
  | false =>
    go_wp2_with fail
    go_ret2
    exact ⟨rfl, U1.out.toBelow (Nat.le_refl _) (by simp)⟩
  | true =>
    have hno : ¬ (0 ≤ n ∧ n ≤ (len : Int)) := fun h => HNO.out ⟨of_decide_eq_true HX.out, h.1, by rw [HLEN.out]; exact h.2⟩
    have ISI := hide (fun W => isIn_no hno W)
    clear hno
    go_wp2_with fail
    refine (ISI.out _).mono ?_
    rintro e w' ⟨rfl, rfl⟩
    go_wp2_with fail
    go_ret2
    exact ⟨rfl, U1.out.toBelow (Nat.le_refl _) (by simp)⟩
end Go.Proofs.Yteehjciepccomaa
