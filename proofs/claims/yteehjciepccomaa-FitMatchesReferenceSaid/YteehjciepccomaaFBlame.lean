/-
  Blame.
-/
import Derived.Test.YteehjciepccomaaFBegins
namespace Go.Proofs.Yteehjciepccomaa
open Go.RowKit
set_option maxRecDepth 100000
set_option maxHeartbeats 1000000

/-- The first piece from number k on that cannot begin when it has to; the number of pieces if it is the total that is missed; -1 if nothing is. -/
def blameFrom (total : Int) : List Pc → Nat → List Int → Int × List Int
  | [], k, now => if total ∈ now then (-1, []) else ((k : Int), memb now 72001)
  | p :: ps, k, now => if 0 ≤ p.join ∧ p.join ∉ now then ((k : Int), memb now 72001) else blameFrom total ps (k + 1) (nextS p now)
def blameS (l : List Pc) (total : Int) : Int × List Int := blameFrom total l 0 [0]

theorem blame_yes {n₀ : Nat} (a : Option Addr) (c : Nat) (l : List Pc) (t : Int) (w : World) (hI : PcsAt n₀ w a l) (hn : n₀ ≤ w.heap.size) (hm : l.length ≤ maxLen) (hV : ValidS l t) :
    Calls Try.prog 21 #[.slice a l.length c, .int .i64 t] w fun e w' => ∃ v, e = .returned (.tuple #[.int .i64 (blameS l t).1, v, .int .i64 0]) ∧ w'.ownsRow w.heap.size 3 1 v (blameS l t).2.length ((blameS l t).2.map (Value.int .i64)) ∧ Below w.heap.size w w' := by
  obtain ⟨hz, _⟩ := zero_of_info zero_set
  obtain ⟨z, hzz⟩ : ∃ z, Array.replicate 1126 (Value.int .u64 0) = z := ⟨_, rfl⟩
  rw [hzz] at hz
  have hzs : z.size = 1126 := by rw [← hzz]; exact Array.size_replicate
  have hza : ¬ z = #[] := by intro h; rw [h] at hzs; simp at hzs
  have hzb : ¬ z.size = 0 := by omega
  have hzc : 0 < z.size := by omega
  have HZ := hide hzz
  have hl20 := hV.1
  have HOK := hide hV.2.2
  obtain ⟨len, hlen⟩ : ∃ len, l.length = len := ⟨_, rfl⟩
  have V := valid_any a c l t w hI hn hm
  rw [decide_eq_true hV] at V
  obtain ⟨ri, hri⟩ : ∃ ri, (blameS l t).1 = ri := ⟨_, rfl⟩
  obtain ⟨rl, hrl⟩ : ∃ rl, (blameS l t).2 = rl := ⟨_, rfl⟩
  have HR := hide (show blameS l t = (ri, rl) by rw [← hri, ← hrl])
  rw [hri, hrl, hlen]
  rw [hlen] at V hl20
  have HLEN := hide hlen
  have HV := hide V
  have HI := hide hI
  clear hI hV hm V hlen hzz hri hrl
  go_enter Try.func21, Try.ntmps21
  go_wp2_with fail
  refine HV.out.mono ?_
  rintro e w1 ⟨rfl, u1⟩
  have u2 := (Upd.refl [] w1).alloc (.cells (z.setIfInBounds 0 (.int .u64 1)) 75)
  have S2 := hide (show SetIs (w1.alloc (.cells (z.setIfInBounds 0 (.int .u64 1)) 75)) w1.heap.size [0] by rw [← HZ.out]; exact set_one w1)
  have U2 := hide (u1.trans u2 (by simp))
  obtain ⟨W2, hW2⟩ : ∃ W2, w1.alloc (.cells (z.setIfInBounds 0 (.int .u64 1)) 75) = W2 := ⟨_, rfl⟩
  rw [hW2] at S2 U2
  have HW2 := hide hW2
  clear u2 hW2 u1
  go_wp2_with fail
  rw [HW2.out]
  go_loopw [7, 18] (fun s i wr => ∃ (k g : Nat), k ≤ len ∧ i = .int .i64 k ∧ s = .pointer (some ⟨g, 0, none⟩) ∧ Hid (Upd [] W2 wr) ∧ Hid (SetIs wr g (reachS (l.take k) [0])) ∧ Hid (blameS l t = blameFrom t (l.drop k) k (reachS (l.take k) [0])))
    (fun _ i _ => len - (intOf i).toNat)
  case atStart => exact ⟨0, _, Nat.zero_le _, rfl, rfl, Upd.refl _ _, S2, rfl⟩
  case round =>
    obtain ⟨k, g, hk, rfl, rfl, hu, hs, hr⟩ := hrel
    by_cases hlt : k < len
    · obtain ⟨p, hp⟩ : ∃ p, l[k]? = some p := ⟨_, List.getElem?_eq_getElem (by have := HLEN.out; omega)⟩
      obtain ⟨b, o, pa, pn, pc, ea, hb, hi, hpm, c0, c1, c2⟩ := (HI.out.upd (U2.out.trans hu.out (by simp)) hn (by simp)) k p hp
      subst ea
      have u3 := (Upd.refl [] wr).alloc (.cells #[.slice pa pn pc, .int .i64 p.want, .int .i64 p.join] 50)
      have hwr := Nat.le_trans U2.out.size hu.out.size
      have hpk := HOK.out p (List.mem_of_getElem? hp)
      have hbd := reachS_bound HOK.out k (by have := HLEN.out; omega)
      have s3 := hs.out.upd u3 (by simp)
      have NX := hide (next_any p pa pn pc g (reachS (l.take k) [0]) _ (hi.upd u3 (Nat.le_trans hn hwr) (by simp)) (Nat.le_trans hn (Nat.le_trans hwr u3.size)) s3 hpk (fun x hx => by have := hbd x hx; omega))
      have HA := hide (has_any g (reachS (l.take k) [0]) p.join _ s3)
      have LE := hide (listed_every g (reachS (l.take k) [0]) _ s3)
      have L3 := Blk.new wr 50 [.slice pa pn pc, .int .i64 p.want, .int .i64 p.join]
      have l0 := L3.cell 0
      have l1 := L3.cell 1
      have l2 := L3.cell 2
      have ER := hide (reachS_take hp [0])
      have U3 := hide (hu.out.trans u3 (by simp))
      have DR := hide (show l.drop k = p :: l.drop (k + 1) by
        have hlk : k < l.length := by have := HLEN.out; omega
        rw [List.drop_eq_getElem_cons hlk]
        congr 1
        rw [List.getElem?_eq_getElem hlk] at hp
        simpa using hp)
      have hr2 := hr.out
      rw [DR.out, blameFrom] at hr2
      have HR2 := hide hr2
      clear hp hi hpm hb L3 u3 hpk hbd hwr s3 hr2
      by_cases hj : 0 ≤ p.join
      · by_cases hin : p.join ∈ reachS (l.take k) [0]
        · have h := HR2.out
          rw [if_neg (fun h => h.2 hin), ← ER.out] at h
          have HR3 := hide h
          have HA2 := HA.out
          rw [decide_eq_true hin] at HA2
          have HA3 := hide HA2
          clear h HA2 hin
          go_wp2_with fail
          refine HA3.out.mono ?_
          rintro e w' ⟨rfl, rfl⟩
          go_wp2_with fail
          refine NX.out.mono ?_
          rintro e w4 ⟨g', rfl, s4, _, b4⟩
          have S4 := hide s4
          have U4 := hide ((U3.out).trans ((Upd.refl [] _).below b4) (by simp))
          clear s4 b4
          go_wp2_with fail
          go_roundw
          case rel => exact ⟨k + 1, g', by omega, by go_num, rfl, U4, by rw [ER.out]; exact S4.out, HR3⟩
          case measure => simp [intOf] <;> omega
        · have h := HR2.out
          rw [if_pos ⟨hj, hin⟩, HR.out] at h
          obtain ⟨rfl, rfl⟩ := Prod.mk.inj h
          have HA2 := HA.out
          rw [decide_eq_false hin] at HA2
          have HA3 := hide HA2
          clear h HA2 hin
          go_wp2_with fail
          refine HA3.out.mono ?_
          rintro e w' ⟨rfl, rfl⟩
          go_wp2_with fail
          refine LE.out.mono ?_
          rintro e w5 ⟨v, rfl, r5, b5⟩
          have R5 := hide r5
          have UF := hide (U2.out.trans U3.out (by simp))
          have U5 := hide (UF.out.trans ((Upd.refl [] _).below b5) (by simp))
          have hs5 := UF.out.size
          clear r5 b5
          go_wp2_with fail
          go_ret3
          exact ⟨v, rfl, own_less R5.out hs5, U5.out.toBelow (Nat.le_refl _) (by simp)⟩
      · have h := HR2.out
        rw [if_neg (fun h => hj h.1), ← ER.out] at h
        have HR3 := hide h
        clear h
        go_wp2_with fail
        refine NX.out.mono ?_
        rintro e w4 ⟨g', rfl, s4, _, b4⟩
        have S4 := hide s4
        have U4 := hide ((U3.out).trans ((Upd.refl [] _).below b4) (by simp))
        clear s4 b4
        go_wp2_with fail
        go_roundw
        case rel => exact ⟨k + 1, g', by omega, by go_num, rfl, U4, by rw [ER.out]; exact S4.out, HR3⟩
        case measure => simp [intOf] <;> omega
    · obtain rfl : k = len := by omega
      obtain ⟨wo, rfl⟩ : ∃ wo : World, wo = wr := ⟨_, rfl⟩
      have hr2 := hr.out
      rw [List.drop_of_length_le (by have := HLEN.out; omega), blameFrom, HR.out] at hr2
      have HR2 := hide hr2
      have HA := hide (has_any g (reachS (l.take k) [0]) t _ hs.out)
      have LE := hide (listed_every g (reachS (l.take k) [0]) _ hs.out)
      have UF := hide (U2.out.trans hu.out (by simp))
      clear hr2
      by_cases hin : t ∈ reachS (l.take k) [0]
      · have h := HR2.out
        rw [if_pos hin] at h
        obtain ⟨rfl, rfl⟩ := Prod.mk.inj h
        have HA2 := HA.out
        rw [decide_eq_true hin] at HA2
        have HA3 := hide HA2
        clear h HA2 hin
        go_wp2_with fail
        refine HA3.out.mono ?_
        rintro e w' ⟨rfl, rfl⟩
        go_wp2_with fail
        go_ret3
        exact ⟨_, rfl, World.ownsRow_nil _ _ _ _, UF.out.toBelow (Nat.le_refl _) (by simp)⟩
      · have h := HR2.out
        rw [if_neg hin] at h
        obtain ⟨rfl, rfl⟩ := Prod.mk.inj h
        have HA2 := HA.out
        rw [decide_eq_false hin] at HA2
        have HA3 := hide HA2
        clear h HA2 hin
        go_wp2_with fail
        refine HA3.out.mono ?_
        rintro e w' ⟨rfl, rfl⟩
        go_wp2_with fail
        refine LE.out.mono ?_
        rintro e w5 ⟨v, rfl, r5, b5⟩
        have R5 := hide r5
        have U5 := hide (UF.out.trans ((Upd.refl [] _).below b5) (by simp))
        have hs5 := UF.out.size
        clear r5 b5
        go_wp2_with fail
        go_ret3
        exact ⟨v, rfl, own_less R5.out hs5, U5.out.toBelow (Nat.le_refl _) (by simp)⟩
theorem blame_no {n₀ : Nat} (a : Option Addr) (c : Nat) (l : List Pc) (t : Int) (w : World) (hI : PcsAt n₀ w a l) (hn : n₀ ≤ w.heap.size) (hm : l.length ≤ maxLen) (hV : ¬ ValidS l t) :
    Calls Try.prog 21 #[.slice a l.length c, .int .i64 t] w fun e w' => e = .returned (.tuple #[.int .i64 0, .slice none 0 0, .int .i64 100]) ∧ Below w.heap.size w w' := by
  have V := valid_any a c l t w hI hn hm
  rw [decide_eq_false hV] at V
  have HV := hide V
  clear hI hV hm V
  go_enter Try.func21, Try.ntmps21
  go_wp2_with fail
  refine HV.out.mono ?_
  rintro e w1 ⟨rfl, u1⟩
  have U1 := hide u1
  clear u1
  go_wp2_with fail
  go_ret3
  exact ⟨rfl, U1.out.toBelow (Nat.le_refl _) (by simp)⟩
end Go.Proofs.Yteehjciepccomaa
