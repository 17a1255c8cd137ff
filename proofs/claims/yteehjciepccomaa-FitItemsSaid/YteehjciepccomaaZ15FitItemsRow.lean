/-
  slices.Compare and cmp.Or at ints.
-/
import Derived.Test.YteehjciepccomaaShelf
import Derived.Test.YteehjciepccomaaZ3FitItemsRow

namespace Go.Proofs.Yteehjciepccomaa
open Go.RowKit
set_option maxRecDepth 100000
set_option maxHeartbeats 20000000

def cmpL : List Int → List Int → Int
  | [], [] => 0
  | [], _ :: _ => -1
  | _ :: _, [] => 1
  | x :: xs, y :: ys => if Lib.compareInt x y = 0 then cmpL xs ys else Lib.compareInt x y
theorem compareInt_bounds (x y : Int) : -1 ≤ Lib.compareInt x y ∧ Lib.compareInt x y ≤ 1 := by
  unfold Lib.compareInt
  split
  · omega
  · split <;> omega
theorem idrop_at {l : List Int} {k : Nat} {x : Int} (h : l[k]? = some x) : l.drop k = x :: l.drop (k + 1) := by
  have hk := (List.getElem?_eq_some_iff.1 h).1
  rw [List.drop_eq_getElem_cons hk]
  rw [List.getElem?_eq_getElem hk] at h
  rw [Option.some.inj h]

theorem slicesCompare {n₀ n₁ : Nat} (a : Option Addr) (n c : Nat) (xs : List Int) (a2 : Option Addr) (n2 c2 : Nat) (ys : List Int) (w : World) (h1 : Ints n₀ w (.slice a n c) xs) (h2 : Ints n₁ w (.slice a2 n2 c2) ys) (hm : n ≤ maxLen) (hm2 : n2 ≤ maxLen) :
    Calls Try.prog 68 #[.slice a n c, .slice a2 n2 c2] w fun e w' => e = .returned (.int .i64 (cmpL xs ys)) ∧ w = w' := by
  have HX := hide h1.form.2
  have HXN := hide h1.form.1
  have HY := hide h2.form.2
  have HYN := hide h2.form.1
  have hm' : n ≤ 9223372036854775807 := by unfold maxLen at hm; omega
  have hm2' : n2 ≤ 9223372036854775807 := by unfold maxLen at hm2; omega
  obtain ⟨r, HR⟩ : ∃ r, Hid (cmpL xs ys = r) := ⟨_, rfl⟩
  rw [HR.out]
  clear h1 h2 hm hm2
  go_enter Try.func68, Try.ntmps68
  go_wp2_with fail
  go_loopw [11] (fun s11 wr => ∃ k : Nat, k ≤ n ∧ k ≤ n2 ∧ s11 = .int .i64 k ∧ Hid (wr = w) ∧ Hid (cmpL (xs.drop k) (ys.drop k) = r)) (fun k _ => n - (intOf k).toNat)
  case atStart => exact ⟨0, Nat.zero_le _, Nat.zero_le _, rfl, rfl, HR.out⟩
  case round =>
    obtain ⟨k, hk, hk2, rfl, hw, hr⟩ := hrel
    obtain rfl := hw.out
    clear hw
    by_cases hkl : k < n
    · obtain ⟨x, hx⟩ : ∃ x, xs[k]? = some x := ⟨_, List.getElem?_eq_getElem (by have := HXN.out; omega)⟩
      obtain ⟨b, o, ea, _, c0⟩ := HX.out k x hx
      subst ea
      have hki : (k : Int) < n := by omega
      by_cases hkl2 : k < n2
      · obtain ⟨y, hy⟩ : ∃ y, ys[k]? = some y := ⟨_, List.getElem?_eq_getElem (by have := HYN.out; omega)⟩
        obtain ⟨b2, o2, eb, _, d0⟩ := HY.out k y hy
        subst eb
        have hki2 : (k : Int) < n2 := by omega
        have HST := hide (show cmpL (xs.drop k) (ys.drop k) = if Lib.compareInt x y = 0 then cmpL (xs.drop (k + 1)) (ys.drop (k + 1)) else Lib.compareInt x y by
          rw [idrop_at hx, idrop_at hy]
          rfl)
        obtain ⟨q, hq⟩ : ∃ q, Lib.compareInt x y = q := ⟨_, rfl⟩
        have CI := Try.cmp_Compare_int x y wr
        rw [hq] at CI
        have hqb := compareInt_bounds x y
        rw [hq] at hqb
        have HCI := hide CI
        have HQ := hide hq
        obtain ⟨hq1, hq2⟩ := hqb
        clear hx hy CI hq
        by_cases h0 : q = 0
        · subst h0
          go_wp2_with fail
          refine HCI.out.mono ?_
          rintro e w' ⟨rfl, rfl⟩
          go_wp2_with fail
          go_roundw
          case rel => exact ⟨k + 1, by omega, by omega, by go_num, by first | exact rfl | exact hide trivial, hide (by rw [← hr.out, HST.out, if_pos HQ.out])⟩
          case measure => simp [intOf] <;> omega
        · have h0b : (q != 0) = true := by simpa using h0
          obtain rfl : r = q := by rw [← hr.out, HST.out, if_neg (by rw [HQ.out]; exact h0), HQ.out]
          clear h0
          go_wp2_with fail
          refine HCI.out.mono ?_
          rintro e w' ⟨rfl, rfl⟩
          go_wp2_with fail
          go_ret
          exact ⟨rfl, rfl⟩
      · obtain rfl : r = 1 := by
          rw [← hr.out, idrop_at hx, List.drop_of_length_le (show ys.length ≤ k by have := HYN.out; omega)]
          rfl
        have hki2 : (n2 : Int) ≤ k := by omega
        clear hx
        go_wp2_with fail
        go_ret
        exact ⟨rfl, rfl⟩
    · obtain rfl : k = n := by omega
      have hki : ¬ (k : Int) < k := by omega
      by_cases hkl2 : k < n2
      · obtain ⟨y, hy⟩ : ∃ y, ys[k]? = some y := ⟨_, List.getElem?_eq_getElem (by have := HYN.out; omega)⟩
        obtain rfl : r = -1 := by
          rw [← hr.out, idrop_at hy, List.drop_of_length_le (show xs.length ≤ k by have := HXN.out; omega)]
          rfl
        have hki2 : (k : Int) < n2 := by omega
        clear hy
        go_wp2_with fail
        go_ret
        exact ⟨rfl, rfl⟩
      · obtain rfl : k = n2 := by omega
        obtain rfl : r = 0 := by
          rw [← hr.out, List.drop_of_length_le (show ys.length ≤ k by have := HYN.out; omega), List.drop_of_length_le (show xs.length ≤ k by have := HXN.out; omega)]
          rfl
        go_wp2_with fail
        go_ret
        exact ⟨rfl, rfl⟩

theorem cmpOr2 (b : Nat) (x y : Int) (w : World) (c0 : w.cell? ⟨b, 0, none⟩ = some (.int .i64 x)) (c1 : w.cell? ⟨b, 1, none⟩ = some (.int .i64 y)) :
    Calls Try.prog 66 #[.slice (some ⟨b, 0, none⟩) 2 2] w fun e w' => e = .returned (.int .i64 (if x = 0 then y else x)) ∧ w = w' := by
  obtain ⟨r, HR⟩ : ∃ r, Hid ((if x = 0 then y else x) = r) := ⟨_, rfl⟩
  rw [HR.out]
  go_enter Try.func66, Try.ntmps66
  go_wp2_with fail
  go_loopw [8] (fun s8 wr => ∃ k : Nat, k ≤ 2 ∧ s8 = .int .i64 k ∧ Hid (wr = w) ∧ Hid (0 < k → x = 0) ∧ Hid (1 < k → y = 0)) (fun k _ => 2 - (intOf k).toNat)
  case atStart => exact ⟨0, Nat.zero_le _, rfl, rfl, hide (fun h => by omega), hide (fun h => by omega)⟩
  case round =>
    obtain ⟨k, hk, rfl, hw, hx0, hy0⟩ := hrel
    obtain rfl := hw.out
    clear hw
    have hcases : k = 0 ∨ k = 1 ∨ k = 2 := by omega
    rcases hcases with rfl | rfl | rfl
    · by_cases h0 : x = 0
      · subst h0
        go_wp2_with fail
        go_roundw
        case rel => exact ⟨1, by omega, by go_num, by first | exact rfl | exact hide trivial, by first | exact hide (fun _ => rfl) | exact hide (fun _ => trivial), hide (fun h => by omega)⟩
        case measure => simp [intOf] <;> omega
      · have h0b : (x != 0) = true := by simpa using h0
        obtain rfl : r = x := by rw [← HR.out, if_neg h0]
        clear h0
        go_wp2_with fail
        go_ret
        exact ⟨rfl, rfl⟩
    · by_cases h0 : y = 0
      · subst h0
        go_wp2_with fail
        go_roundw
        case rel => exact ⟨2, by omega, by go_num, by first | exact rfl | exact hide trivial, hide (fun _ => hx0.out (by omega)), by first | exact hide (fun _ => rfl) | exact hide (fun _ => trivial)⟩
        case measure => simp [intOf] <;> omega
      · have h0b : (y != 0) = true := by simpa using h0
        obtain rfl : r = y := by rw [← HR.out, if_pos (hx0.out (by omega))]
        clear h0
        go_wp2_with fail
        go_ret
        exact ⟨rfl, rfl⟩
    · obtain rfl : r = 0 := by rw [← HR.out, if_pos (hx0.out (by omega)), hy0.out (by omega)]
      go_wp2_with fail
      go_ret
      exact ⟨rfl, rfl⟩
theorem cmpOr_new (x y q : Int) (hq : (if x = 0 then y else x) = q) (X : World) :
    Calls Try.prog 66 #[.slice (some ⟨X.heap.size, 0, none⟩) 2 2] (X.alloc (.cells #[.int .i64 x, .int .i64 y] 3)) fun e w' => e = .returned (.int .i64 q) ∧ (X.alloc (.cells #[.int .i64 x, .int .i64 y] 3)) = w' := by
  have B := Blk.new X 3 [.int .i64 x, .int .i64 y]
  have c0 := B.cell 0
  have c1 := B.cell 1
  obtain ⟨Y, hY⟩ : ∃ Y, X.alloc (.cells #[.int .i64 x, .int .i64 y] 3) = Y := ⟨_, rfl⟩
  have c0' : Y.cell? ⟨X.heap.size, 0, none⟩ = some (.int .i64 x) := by rw [← hY]; exact c0
  have c1' : Y.cell? ⟨X.heap.size, 1, none⟩ = some (.int .i64 y) := by rw [← hY]; exact c1
  rw [hY]
  have := cmpOr2 X.heap.size x y Y c0' c1'
  rw [hq] at this
  exact this
end Go.Proofs.Yteehjciepccomaa
