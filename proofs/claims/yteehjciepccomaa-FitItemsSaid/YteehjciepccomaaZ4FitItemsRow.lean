/-
  The small functions: bounds, a valid piece, a join, a distance, whether a number is in a list.
  Which pieces are valid.
-/
import Derived.Test.YteehjciepccomaaZ3FitItemsRow
import Derived.Below

namespace Go.Proofs.Yteehjciepccomaa
open Go.RowKit
set_option maxRecDepth 100000
set_option maxHeartbeats 1000000

/-- isIn -/
theorem isIn_any (n lo hi : Int) (w : World) : Calls Try.prog 41 #[.int .i64 n, .int .i64 lo, .int .i64 hi] w fun e w' => e = .returned (.bool (decide (lo ≤ n ∧ n ≤ hi))) ∧ w = w' := by
  by_cases h1 : lo ≤ n
  · by_cases h2 : n ≤ hi
    · rw [decide_eq_true (⟨h1, h2⟩ : lo ≤ n ∧ n ≤ hi)]
      go_enter Try.func41, Try.ntmps41
      go_wp2_with fail
      go_ret
      exact ⟨rfl, rfl⟩
    · rw [decide_eq_false (fun h : lo ≤ n ∧ n ≤ hi => h2 h.2)]
      go_enter Try.func41, Try.ntmps41
      go_wp2_with fail
      go_ret
      exact ⟨rfl, rfl⟩
  · rw [decide_eq_false (fun h : lo ≤ n ∧ n ≤ hi => h1 h.1)]
    go_enter Try.func41, Try.ntmps41
    go_wp2_with fail
    go_ret
    exact ⟨rfl, rfl⟩
theorem isIn_yes {n lo hi : Int} (h1 : lo ≤ n) (h2 : n ≤ hi) (w : World) : Calls Try.prog 41 #[.int .i64 n, .int .i64 lo, .int .i64 hi] w fun e w' => e = .returned (.bool true) ∧ w = w' := by
  have h := isIn_any n lo hi w
  rwa [decide_eq_true (⟨h1, h2⟩ : lo ≤ n ∧ n ≤ hi)] at h
theorem isIn_no {n lo hi : Int} (h1 : ¬ (lo ≤ n ∧ n ≤ hi)) (w : World) : Calls Try.prog 41 #[.int .i64 n, .int .i64 lo, .int .i64 hi] w fun e w' => e = .returned (.bool false) ∧ w = w' := by
  have h := isIn_any n lo hi w
  rwa [decide_eq_false h1] at h

/-- meets -/
theorem meets_any (p : Pc) (v : Value) (t : Int) (w : World) (hv : v.oneCell' = true) : Calls Try.prog 46 #[.agg #[v, .int .i64 p.want, .int .i64 p.join], .int .i64 t] w fun e w' => e = .returned (.bool (meetsS p t)) ∧ Upd [] w w' := by
  have L1 := Blk.new w 50 [v, .int .i64 p.want, .int .i64 p.join]
  have U1 := hide ((Upd.refl [] w).alloc (.cells #[v, .int .i64 p.want, .int .i64 p.join] 50))
  have k2 := L1.cell 2
  have HV := hide hv
  clear L1
  by_cases h1 : p.join < 0
  · rw [show meetsS p t = true by simp [meetsS, h1]]
    go_enter Try.func46, Try.ntmps46
    go_wp2_with fail
    go_ret
    exact ⟨rfl, U1.out⟩
  · obtain ⟨r, hr⟩ : ∃ r, (p.join == t) = r := ⟨_, rfl⟩
    rw [show meetsS p t = r by rw [← hr]; unfold meetsS; rw [decide_eq_false h1, Bool.false_or]; rfl]
    have HR := hide hr
    clear hr
    go_enter Try.func46, Try.ntmps46
    go_wp2_with fail
    go_ret
    exact ⟨by rw [← HR.out]; rfl, U1.out⟩

/-- away -/
theorem away_any (a b : Int) (w : World) (h1 : -1000000000000000000 ≤ a ∧ a ≤ 1000000000000000000) (h2 : -1000000000000000000 ≤ b ∧ b ≤ 1000000000000000000) : Calls Try.prog 57 #[.int .i64 a, .int .i64 b] w fun e w' => e = .returned (.int .i64 (awayS a b)) ∧ w = w' := by
  obtain ⟨a1, a2⟩ := h1
  obtain ⟨b1, b2⟩ := h2
  go_enter Try.func57, Try.ntmps57
  go_wp2_with fail
  all_goals go_ret
  · exact ⟨by show Ending.returned (.int .i64 (b - a)) = _; rw [show awayS a b = b - a by unfold awayS; omega], rfl⟩
  · exact ⟨by show Ending.returned (.int .i64 (a - b)) = _; rw [show awayS a b = a - b by unfold awayS; omega], rfl⟩

/-- slices.Index, slices.Contains -/
theorem index_any {n₀ : Nat} (a : Option Addr) (n c : Nat) (zs : List Int) (x : Int) (w : World) (hI : Ints n₀ w (.slice a n c) zs) (hm : n ≤ 1000000000) :
    Calls Try.prog 73 #[.slice a n c, .int .i64 x] w fun e w' => (∃ k : Int, e = .returned (.int .i64 k) ∧ (k < 0 ↔ x ∉ zs) ∧ k ≤ 1000000000) ∧ w = w' := by
  have HI := hide hI.form.2
  have HZ := hide hI.form.1
  clear hI
  go_enter Try.func73, Try.ntmps73
  go_wp2_with fail
  go_loopw [8] (fun i wr => ∃ k : Nat, k ≤ n ∧ i = .int .i64 k ∧ wr = w ∧ Hid (∀ j v, j < k → zs[j]? = some v → v ≠ x))
    (fun i _ => n - (intOf i).toNat)
  case atStart => exact ⟨0, Nat.zero_le _, rfl, rfl, fun j v hj => by omega⟩
  case round =>
    obtain ⟨k, hk, rfl, rfl, hno⟩ := hrel
    by_cases hlt : k < n
    · obtain ⟨v, hv⟩ : ∃ v, zs[k]? = some v := ⟨_, List.getElem?_eq_getElem (by rw [← HZ.out]; exact hlt)⟩
      obtain ⟨b, o, rfl, _, hc⟩ := HI.out k v hv
      have HV := hide hv
      clear hv
      by_cases hx : v = x
      · have HX := hide hx
        rw [HX.out] at hc
        clear hx
        go_wp2_with fail
        go_ret
        refine ⟨⟨k, rfl, ⟨fun h => by omega, fun h => absurd (List.mem_of_getElem? (HX.out ▸ HV.out)) h⟩, by omega⟩, rfl⟩
      · have HX := hide hx
        have hx' : ¬ x = v := fun h => hx h.symm
        clear hx
        go_wp2_with fail
        go_roundw
        case rel => exact ⟨k + 1, by omega, by go_num, by first | rfl | trivial, fun j u hj hu => by
          rcases Nat.lt_or_ge j k with h | h
          · exact hno.out j u h hu
          · obtain rfl : j = k := by omega
            have := HV.out
            rw [hu] at this
            obtain rfl : u = v := by simpa using this
            exact HX.out⟩
        case measure => simp [intOf] <;> omega
    · obtain rfl : k = n := by omega
      go_wp2_with fail
      go_ret
      refine ⟨⟨-1, rfl, ⟨fun _ hm => ?_, fun _ => by omega⟩, by omega⟩, rfl⟩
      obtain ⟨j, hj⟩ := List.getElem?_of_mem hm
      have hjl := (List.getElem?_eq_some_iff.1 hj).1
      exact hno.out j x (by have := HZ.out; omega) hj rfl
theorem contains_any {n₀ : Nat} (a : Option Addr) (n c : Nat) (zs : List Int) (x : Int) (w : World) (hI : Ints n₀ w (.slice a n c) zs) (hm : n ≤ 1000000000) :
    Calls Try.prog 56 #[.slice a n c, .int .i64 x] w fun e w' => e = .returned (.bool (decide (x ∈ zs))) ∧ w = w' := by
  have C := hide (index_any a n c zs x w hI hm)
  clear hI
  go_enter Try.func56, Try.ntmps56
  go_wp2_with fail
  refine C.out.mono ?_
  rintro e w' ⟨⟨k, rfl, hk, _⟩, rfl⟩
  have HK := hide hk
  clear hk
  obtain ⟨r, hr⟩ : ∃ r, decide (0 ≤ k) = r := ⟨_, rfl⟩
  have e : decide (x ∈ zs) = r := by
    rw [← hr]
    have := HK.out
    by_cases hx : x ∈ zs
    · rw [decide_eq_true hx, decide_eq_true (p := 0 ≤ k) (by rcases Int.lt_or_le k 0 with h | h; exact absurd hx (this.1 h); exact h)]
    · rw [decide_eq_false hx, decide_eq_false (by have := this.2 hx; omega)]
  have HE := hide e
  have HR := hide hr
  clear e hr
  go_wp2_with fail
  go_ret
  exact ⟨by rw [HE.out, ← HR.out]; rfl, rfl⟩

end Go.Proofs.Yteehjciepccomaa

namespace Go.Proofs.Yteehjciepccomaa
open Go.RowKit
set_option maxRecDepth 100000
set_option maxHeartbeats 1000000

theorem Ints.upd {n₀ : Nat} {w w' : World} {v : Value} {zs : List Int} {l : List Nat} (h : Ints n₀ w v zs) (hu : Upd l w w') (hn : n₀ ≤ w.heap.size) (hl : ∀ x ∈ l, n₀ ≤ x) : Ints n₀ w' v zs := by
  rcases h with h | ⟨b, off, cap, e, hb, hc⟩
  · exact .inl h
  · exact .inr ⟨b, off, cap, e, hb, fun j hj => (hu.cell (p := ⟨b, off + j, none⟩) (Nat.lt_of_lt_of_le hb hn) (fun hm => by have := hl b hm; omega)).trans (hc j hj)⟩

/-- isPiece -/
theorem isPiece_any {n₀ : Nat} (a : Option Addr) (n c : Nat) (p : Pc) (w : World) (hI : Ints n₀ w (.slice a n c) p.lens) (hn : n₀ ≤ w.heap.size) (hm : p.lens.length ≤ maxLen) :
    Calls Try.prog 54 #[.agg #[.slice a n c, .int .i64 p.want, .int .i64 p.join]] w fun e w' => e = .returned (.bool (decide (PcOk p))) ∧ Upd [] w w' := by
  have hm' : n ≤ 9223372036854775807 := by have := hI.form.1; unfold maxLen at hm; omega
  have L1 := Blk.new w 50 [.slice a n c, .int .i64 p.want, .int .i64 p.join]
  have U1 := (Upd.refl [] w).alloc (.cells #[.slice a n c, .int .i64 p.want, .int .i64 p.join] 50)
  have I1 := hide (hI.upd U1 hn (by simp)).form.2
  have hZ := hI.form.1
  have k0 := L1.cell 0
  have k1 := L1.cell 1
  have k2 := L1.cell 2
  have HU := hide U1
  clear hI L1 U1 hm
  obtain ⟨r, hr⟩ : ∃ r, decide (PcOk p) = r := ⟨_, rfl⟩
  rw [hr]
  have HR := hide hr
  clear hr
  have C1 := isIn_any (n : Int) 1 8 (w.alloc (.cells #[.slice a n c, .int .i64 p.want, .int .i64 p.join] 50))
  have C2 := isIn_any p.want 0 3600 (w.alloc (.cells #[.slice a n c, .int .i64 p.want, .int .i64 p.join] 50))
  have C3 := isIn_any p.join (-1) 3600 (w.alloc (.cells #[.slice a n c, .int .i64 p.want, .int .i64 p.join] 50))
  obtain ⟨x1, h1⟩ : ∃ r, decide ((1 : Int) ≤ n ∧ (n : Int) ≤ 8) = r := ⟨_, rfl⟩
  obtain ⟨x2, h2⟩ : ∃ r, decide ((0 : Int) ≤ p.want ∧ p.want ≤ 3600) = r := ⟨_, rfl⟩
  obtain ⟨x3, h3⟩ : ∃ r, decide ((-1 : Int) ≤ p.join ∧ p.join ≤ 3600) = r := ⟨_, rfl⟩
  rw [h1] at C1
  rw [h2] at C2
  rw [h3] at C3
  have D1 := hide C1
  have D2 := hide C2
  have D3 := hide C3
  have H1 := hide h1
  have H2 := hide h2
  have H3 := hide h3
  have HZ := hide hZ
  clear h1 h2 h3 hZ C1 C2 C3
  have no : ∀ q : Prop, (PcOk p → q) → ¬ q → r = false := fun q h1 h2 => by
    rw [← HR.out]
    exact decide_eq_false fun h => h2 (h1 h)
  have NO := hide no
  clear no
  go_enter Try.func54, Try.ntmps54
  go_wp2_with fail
  refine D1.out.mono ?_
  rintro e w' ⟨rfl, rfl⟩
  cases x1 with
  | false =>
    obtain rfl : r = false := NO.out _ (fun h => decide_eq_true (show (1 : Int) ≤ n ∧ (n : Int) ≤ 8 by have := h.1; have := HZ.out; omega)) (by rw [H1.out]; simp)
    go_wp2_with fail
    go_ret
    exact ⟨rfl, HU.out⟩
  | true =>
  go_wp2_with fail
  refine D2.out.mono ?_
  rintro e w' ⟨rfl, rfl⟩
  cases x2 with
  | false =>
    obtain rfl : r = false := NO.out _ (fun h => decide_eq_true h.2.1) (by rw [H2.out]; simp)
    go_wp2_with fail
    go_ret
    exact ⟨rfl, HU.out⟩
  | true =>
  go_wp2_with fail
  refine D3.out.mono ?_
  rintro e w' ⟨rfl, rfl⟩
  cases x3 with
  | false =>
    obtain rfl : r = false := NO.out _ (fun h => decide_eq_true h.2.2.1) (by rw [H3.out]; simp)
    go_wp2_with fail
    go_ret
    exact ⟨rfl, HU.out⟩
  | true =>
  go_wp2_with fail
  go_loopw [25] (fun i wr => ∃ k : Nat, k ≤ n ∧ i = .int .i64 k ∧ wr = (w.alloc (.cells #[.slice a n c, .int .i64 p.want, .int .i64 p.join] 50)) ∧ Hid (∀ j, j < k → LenOk p.lens j))
    (fun i _ => n - (intOf i).toNat)
  case atStart => exact ⟨0, Nat.zero_le _, rfl, rfl, fun j hj => by omega⟩
  case round =>
    obtain ⟨k, hk, rfl, rfl, hok⟩ := hrel
    by_cases hlt : k < n
    · obtain ⟨z, hz⟩ : ∃ z, p.lens[k]? = some z := ⟨_, List.getElem?_eq_getElem (by rw [← HZ.out]; exact hlt)⟩
      obtain ⟨b, o, ea, hbn, hc⟩ := I1.out k z hz
      have HZk := hide hz
      have HB := hide hbn
      clear hz hbn
      subst ea
      have C4 := fun W => isIn_any z 0 3600 W
      obtain ⟨x4, h4⟩ : ∃ r, decide ((0 : Int) ≤ z ∧ z ≤ 3600) = r := ⟨_, rfl⟩
      simp only [h4] at C4
      have D4 := hide C4
      have H4 := hide h4
      clear h4 C4
      go_wp2_with fail
      refine (D4.out _).mono ?_
      rintro e w' ⟨rfl, rfl⟩
      cases x4 with
      | false =>
        obtain rfl : r = false := NO.out _ (fun h => decide_eq_true (show (0 : Int) ≤ z ∧ z ≤ 3600 by have := (h.2.2.2 k (by have := HZ.out; omega)).1; rw [HZk.out] at this; exact this)) (by rw [H4.out]; simp)
        go_wp2_with fail
        go_ret
        exact ⟨rfl, HU.out⟩
      | true =>
      cases k with
      | zero =>
        go_wp2_with fail
        go_roundw
        case rel => exact ⟨1, by omega, by go_num, by first | rfl | trivial, fun j hj => by
          obtain rfl : j = 0 := by omega
          unfold LenOk
          rw [HZk.out]
          exact ⟨of_decide_eq_true H4.out, .inl rfl⟩⟩
        case measure => simp [intOf] <;> omega
      | succ m =>
        obtain ⟨y, hy⟩ : ∃ y, p.lens[m]? = some y := ⟨_, List.getElem?_eq_getElem (by rw [← HZ.out]; omega)⟩
        obtain ⟨b', o', ea, _, hc'⟩ := I1.out m y hy
        obtain ⟨rfl, rfl⟩ : b = b' ∧ o = o' := by simpa using ea
        have HY := hide hy
        clear hy ea
        by_cases hzy : z ≤ y
        · obtain rfl : r = false := NO.out _ (fun h => (h.2.2.2 (m + 1) (by have := HZ.out; omega)).2) (by
            rw [HZk.out, show m + 1 - 1 = m from rfl, HY.out]
            simp
            omega)
          go_wp2_with fail
          go_ret
          exact ⟨rfl, HU.out⟩
        · go_wp2_with fail
          go_roundw
          case rel => exact ⟨m + 1 + 1, by omega, by go_num, by first | rfl | trivial, fun j hj => by
            rcases Nat.lt_or_ge j (m + 1) with h | h
            · exact hok.out j h
            · obtain rfl : j = m + 1 := by omega
              unfold LenOk
              rw [HZk.out, show m + 1 - 1 = m from rfl, HY.out]
              exact ⟨of_decide_eq_true H4.out, .inr (by simp; omega)⟩⟩
          case measure => simp [intOf] <;> omega
    · obtain rfl : k = n := by omega
      obtain rfl : r = true := by
        rw [← HR.out]
        have h1 := of_decide_eq_true H1.out
        refine decide_eq_true ⟨by have := HZ.out; omega, of_decide_eq_true H2.out, of_decide_eq_true H3.out, fun j hj => hok.out j (by have := HZ.out; omega)⟩
      go_wp2_with fail
      go_ret
      exact ⟨rfl, HU.out⟩

/-- Valid's isNone -/
theorem isNone_any {n₀ : Nat} (a : Option Addr) (n c : Nat) (p : Pc) (w : World) (hI : Ints n₀ w (.slice a n c) p.lens) (hn : n₀ ≤ w.heap.size) (hm : p.lens.length ≤ maxLen) :
    Calls Try.prog 53 #[.agg #[.slice a n c, .int .i64 p.want, .int .i64 p.join]] w fun e w' => e = .returned (.bool (!decide (PcOk p))) ∧ Upd [] w w' := by
  have U1 := (Upd.refl [] w).alloc (.cells #[.slice a n c, .int .i64 p.want, .int .i64 p.join] 50)
  have L1 := Blk.new w 50 [.slice a n c, .int .i64 p.want, .int .i64 p.join]
  have k0 := L1.cell 0
  have k1 := L1.cell 1
  have k2 := L1.cell 2
  have C := isPiece_any a n c p _ (hI.upd U1 hn (by simp)) (Nat.le_trans hn U1.size) hm
  obtain ⟨r, hr⟩ : ∃ r, decide (PcOk p) = r := ⟨_, rfl⟩
  rw [hr] at C ⊢
  have CC := hide C
  have HU := hide U1
  clear hI U1 hm C L1 hr
  go_enter Try.func53, Try.ntmps53
  go_wp2_with fail
  refine CC.out.mono ?_
  rintro e w' ⟨rfl, u2⟩
  have HU2 := hide u2
  clear u2
  cases r with
  | false =>
    go_wp2_with fail
    go_ret
    exact ⟨rfl, HU.out.trans HU2.out (by simp)⟩
  | true =>
    go_wp2_with fail
    go_ret
    exact ⟨rfl, HU.out.trans HU2.out (by simp)⟩

theorem PcsAt.upd {n₀ : Nat} {w w' : World} {a : Option Addr} {l : List Pc} {ls : List Nat} (h : PcsAt n₀ w a l) (hu : Upd ls w w') (hn : n₀ ≤ w.heap.size) (hl : ∀ x ∈ ls, n₀ ≤ x) : PcsAt n₀ w' a l := by
  intro i p hp
  obtain ⟨b, o, pa, pn, pc, e, h1, h2, h3, c0, c1, c2⟩ := h i p hp
  have hk : b ∉ ls := fun hm => by have := hl b hm; omega
  exact ⟨b, o, pa, pn, pc, e, h1, h2.upd hu hn hl, h3, (hu.cell (p := ⟨b, _, none⟩) (Nat.lt_of_lt_of_le h1 hn) hk).trans c0, (hu.cell (p := ⟨b, _, none⟩) (Nat.lt_of_lt_of_le h1 hn) hk).trans c1, (hu.cell (p := ⟨b, _, none⟩) (Nat.lt_of_lt_of_le h1 hn) hk).trans c2⟩

/-- slices.IndexFunc over isNone -/
theorem indexNone_any {n₀ : Nat} (a : Option Addr) (c : Nat) (l : List Pc) (w : World) (hI : PcsAt n₀ w a l) (hn : n₀ ≤ w.heap.size) (hm : l.length ≤ maxLen) :
    Calls Try.prog 72 #[.slice a l.length c, .func (.func 53) #[] #[]] w fun e w' => (∃ k : Int, e = .returned (.int .i64 k) ∧ (k < 0 ↔ ∀ p ∈ l, PcOk p)) ∧ Upd [] w w' := by
  have HI := hide hI
  have hm' : l.length ≤ 9223372036854775807 := by unfold maxLen at hm; omega
  obtain ⟨n, hz⟩ : ∃ n, l.length = n := ⟨_, rfl⟩
  rw [hz] at hm' ⊢
  have HZ := hide hz
  clear hI hm hz
  go_enter Try.func72, Try.ntmps72
  go_wp2_with fail
  go_loopw [8] (fun i wr => ∃ k : Nat, k ≤ n ∧ i = .int .i64 k ∧ Hid (Upd [] w wr) ∧ Hid (∀ j p, j < k → l[j]? = some p → PcOk p))
    (fun i _ => n - (intOf i).toNat)
  case atStart => exact ⟨0, Nat.zero_le _, rfl, Upd.refl _ _, fun j v hj => by omega⟩
  case round =>
    obtain ⟨k, hk, rfl, hu, hno⟩ := hrel
    by_cases hlt : k < n
    · obtain ⟨p, hp⟩ : ∃ p, l[k]? = some p := ⟨_, List.getElem?_eq_getElem (by rw [HZ.out]; exact hlt)⟩
      obtain ⟨b, o, pa, pn, pc, ea, hb, hi, hpm, c0, c1, c2⟩ := (HI.out.upd hu.out hn (by simp)) k p hp
      subst ea
      have HP := hide hp
      have C := isNone_any pa pn pc p wr hi (Nat.le_trans hn hu.out.size) hpm
      obtain ⟨r, hr⟩ : ∃ r, decide (PcOk p) = r := ⟨_, rfl⟩
      rw [hr] at C
      have CC := hide C
      have HR := hide hr
      clear C hp hi hpm hr hb
      go_wp2_with fail
      refine CC.out.mono ?_
      rintro e w2 ⟨rfl, u2⟩
      have HU2 := hide (hu.out.trans u2 (by simp))
      clear u2
      cases r with
      | false =>
        go_wp2_with fail
        go_ret
        exact ⟨⟨k, rfl, ⟨fun h => by omega, fun h => absurd (h p (List.mem_of_getElem? HP.out)) (of_decide_eq_false HR.out)⟩⟩, HU2.out⟩
      | true =>
        go_wp2_with fail
        go_roundw
        case rel => exact ⟨k + 1, by omega, by go_num, HU2, fun j u hj hu => by
          rcases Nat.lt_or_ge j k with h | h
          · exact hno.out j u h hu
          · obtain rfl : j = k := by omega
            have := HP.out
            rw [hu] at this
            obtain rfl : u = p := by simpa using this
            exact of_decide_eq_true HR.out⟩
        case measure => simp [intOf] <;> omega
    · obtain rfl : k = n := by omega
      obtain ⟨wo, rfl⟩ : ∃ wo : World, wo = wr := ⟨_, rfl⟩
      go_wp2_with fail
      go_ret
      refine ⟨⟨-1, rfl, ⟨fun _ p hm => ?_, fun _ => by omega⟩⟩, hu.out⟩
      obtain ⟨j, hj⟩ := List.getElem?_of_mem hm
      have hjl := (List.getElem?_eq_some_iff.1 hj).1
      exact hno.out j p (by have := HZ.out; omega) hj
theorem containsNone_any {n₀ : Nat} (a : Option Addr) (c : Nat) (l : List Pc) (w : World) (hI : PcsAt n₀ w a l) (hn : n₀ ≤ w.heap.size) (hm : l.length ≤ maxLen) :
    Calls Try.prog 55 #[.slice a l.length c, .func (.func 53) #[] #[]] w fun e w' => e = .returned (.bool (!decide (∀ p ∈ l, PcOk p))) ∧ Upd [] w w' := by
  have C := hide (indexNone_any a c l w hI hn hm)
  obtain ⟨r, hr⟩ : ∃ r, decide (∀ p ∈ l, PcOk p) = r := ⟨_, rfl⟩
  rw [hr]
  have HR := hide hr
  clear hI hr hm
  go_enter Try.func55, Try.ntmps55
  go_wp2_with fail
  refine C.out.mono ?_
  rintro e w' ⟨⟨k, rfl, hk⟩, hu⟩
  have HU := hide hu
  have HK := hide hk
  clear hk hu
  obtain ⟨r', hr⟩ : ∃ r', decide (0 ≤ k) = r' := ⟨_, rfl⟩
  have e : r' = !r := by
    rw [← hr, ← HR.out]
    have := HK.out
    by_cases hx : ∀ p ∈ l, PcOk p
    · rw [decide_eq_true hx, decide_eq_false (by have := this.2 hx; omega)]; rfl
    · rw [decide_eq_false hx, decide_eq_true (p := 0 ≤ k) (by rcases Int.lt_or_le k 0 with h | h; exact absurd (this.1 h) hx; exact h)]; rfl
  have HE := hide e
  have HR := hide hr
  clear e hr
  go_wp2_with fail
  go_ret
  exact ⟨by rw [← HE.out, ← HR.out]; rfl, HU.out⟩

/-- Valid -/
theorem valid_any {n₀ : Nat} (a : Option Addr) (c : Nat) (l : List Pc) (t : Int) (w : World) (hI : PcsAt n₀ w a l) (hn : n₀ ≤ w.heap.size) (hm : l.length ≤ maxLen) :
    Calls Try.prog 25 #[.slice a l.length c, .int .i64 t] w fun e w' => e = .returned (.bool (decide (ValidS l t))) ∧ Upd [] w w' := by
  have C := containsNone_any a c l w hI hn hm
  have I := isIn_any t 0 3600 w
  have hm' : l.length ≤ 9223372036854775807 := by unfold maxLen at hm; omega
  obtain ⟨x3, h3⟩ : ∃ r, decide (∀ p ∈ l, PcOk p) = r := ⟨_, rfl⟩
  obtain ⟨x2, h2⟩ : ∃ r, decide (0 ≤ t ∧ t ≤ 3600) = r := ⟨_, rfl⟩
  have e : ∀ h : l.length ≤ 20, decide (ValidS l t) = (x2 && x3) := fun h => by
    rw [← h2, ← h3]
    by_cases q2 : 0 ≤ t ∧ t ≤ 3600
    · by_cases q3 : ∀ p ∈ l, PcOk p
      · rw [decide_eq_true q2, decide_eq_true q3, decide_eq_true (show ValidS l t from ⟨h, q2, q3⟩)]; rfl
      · rw [decide_eq_true q2, decide_eq_false q3, decide_eq_false (fun h : ValidS l t => q3 h.2.2)]; rfl
    · rw [decide_eq_false q2, decide_eq_false (fun h : ValidS l t => q2 h.2.1)]; rfl
  have e0 : ¬ l.length ≤ 20 → decide (ValidS l t) = false := fun h => decide_eq_false fun hh => h hh.1
  rw [h3] at C
  rw [h2] at I
  obtain ⟨n, hz⟩ : ∃ n, l.length = n := ⟨_, rfl⟩
  rw [hz] at hm' e e0 C ⊢
  obtain ⟨r, hr⟩ : ∃ r, decide (ValidS l t) = r := ⟨_, rfl⟩
  rw [hr] at e e0 ⊢
  have HC := hide C
  have HI := hide I
  have HE := hide e
  have HE0 := hide e0
  clear hI h2 h3 e e0 C I hr hz
  by_cases h20 : n ≤ 20
  · obtain rfl := HE.out h20
    go_enter Try.func25, Try.ntmps25
    go_wp2_with fail
    refine HI.out.mono ?_
    rintro e w' ⟨rfl, rfl⟩
    cases x2 with
    | false =>
      go_wp2_with fail
      go_ret
      exact ⟨rfl, Upd.refl _ _⟩
    | true =>
      go_wp2_with fail
      refine HC.out.mono ?_
      rintro e w' ⟨rfl, hu⟩
      have HU := hide hu
      clear hu
      cases x3 with
      | false =>
        go_wp2_with fail
        go_ret
        exact ⟨rfl, HU.out⟩
      | true =>
        go_wp2_with fail
        go_ret
        exact ⟨rfl, HU.out⟩
  · obtain rfl := HE0.out h20
    go_enter Try.func25, Try.ntmps25
    go_wp2_with fail
    go_ret
    exact ⟨rfl, Upd.refl _ _⟩
end Go.Proofs.Yteehjciepccomaa
