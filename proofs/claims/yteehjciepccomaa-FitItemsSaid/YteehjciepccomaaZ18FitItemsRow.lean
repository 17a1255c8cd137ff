/-
  The reference's parts: spells that an integer determines.
  The reference's Made: the recording that integers determine.
  Rows of recordings in memory.
-/
import Derived.Test.YteehjciepccomaaZ17FitItemsRow
import Derived.Deep.LoopGhost
import Derived.Deep.RegionHeld3

namespace Go.Proofs.Yteehjciepccomaa
open Go.RowKit
set_option maxRecDepth 100000
set_option maxHeartbeats 20000000

def partsGo (c len : Int) : Nat → Nat → Int → List Sp
  | 0, _, _ => []
  | f + 1, k, at_ =>
    if len ≤ at_ + c / (5 + 7 * k) % (1 + len / 4) + 1 + c / (11 + 3 * k) % (1 + len / 6) then []
    else ⟨at_ + c / (5 + 7 * k) % (1 + len / 4), at_ + c / (5 + 7 * k) % (1 + len / 4) + 1 + c / (11 + 3 * k) % (1 + len / 6)⟩ :: partsGo c len f (k + 1) (at_ + c / (5 + 7 * k) % (1 + len / 4) + 1 + c / (11 + 3 * k) % (1 + len / 6))
def partsS (x len : Int) : List Sp := partsGo (pickS x 1099511627776) len (pickS x 1099511627776 % 5).toNat 0 0
theorem partsGo_spec (c len : Int) (_ : 1 ≤ len) : ∀ (f k : Nat) (at_ : Int), 0 ≤ at_ → at_ < len → (partsGo c len f k at_).length ≤ f ∧
    (∀ j, j < (partsGo c len f k at_).length → SpIn len ((partsGo c len f k at_)[j]?.getD ⟨0, 0⟩) ∧ (if j = 0 then at_ else ((partsGo c len f k at_)[j - 1]?.getD ⟨0, 0⟩).to_) ≤ ((partsGo c len f k at_)[j]?.getD ⟨0, 0⟩).fr) ∧
    sumSp (partsGo c len f k at_) < len - at_ := by
  intro f
  induction f with
  | zero => intro k at_ h0 h1; exact ⟨Nat.le_refl _, fun j hj => by simp [partsGo] at hj, by show 0 < _; omega⟩
  | succ f ih =>
    intro k at_ h0 h1
    rw [partsGo]
    have a1 := Int.emod_nonneg (c / (5 + 7 * k)) (show 1 + len / 4 ≠ 0 by omega)
    have b1 := Int.emod_nonneg (c / (11 + 3 * k)) (show 1 + len / 6 ≠ 0 by omega)
    generalize c / (5 + 7 * k) % (1 + len / 4) = q1 at *
    generalize c / (11 + 3 * k) % (1 + len / 6) = q2 at *
    by_cases hle : len ≤ at_ + q1 + 1 + q2
    · rw [if_pos hle]
      exact ⟨Nat.zero_le _, fun j hj => by simp at hj, by show 0 < _; omega⟩
    · rw [if_neg hle]
      obtain ⟨i1, i2, i3⟩ := ih (k + 1) (at_ + q1 + 1 + q2) (by omega) (by omega)
      refine ⟨by rw [List.length_cons]; omega, fun j hj => ?_, by rw [sumSp_cons]; show at_ + q1 + 1 + q2 - (at_ + q1) + _ < _; omega⟩
      cases j with
      | zero => exact ⟨⟨by show 0 ≤ at_ + q1; omega, by show at_ + q1 < at_ + q1 + 1 + q2; omega, by show at_ + q1 + 1 + q2 ≤ len; omega⟩, by show at_ ≤ at_ + q1; omega⟩
      | succ j =>
        have := i2 j (by rw [List.length_cons] at hj; omega)
        rw [List.getElem?_cons_succ]
        refine ⟨this.1, ?_⟩
        have h3 := this.2
        rw [if_neg (by omega), show j + 1 - 1 = j by omega]
        cases j with
        | zero => exact h3
        | succ j => rw [if_neg (by omega)] at h3; rw [List.getElem?_cons_succ]; exact h3
theorem partsS_ok (x len : Int) (hl : 1 ≤ len) : SpsOk len (partsS x len) ∧ sumSp (partsS x len) < len := by
  unfold partsS
  have h5 := Int.emod_lt_of_pos (pickS x 1099511627776) (show (0 : Int) < 5 by omega)
  obtain ⟨h1, h2, h3⟩ := partsGo_spec (pickS x 1099511627776) len hl (pickS x 1099511627776 % 5).toNat 0 0 (by omega) (by omega)
  refine ⟨⟨fun k hk => ?_, by omega⟩, by omega⟩
  obtain ⟨a, b⟩ := h2 k hk
  refine ⟨a, ?_⟩
  rcases Nat.eq_zero_or_pos k with h | h
  · exact .inl h
  · rw [if_neg (by omega)] at b
    exact .inr b

theorem parts_any (x len : Int) (w : World) (h1 : -9223372036854775808 ≤ x) (h2 : x ≤ 9223372036854775807) (hl : 1 ≤ len) (hl2 : len ≤ 3600) :
    Calls Try.prog 75 #[.int .i64 x, .int .i64 len] w fun e w' => ∃ A cc, e = .returned (.slice A (partsS x len).length cc) ∧ w'.ownsRow 0 99 2 (.slice A (partsS x len).length cc) (partsS x len).length (spCells (partsS x len)) ∧ Upd [] w w' := by
  have PK := hide (refPick x 1099511627776 w h1 h2 (by omega) (by omega))
  have hcb := pickS_bounds x 1099511627776 (by omega)
  obtain ⟨c, hc⟩ : ∃ c : Nat, pickS x 1099511627776 = (c : Int) := ⟨(pickS x 1099511627776).toNat, by omega⟩
  obtain ⟨L, HL⟩ : ∃ L, Hid (partsS x len = L) := ⟨_, rfl⟩
  obtain ⟨m, hm⟩ : ∃ m, c % 5 = m := ⟨_, rfl⟩
  have HLG := hide (show partsGo c len m 0 0 = L by rw [← HL.out]; unfold partsS; rw [hc, ← hm]; rfl)
  rw [hc] at PK hcb
  rw [HL.out]
  obtain ⟨hc1, hc2⟩ := hcb
  have hm5 : m < 5 := by omega
  have hmi : (c : Int) % 5 = (m : Int) := by omega
  have HMI := hide hmi
  clear h1 h2 hc hm
  go_enter Try.func75, Try.ntmps75
  go_wp2_with (go_at_call 74; refine PK.out.mono ?_; rintro e w' ⟨rfl, rfl⟩)
  obtain ⟨wP, rfl⟩ : ∃ wP : World, wP = w := ⟨_, rfl⟩
  go_loopw [5, 6, 7] (fun s5 s6 s7 wr => ∃ (k : Nat) (at_ : Int) (A : Option Addr) (n cc : Nat) (l : List Sp), k ≤ m ∧ s7 = .int .i64 k ∧ s6 = .int .i64 at_ ∧ (0 ≤ at_ ∧ at_ < len) ∧ s5 = .slice A n cc ∧ n ≤ k ∧ Hid (l ++ partsGo c len (m - k) k at_ = L) ∧ Hid (n = l.length) ∧ Hid (wr.ownsRow wP.heap.size 99 2 (.slice A n cc) n (spCells l)) ∧ Hid (Upd [] wP wr)) (fun _ _ k _ => m - (intOf k).toNat)
  case atStart => exact ⟨0, 0, none, 0, 0, [], Nat.zero_le _, rfl, rfl, by omega, rfl, Nat.le_refl _, HLG, rfl, World.ownsRow_nil _ _ _ _, Upd.refl _ _⟩
  case round =>
    obtain ⟨k, at_, A, n, cc, l, hk, rfl, rfl, ⟨ha1, ha2⟩, rfl, hnk, hl9, hnl, hown, hu⟩ := hrel
    obtain ⟨wo, rfl⟩ : ∃ wo : World, wo = wr := ⟨_, rfl⟩
    by_cases hkm : k < m
    · have hki : (k : Int) < m := by omega
      have hk5 : (k : Int) < 5 := by omega
      have r1 : 0 ≤ (c : Int) / (5 + 7 * k) := Int.ediv_nonneg (by omega) (by omega)
      have r2 : (c : Int) / (5 + 7 * k) ≤ 1099511627776 := by
        have := Int.ediv_le_self (5 + 7 * (k : Int)) (a := (c : Int)) (by omega)
        omega
      have r3 : 0 ≤ (c : Int) / (11 + 3 * k) := Int.ediv_nonneg (by omega) (by omega)
      have r4 : (c : Int) / (11 + 3 * k) ≤ 1099511627776 := by
        have := Int.ediv_le_self (11 + 3 * (k : Int)) (a := (c : Int)) (by omega)
        omega
      obtain ⟨f, hf⟩ : ∃ f, f + 1 = m - k := ⟨m - k - 1, by omega⟩
      have HF := hide hf
      obtain ⟨d1, hd1⟩ : ∃ d, (c : Int) / (5 + 7 * k) = d := ⟨_, rfl⟩
      obtain ⟨d2, hd2⟩ : ∃ d, (c : Int) / (11 + 3 * k) = d := ⟨_, rfl⟩
      obtain ⟨q1, hq1⟩ : ∃ d, d1 % (1 + len / 4) = d := ⟨_, rfl⟩
      obtain ⟨q2, hq2⟩ : ∃ d, d2 % (1 + len / 6) = d := ⟨_, rfl⟩
      have hq1b : 0 ≤ q1 ∧ q1 < 1 + len / 4 := by rw [← hq1]; exact ⟨Int.emod_nonneg _ (by omega), Int.emod_lt_of_pos _ (by omega)⟩
      have hq2b : 0 ≤ q2 ∧ q2 < 1 + len / 6 := by rw [← hq2]; exact ⟨Int.emod_nonneg _ (by omega), Int.emod_lt_of_pos _ (by omega)⟩
      rw [hd1] at r1 r2
      rw [hd2] at r3 r4
      obtain ⟨hq11, hq12⟩ := hq1b
      obtain ⟨hq21, hq22⟩ := hq2b
      have hd1' : (c : Int).tdiv (5 + 7 * k) = d1 := by rw [Int.tdiv_eq_ediv_of_nonneg (by omega), hd1]
      have hd2' : (c : Int).tdiv (11 + 3 * k) = d2 := by rw [Int.tdiv_eq_ediv_of_nonneg (by omega), hd2]
      have e4 : len.tdiv 4 = len / 4 := Int.tdiv_eq_ediv_of_nonneg (by omega)
      have e6 : len.tdiv 6 = len / 6 := Int.tdiv_eq_ediv_of_nonneg (by omega)
      have hq1' : d1.tmod (1 + len / 4) = q1 := by rw [Int.tmod_eq_emod_of_nonneg (by omega), hq1]
      have hq2' : d2.tmod (1 + len / 6) = q2 := by rw [Int.tmod_eq_emod_of_nonneg (by omega), hq2]
      have z1 : ((5 : Int) + 7 * k == 0) = false := by simp; omega
      have z2 : ((11 : Int) + 3 * k == 0) = false := by simp; omega
      have z3 : ((1 : Int) + len / 4 == 0) = false := by simp; omega
      have z4 : ((1 : Int) + len / 6 == 0) = false := by simp; omega
      have HD1 := hide hd1
      have HD2 := hide hd2
      have HQ1 := hide hq1
      have HQ2 := hide hq2
      clear hf hd1 hd2 hq1 hq2
      have HSTEP := hide (show partsGo c len (m - k) k at_ = if len ≤ at_ + q1 + 1 + q2 then [] else ⟨at_ + q1, at_ + q1 + 1 + q2⟩ :: partsGo c len f (k + 1) (at_ + q1 + 1 + q2) by
        rw [← HF.out, partsGo, HD1.out, HD2.out, HQ1.out, HQ2.out])
      have O1 := hide (show ∀ u ∈ [Value.int .i64 (at_ + q1), Value.int .i64 (at_ + q1 + 1 + q2)], u.oneCell' = true by simp [Value.oneCell'])
      have O3 := hide (show n + 1 ≤ maxLen by unfold maxLen; omega)
      have O4 := hide (show (n + 1) * 16 ≤ 140737488355328 by omega)
      have OB := hide (hown.out.alloc (.cells #[.int .i64 (at_ + q1), .int .i64 (at_ + q1 + 1 + q2)] 99))
      have OS := hide (show wP.heap.size ≤ (wo.alloc (.cells #[.int .i64 (at_ + q1), .int .i64 (at_ + q1 + 1 + q2)] 99)).heap.size by have := hu.out.size; rw [World.size_alloc]; omega)
      by_cases hle : len ≤ at_ + q1 + 1 + q2
      · have HE := hide (show l = L by
          have h1 := hl9.out
          rw [HSTEP.out, if_pos hle, List.append_nil] at h1
          exact h1)
        go_wp2_with fail
        go_ret
        have e := HE.out
        subst e
        rw [← hnl.out]
        exact ⟨A, cc, rfl, it_own_less hown.out (Nat.zero_le _), hu.out⟩
      · have HE := hide (show (l ++ [(⟨at_ + q1, at_ + q1 + 1 + q2⟩ : Sp)]) ++ partsGo c len (m - (k + 1)) (k + 1) (at_ + q1 + 1 + q2) = L by
          have h1 := hl9.out
          rw [HSTEP.out, if_neg hle] at h1
          rw [← h1, show m - (k + 1) = f by have := HF.out; omega, List.append_assoc]
          rfl)
        go_wp2_with (at_builtin; refine wpList_append_base rfl (.tmp 44) (.tmp 48) _ rfl wP.heap.size 99 _ 2 16 Try.underlying59 it_info_spell rfl (by decide) A n cc _ rfl OB.out ⟨wo.heap.size, 0, none⟩ 1 1 [.int .i64 (at_ + q1), .int .i64 (at_ + q1 + 1 + q2)] rfl rfl (cell_two_new _ _ _ _) O1.out O3.out O4.out OS.out ?_; intro A5 c5 w5 h5 u5 _; have H5 := hide h5; have V5 := hide ((hu.out.alloc _).trans u5 (fun z hz => .inr (it_own_block hown.out z (by rw [ownBlock_slice]; simpa using hz)))); clear h5 u5)
        go_roundw
        case rel => exact ⟨k + 1, at_ + q1 + 1 + q2, A5, n + 1, c5, l ++ [⟨at_ + q1, at_ + q1 + 1 + q2⟩], by omega, by go_num, rfl, by omega, rfl, by omega, HE, hide (by rw [List.length_append, ← hnl.out]; rfl), hide (by rw [spCells_append]; exact H5.out), V5⟩
        case measure => simp [intOf] <;> omega
    · obtain rfl : k = m := by omega
      have hki : ¬ (k : Int) < k := by omega
      have HE := hide (show l = L by
        have h1 := hl9.out
        rw [Nat.sub_self] at h1
        simpa [partsGo] using h1)
      go_wp2_with fail
      go_ret
      have e := HE.out
      subst e
      rw [← hnl.out]
      exact ⟨A, cc, rfl, it_own_less hown.out (Nat.zero_le _), hu.out⟩
end Go.Proofs.Yteehjciepccomaa

namespace Go.Proofs.Yteehjciepccomaa
open Go.RowKit
set_option maxRecDepth 100000
set_option maxHeartbeats 20000000

def kindS (x0 : Int) : Int := if 5 < 1 + pickS x0 7 then 1 else 1 + pickS x0 7
def lenS (x1 : Int) : Int := 1 + pickS x1 400
def madeS (id x0 x1 x2 x3 x4 x5 : Int) : It :=
  ⟨pickS id 200, kindS x0, lenS x1, partsS x2 (lenS x1), partsS x3 (lenS x1), if kindS x0 = 1 then pickS x4 6 else 0, if kindS x0 = 1 then 1 + pickS (x4.tdiv 6) 5 else 0, if kindS x0 = 1 then 1 + pickS x5 4 else 0⟩
theorem madeS_ok (id x0 x1 x2 x3 x4 x5 : Int) : ItOk (madeS id x0 x1 x2 x3 x4 x5) := by
  have a := pickS_bounds id 200 (by omega)
  have b := pickS_bounds x0 7 (by omega)
  have c := pickS_bounds x1 400 (by omega)
  have d := pickS_bounds x4 6 (by omega)
  have e := pickS_bounds (x4.tdiv 6) 5 (by omega)
  have f := pickS_bounds x5 4 (by omega)
  have hk : 1 ≤ kindS x0 ∧ kindS x0 ≤ 5 := by unfold kindS; split <;> omega
  have hl : 1 ≤ lenS x1 ∧ lenS x1 ≤ 400 := by unfold lenS; omega
  have h2 := partsS_ok x2 (lenS x1) hl.1
  have h3 := partsS_ok x3 (lenS x1) hl.1
  refine ⟨⟨a, hk, by show 1 ≤ lenS x1 ∧ lenS x1 ≤ 3600; omega⟩, ⟨h2.1, h3.1⟩, h2.2, ?_⟩
  unfold KindOk madeS
  dsimp only
  by_cases h : kindS x0 = 1
  · rw [if_pos h, if_pos h, if_pos h]
    exact .inl ⟨h, by omega, by omega, by omega⟩
  · rw [if_neg h, if_neg h, if_neg h]
    exact .inr ⟨h, rfl, rfl, rfl⟩

/-- A recording in memory: its lists, below the heap's end. -/
structure ItAt (w : World) (i : It) (ta ka : Option Addr) : Prop where
  trims : SpsAt w.heap.size w ta i.trims
  talks : SpsAt w.heap.size w ka i.talks
theorem SpsAt.mono2 {n₀ n₁ : Nat} {w : World} {a : Option Addr} {l : List Sp} (h : SpsAt n₀ w a l) (hn : n₀ ≤ n₁) : SpsAt n₁ w a l := h.mono hn
theorem ItAt.upd {w w' : World} {i : It} {ta ka : Option Addr} (h : ItAt w i ta ka) (hu : Upd [] w w') : ItAt w' i ta ka :=
  ⟨(h.trims.upd hu (Nat.le_refl _) (by simp)).mono hu.size, (h.talks.upd hu (Nat.le_refl _) (by simp)).mono hu.size⟩
theorem own_sps {w : World} {base e n : Nat} {A : Option Addr} {c : Nat} {l : List Sp} (h : w.ownsRow base e 2 (.slice A n c) n (spCells l)) : SpsAt w.heap.size w A l := by
  intro k s hs
  have hk := (List.getElem?_eq_some_iff.1 hs).1
  obtain ⟨h1, h2⟩ := spCells_at hs
  rcases h.2 with ⟨hv, h0⟩ | ⟨g, cap, cur, hv, _, hg, _⟩
  · have h3 := h.1
    rw [spCells_length] at h3
    omega
  · obtain ⟨rfl, rfl⟩ : A = some ⟨g, 0, none⟩ ∧ c = cap := by simpa using hv
    have e : ∀ j, (⟨g, 0, none⟩ : Addr).add j = ⟨g, j, none⟩ := fun j => by unfold Addr.add; split <;> simp_all
    have c0 := World.ownsRow.cells h (g := g) rfl _ _ h1
    have c1 := World.ownsRow.cells h (g := g) rfl _ _ h2
    rw [e] at c0 c1
    exact ⟨g, 0, rfl, (Array.getElem?_eq_some_iff.1 hg).1, by rw [Nat.zero_add]; exact c0, by rw [Nat.zero_add]; exact c1⟩

theorem own_cap {w : World} {base e size n c : Nat} {A : Option Addr} {xs : List Value} (h : w.ownsRow base e size (.slice A n c) n xs) : n ≤ c := by
  rcases h.2 with ⟨hv, h0⟩ | ⟨g, cap, cur, hv, _, _, h1, _⟩
  · omega
  · obtain ⟨_, rfl⟩ : A = some ⟨g, 0, none⟩ ∧ c = cap := by simpa using hv
    exact h1
theorem own_cutk {w : World} {base e size n c : Nat} {A : Option Addr} {xs : List Value} (h : w.ownsRow base e size (.slice A n c) n xs) (k : Nat) (hk : k ≤ n) : w.ownsRow base e size (.slice A k c) k (xs.take (k * size)) := by
  have hl : k * size ≤ n * size := Nat.mul_le_mul_right _ hk
  refine ⟨by rw [List.length_take, h.1]; omega, ?_⟩
  rcases h.2 with ⟨hv, h0⟩ | ⟨g, cap, cur, hv, hb, hg, h1, h2, h3, h4⟩
  · have hk0 : k = 0 := by omega
    subst hk0
    refine .inl ⟨?_, rfl⟩
    obtain ⟨rfl, _, rfl⟩ : A = none ∧ n = 0 ∧ c = 0 := by simpa using hv
    rfl
  · obtain ⟨rfl, rfl⟩ : A = some ⟨g, 0, none⟩ ∧ c = cap := by simpa using hv
    exact .inr ⟨g, c, cur, rfl, hb, hg, Nat.le_trans hk h1, h2, h3, by rw [← h4, List.take_take, Nat.min_eq_left hl]⟩
theorem rows_ne {w : World} {b1 b2 e1 e2 s1 s2 n1 n2 : Nat} {v1 v2 : Value} {xs1 xs2 : List Value} (h : w.ownsRow b1 e1 s1 v1 n1 xs1) (h' : w.ownsRow b2 e2 s2 v2 n2 xs2) (hne : e1 ≠ e2) : ∀ k, v1.ownBlock = some k → v2.ownBlock = some k → False := by
  intro k h1 h2
  rcases h.2 with ⟨rfl, _⟩ | ⟨g, cap, cur, rfl, _, hg, _⟩
  · simp [Value.ownBlock] at h1
  · rcases h'.2 with ⟨rfl, _⟩ | ⟨g', cap', cur', rfl, _, hg', _⟩
    · simp [Value.ownBlock] at h2
    · obtain rfl : g = k := by simpa [Value.ownBlock] using h1
      obtain rfl : g' = g := by simpa [Value.ownBlock] using h2
      rw [hg] at hg'
      injection hg' with hg'
      injection hg' with _ ht
      exact hne ht
/-- A row of one type stays where a row of another type is written. -/
theorem own_stay {w w' : World} {b1 b2 e1 e2 s1 s2 n1 n2 c2 : Nat} {v1 : Value} {A2 : Option Addr} {xs1 xs2 : List Value} (h : w.ownsRow b1 e1 s1 v1 n1 xs1) (h' : w.ownsRow b2 e2 s2 (.slice A2 n2 c2) n2 xs2) (hne : e1 ≠ e2) (hu : Upd (A2.map (·.block)).toList w w') : w'.ownsRow b1 e1 s1 v1 n1 xs1 :=
  own_kept h hu (fun k hk hm => rows_ne h h' hne k hk (by rw [ownBlock_slice]; simpa using hm))
/-- A recording whose lists are rows of their own. -/
def ItOwn (w : World) (i : It) (ta : Option Addr) (tc : Nat) (ka : Option Addr) (kc : Nat) : Prop :=
  w.ownsRow 0 99 2 (.slice ta i.trims.length tc) i.trims.length (spCells i.trims) ∧ w.ownsRow 0 99 2 (.slice ka i.talks.length kc) i.talks.length (spCells i.talks)
theorem ItOwn.upd {w w' : World} {i : It} {ta ka : Option Addr} {tc kc : Nat} (h : ItOwn w i ta tc ka kc) (hu : Upd [] w w') : ItOwn w' i ta tc ka kc := ⟨own_kept h.1 hu (by simp), own_kept h.2 hu (by simp)⟩
theorem ItOwn.at_ {w : World} {i : It} {ta ka : Option Addr} {tc kc : Nat} (h : ItOwn w i ta tc ka kc) : ItAt w i ta ka := ⟨own_sps h.1, own_sps h.2⟩
theorem ItOwn.stay {w w' : World} {i : It} {ta ka : Option Addr} {tc kc : Nat} {b2 e2 s2 n2 c2 : Nat} {A2 : Option Addr} {xs2 : List Value} (h : ItOwn w i ta tc ka kc) (h' : w.ownsRow b2 e2 s2 (.slice A2 n2 c2) n2 xs2) (hne : 99 ≠ e2) (hu : Upd (A2.map (·.block)).toList w w') : ItOwn w' i ta tc ka kc :=
  ⟨own_stay h.1 h' hne hu, own_stay h.2 h' hne hu⟩
def Fits64 (c : Int) : Prop := -9223372036854775808 ≤ c ∧ c ≤ 9223372036854775807
theorem itemMade_any (id x0 x1 x2 x3 x4 x5 : Int) (w : World) (hid : Fits64 id) (h0 : Fits64 x0) (h1 : Fits64 x1) (h2 : Fits64 x2) (h3 : Fits64 x3) (h4 : Fits64 x4) (h5 : Fits64 x5) (i : It) (hi : madeS id x0 x1 x2 x3 x4 x5 = i) :
    Calls Try.prog 59 #[.int .i64 id, .agg #[.int .i64 x0, .int .i64 x1, .int .i64 x2, .int .i64 x3, .int .i64 x4, .int .i64 x5]] w fun e w' => ∃ ta tc ka kc, e = .returned (.agg #[.int .i64 i.id, .int .i64 i.kind, .int .i64 i.len, .slice ta i.trims.length tc, .slice ka i.talks.length kc, .int .i64 i.artist, .int .i64 i.tempo, .int .i64 i.lang]) ∧ ItOwn w' i ta tc ka kc ∧ Upd [] w w' := by
  obtain ⟨p, hp⟩ : ∃ p, pickS id 200 = p := ⟨_, rfl⟩
  obtain ⟨k0, hk0⟩ : ∃ p, pickS x0 7 = p := ⟨_, rfl⟩
  obtain ⟨l0, hl0⟩ : ∃ p, pickS x1 400 = p := ⟨_, rfl⟩
  have PA := fun W => refPick id 200 W hid.1 hid.2 (by omega) (by omega)
  have PB := fun W => refPick x0 7 W h0.1 h0.2 (by omega) (by omega)
  have PC := fun W => refPick x1 400 W h1.1 h1.2 (by omega) (by omega)
  have bp := pickS_bounds id 200 (by omega)
  have bk := pickS_bounds x0 7 (by omega)
  have bl := pickS_bounds x1 400 (by omega)
  rw [hp] at PA bp
  rw [hk0] at PB bk
  rw [hl0] at PC bl
  obtain ⟨bk1, bk2⟩ := bk
  obtain ⟨bl1, bl2⟩ := bl
  have HI := hide hi
  have HP := hide hp
  have HK0 := hide hk0
  have HL0 := hide hl0
  have QA := hide PA
  have QB := hide PB
  have QC := hide PC
  have F2 := hide h2
  have F3 := hide h3
  have F4 := hide h4
  have F5 := hide h5
  obtain ⟨wa, hwa⟩ : ∃ wa, w.alloc (.cells #[.int .i64 x0, .int .i64 x1, .int .i64 x2, .int .i64 x3, .int .i64 x4, .int .i64 x5] 89) = wa := ⟨_, rfl⟩
  have L1 : Blk wa w.heap.size 89 [.int .i64 x0, .int .i64 x1, .int .i64 x2, .int .i64 x3, .int .i64 x4, .int .i64 x5] := by rw [← hwa]; exact Blk.new w _ _
  have u1 : Upd [] w wa := by rw [← hwa]; exact (Upd.refl [] w).alloc _
  have hszA : wa.heap.size = w.heap.size + 1 := by rw [← hwa]; simp
  have BX := hide L1
  have U1 := hide u1
  have HWA := hide hwa
  have HZA := hide hszA
  clear PA PB PC hp hk0 hl0 h2 h3 h4 h5 hi L1 u1 hwa bp hid h0 h1 hszA
  go_enter Try.func59, Try.ntmps59
  go_wp2_with fail
  rw [HWA.out]
  obtain ⟨wb, hwb⟩ : ∃ wb, wa.alloc (.cells #[.int .i64 0, .int .i64 0, .int .i64 0, .slice none 0 0, .slice none 0 0, .int .i64 0, .int .i64 0, .int .i64 0] 61) = wb := ⟨_, rfl⟩
  have u2 : Upd [] w wb := by rw [← hwb]; exact U1.out.alloc _
  have L2 : Blk wb (w.heap.size + 1) 61 [.int .i64 0, .int .i64 0, .int .i64 0, .slice none 0 0, .slice none 0 0, .int .i64 0, .int .i64 0, .int .i64 0] := by
    have := Blk.new wa 61 [.int .i64 0, .int .i64 0, .int .i64 0, .slice none 0 0, .slice none 0 0, .int .i64 0, .int .i64 0, .int .i64 0]
    rw [← hwb]
    rw [HZA.out] at this
    exact this
  have L3 : Blk wb w.heap.size 89 [.int .i64 x0, .int .i64 x1, .int .i64 x2, .int .i64 x3, .int .i64 x4, .int .i64 x5] := by
    rw [← hwb]
    exact BX.out.alloc _
  rw [hwb]
  have U2 := hide u2
  have BR := hide L2
  have BX2 := hide L3
  clear hwb u2 L2 L3
  have SX := hide (show ∀ W, Upd [] wb W → W.cell? ⟨w.heap.size, 0, none⟩ = some (.int .i64 x0) ∧ W.cell? ⟨w.heap.size, 1, none⟩ = some (.int .i64 x1) from fun W hW => ⟨keepc _ _ _ _ hW (BX2.out.cell 0), keepc _ _ _ _ hW (BX2.out.cell 1)⟩)
  have U0 := hide ((Upd.refl [] wb).drew)
  have hw1 : IntKind.i64.wrap (1 + k0) = 1 + k0 := Go.IntWalk.i64_in _ (by omega)
  have hw2 : IntKind.i64.wrap (1 + l0) = 1 + l0 := Go.IntWalk.i64_in _ (by omega)
  go_upto_region 2 with fail
  go_cut [5] from 6 to 16 (fun s5 wx => ∃ g, s5 = .pointer (some ⟨g, 0, none⟩) ∧ Hid (wb.heap.size ≤ g) ∧ Hid (Blk wx g 61 [.int .i64 p, .int .i64 (1 + k0), .int .i64 (1 + l0), .slice none 0 0, .slice none 0 0, .int .i64 0, .int .i64 0, .int .i64 0]) ∧ Hid (Upd [] wb wx))
  case first =>
    refine wp_region_held_drew (S := (fun w' => w'.cell? ⟨w.heap.size, 0, none⟩ = some (.int .i64 x0) ∧ w'.cell? ⟨w.heap.size, 1, none⟩ = some (.int .i64 x1))) (by kernel_rfl) (SX.out _ U0.out) (fun hHeld => ?_)
    obtain ⟨wD, hwD⟩ : ∃ wD, wb.drew = wD := ⟨_, rfl⟩
    rw [hwD] at U0 hHeld ⊢
    clear hwD
    refine wpAnyH_take (i := 0) (oi := ?oi0R1) (v := ?v0R1) ?oi0_0R1 (by kernel_rfl) ?ff0R1 ?rr0R1 ?hq0R1 (Or.inl ⟨?hw0R1, ?hy0R1⟩) (by assumption) ?rest0R1
    case oi0_0R1 =>
      conv =>
        lhs
        whnf
        arg 1
        whnf
    case hq0R1 => exact fun _ _ _ h => h
    case ff0R1 => kernel_rfl
    case rr0R1 => kernel_rfl
    case hw0R1 => rfl
    case hy0R1 =>
      intro w hSw
      (try dsimp only at hSw)
      first
      | (go_simp; done)
      | (go_simp; with_reducible rfl)
    try simp only [Act.put, List.setIfInBounds_toArray, List.set_cons_zero, List.set_cons_succ]
    refine wpAnyH_take (i := 2) (oi := ?oi2R1) (v := ?v2R1) ?oi0_2R1 (by kernel_rfl) ?ff2R1 ?rr2R1 ?hq2R1 (Or.inl ⟨?hw2R1, ?hy2R1⟩) (by assumption) ?rest2R1
    case oi0_2R1 =>
      conv =>
        lhs
        whnf
        arg 1
        whnf
    case hq2R1 => exact fun _ _ _ h => h
    case ff2R1 => kernel_rfl
    case rr2R1 => kernel_rfl
    case hw2R1 => rfl
    case hy2R1 =>
      intro w hSw
      (try dsimp only at hSw)
      first
      | (go_simp; done)
      | (go_simp; with_reducible rfl)
    try simp only [Act.put, List.setIfInBounds_toArray, List.set_cons_zero, List.set_cons_succ]
    refine wpAnyH_take (i := 3) (oi := ?oi3R1) (v := ?v3R1) ?oi0_3R1 (by kernel_rfl) ?ff3R1 ?rr3R1 ?hq3R1 (Or.inl ⟨?hw3R1, ?hy3R1⟩) (by assumption) ?rest3R1
    case oi0_3R1 =>
      conv =>
        lhs
        whnf
        arg 1
        whnf
    case hq3R1 => exact fun _ _ _ h => h
    case ff3R1 => kernel_rfl
    case rr3R1 => kernel_rfl
    case hw3R1 => rfl
    case hy3R1 =>
      intro w hSw
      (try dsimp only at hSw)
      first
      | (go_simp; done)
      | (go_simp; with_reducible rfl)
    try simp only [Act.put, List.setIfInBounds_toArray, List.set_cons_zero, List.set_cons_succ]
    refine wpAnyH_take (i := 6) (oi := ?oi6R1) (v := ?v6R1) ?oi0_6R1 (by kernel_rfl) ?ff6R1 ?rr6R1 ?hq6R1 (Or.inl ⟨?hw6R1, ?hy6R1⟩) (by assumption) ?rest6R1
    case oi0_6R1 =>
      conv =>
        lhs
        whnf
        arg 1
        whnf
    case hq6R1 => exact fun _ _ _ h => h
    case ff6R1 => kernel_rfl
    case rr6R1 => kernel_rfl
    case hw6R1 => rfl
    case hy6R1 =>
      intro w hSw
      (try dsimp only at hSw)
      first
      | (go_simp; done)
      | (go_simp; with_reducible rfl)
    try simp only [Act.put, List.setIfInBounds_toArray, List.set_cons_zero, List.set_cons_succ]
    refine wpAnyH_take (i := 7) (oi := ?oi7R1) (v := ?v7R1) ?oi0_7R1 (by kernel_rfl) ?ff7R1 ?rr7R1 ?hq7R1 (Or.inl ⟨?hw7R1, ?hy7R1⟩) (by assumption) ?rest7R1
    case oi0_7R1 =>
      conv =>
        lhs
        whnf
        arg 1
        whnf
    case hq7R1 => exact fun _ _ _ h => h
    case ff7R1 => kernel_rfl
    case rr7R1 => kernel_rfl
    case hw7R1 => rfl
    case hy7R1 =>
      intro w hSw
      (try dsimp only at hSw)
      first
      | (go_simp; done)
      | (go_simp; with_reducible rfl)
    try simp only [Act.put, List.setIfInBounds_toArray, List.set_cons_zero, List.set_cons_succ]
    refine wpAnyH_ready (rs := [1, 11]) (by kernel_rfl) (by simp) (AllReadyH.cons (o := ?oi1R24) ?oi0_1R24 (fun K hK => ?k1R24) (AllReadyH.cons (o := ?oi11R24) ?oi0_11R24 (fun K hK => ?k11R24) (AllReadyH.nil)))
    case oi0_1R24 =>
      conv =>
        lhs
        whnf
        arg 1
        whnf
    case oi0_11R24 =>
      conv =>
        lhs
        whnf
        arg 1
        whnf
    case k1R24 =>
      go_simp
      go_at_call 74
      with_reducible (refine (QA.out _).mono ?_)
      rintro e w9 ⟨rfl, rfl⟩
      (try dsimp only)
      refine hK.out _ _ (SX.out _ U0.out) (fun hHeld => ?_)
      clear hK K
      try simp only [Act.put, List.setIfInBounds_toArray, List.set_cons_zero, List.set_cons_succ]
      refine wpAnyH_ready (rs := [4, 11]) (by kernel_rfl) (by simp) (AllReadyH.cons (o := ?oi4R16) ?oi0_4R16 (fun K hK => ?k4R16) (AllReadyH.cons (o := ?oi11R16) ?oi0_11R16 (fun K hK => ?k11R16) (AllReadyH.nil)))
      case oi0_4R16 =>
        conv =>
          lhs
          whnf
          arg 1
          whnf
      case oi0_11R16 =>
        conv =>
          lhs
          whnf
          arg 1
          whnf
      case k4R16 =>
        go_simp
        go_at_call 74
        with_reducible (refine (QB.out _).mono ?_)
        rintro e w9 ⟨rfl, rfl⟩
        (try dsimp only)
        refine hK.out _ _ (SX.out _ U0.out) (fun hHeld => ?_)
        clear hK K
        try simp only [Act.put, List.setIfInBounds_toArray, List.set_cons_zero, List.set_cons_succ]
        refine wpAnyH_take (i := 5) (oi := ?oi5R3) (v := ?v5R3) ?oi0_5R3 (by kernel_rfl) ?ff5R3 ?rr5R3 ?hq5R3 (Or.inl ⟨?hw5R3, ?hy5R3⟩) (by assumption) ?rest5R3
        case oi0_5R3 =>
          conv =>
            lhs
            whnf
            arg 1
            whnf
        case hq5R3 => exact fun _ _ _ h => h
        case ff5R3 => kernel_rfl
        case rr5R3 => kernel_rfl
        case hw5R3 => rfl
        case hy5R3 =>
          intro w hSw
          (try dsimp only at hSw)
          first
          | (go_simp; done)
          | (go_simp; with_reducible rfl)
        try simp only [Act.put, List.setIfInBounds_toArray, List.set_cons_zero, List.set_cons_succ]
        refine wpAnyH_ready (rs := [8, 11]) (by kernel_rfl) (by simp) (AllReadyH.cons (o := ?oi8R10) ?oi0_8R10 (fun K hK => ?k8R10) (AllReadyH.cons (o := ?oi11R10) ?oi0_11R10 (fun K hK => ?k11R10) (AllReadyH.nil)))
        case oi0_8R10 =>
          conv =>
            lhs
            whnf
            arg 1
            whnf
        case oi0_11R10 =>
          conv =>
            lhs
            whnf
            arg 1
            whnf
        case k8R10 =>
          go_simp
          go_at_call 74
          with_reducible (refine (QC.out _).mono ?_)
          rintro e w9 ⟨rfl, rfl⟩
          (try dsimp only)
          refine hK.out _ _ (SX.out _ U0.out) (fun hHeld => ?_)
          clear hK K
          try simp only [Act.put, List.setIfInBounds_toArray, List.set_cons_zero, List.set_cons_succ]
          refine wpAnyH_take (i := 9) (oi := ?oi9R4) (v := ?v9R4) ?oi0_9R4 (by kernel_rfl) ?ff9R4 ?rr9R4 ?hq9R4 (Or.inl ⟨?hw9R4, ?hy9R4⟩) (by assumption) ?rest9R4
          case oi0_9R4 =>
            conv =>
              lhs
              whnf
              arg 1
              whnf
          case hq9R4 => exact fun _ _ _ h => h
          case ff9R4 => kernel_rfl
          case rr9R4 => kernel_rfl
          case hw9R4 => rfl
          case hy9R4 =>
            intro w hSw
            (try dsimp only at hSw)
            first
            | (go_simp; done)
            | (go_simp; with_reducible rfl)
          try simp only [Act.put, List.setIfInBounds_toArray, List.set_cons_zero, List.set_cons_succ]
          refine wpAnyH_take (i := 10) (oi := ?oi10R4) (v := ?v10R4) ?oi0_10R4 (by kernel_rfl) ?ff10R4 ?rr10R4 ?hq10R4 (Or.inl ⟨?hw10R4, ?hy10R4⟩) (by assumption) ?rest10R4
          case oi0_10R4 =>
            conv =>
              lhs
              whnf
              arg 1
              whnf
          case hq10R4 => exact fun _ _ _ h => h
          case ff10R4 => kernel_rfl
          case rr10R4 => kernel_rfl
          case hw10R4 => rfl
          case hy10R4 =>
            intro w hSw
            (try dsimp only at hSw)
            first
            | (go_simp; done)
            | (go_simp; with_reducible rfl)
          try simp only [Act.put, List.setIfInBounds_toArray, List.set_cons_zero, List.set_cons_succ]
          refine wpAnyH_ready (rs := [11]) (by kernel_rfl) (by simp) (AllReadyH.cons (o := ?oi11R6) ?oi0_11R6 (fun K hK => ?k11R6) (AllReadyH.nil))
          case oi0_11R6 =>
            conv =>
              lhs
              whnf
              arg 1
              whnf
          case k11R6 =>
            go_simp
            (try dsimp only)
            refine hK.out _ _ (SX.out _ (U0.out.alloc _)) (fun hHeld => ?_)
            clear hK K
            try simp only [Act.put, List.setIfInBounds_toArray, List.set_cons_zero, List.set_cons_succ]
            refine wpAnyH_ready (rs := [12]) (by kernel_rfl) (by simp) (AllReadyH.cons (o := ?oi12R5) ?oi0_12R5 (fun K hK => ?_) AllReadyH.nil)
            case oi0_12R5 =>
              conv =>
                lhs
                whnf
                arg 1
                whnf
            go_simp
            (try dsimp only)
            refine hK.out _ _ (SX.out _ (U0.out.alloc _)) (fun hHeld => ?_)
            clear hK K
            try simp only [Act.put, List.setIfInBounds_toArray, List.set_cons_zero, List.set_cons_succ]
            refine wpAnyH_done (by kernel_rfl) ?_ _
            go_wp2_with fail
            go_meet
            exact ⟨wD.heap.size, rfl, U0.out.size, Blk.new wD 61 [.int .i64 p, .int .i64 (1 + k0), .int .i64 (1 + l0), .slice none 0 0, .slice none 0 0, .int .i64 0, .int .i64 0, .int .i64 0], U0.out.alloc _⟩
        case k11R10 =>
          go_simp
          (try dsimp only)
          refine hK.out _ _ (SX.out _ (U0.out.alloc _)) (fun hHeld => ?_)
          clear hK K
          try simp only [Act.put, List.setIfInBounds_toArray, List.set_cons_zero, List.set_cons_succ]
          refine wpAnyH_ready (rs := [8]) (by kernel_rfl) (by simp) (AllReadyH.cons (o := ?oi8R9) ?oi0_8R9 (fun K hK => ?k8R9) (AllReadyH.nil))
          case oi0_8R9 =>
            conv =>
              lhs
              whnf
              arg 1
              whnf
          case k8R9 =>
            go_simp
            go_at_call 74
            with_reducible (refine (QC.out _).mono ?_)
            rintro e w9 ⟨rfl, rfl⟩
            (try dsimp only)
            refine hK.out _ _ (SX.out _ (U0.out.alloc _)) (fun hHeld => ?_)
            clear hK K
            try simp only [Act.put, List.setIfInBounds_toArray, List.set_cons_zero, List.set_cons_succ]
            refine wpAnyH_take (i := 9) (oi := ?oi9R7) (v := ?v9R7) ?oi0_9R7 (by kernel_rfl) ?ff9R7 ?rr9R7 ?hq9R7 (Or.inl ⟨?hw9R7, ?hy9R7⟩) (by assumption) ?rest9R7
            case oi0_9R7 =>
              conv =>
                lhs
                whnf
                arg 1
                whnf
            case hq9R7 => exact fun _ _ _ h => h
            case ff9R7 => kernel_rfl
            case rr9R7 => kernel_rfl
            case hw9R7 => rfl
            case hy9R7 =>
              intro w hSw
              (try dsimp only at hSw)
              first
              | (go_simp; done)
              | (go_simp; with_reducible rfl)
            try simp only [Act.put, List.setIfInBounds_toArray, List.set_cons_zero, List.set_cons_succ]
            refine wpAnyH_take (i := 10) (oi := ?oi10R7) (v := ?v10R7) ?oi0_10R7 (by kernel_rfl) ?ff10R7 ?rr10R7 ?hq10R7 (Or.inl ⟨?hw10R7, ?hy10R7⟩) (by assumption) ?rest10R7
            case oi0_10R7 =>
              conv =>
                lhs
                whnf
                arg 1
                whnf
            case hq10R7 => exact fun _ _ _ h => h
            case ff10R7 => kernel_rfl
            case rr10R7 => kernel_rfl
            case hw10R7 => rfl
            case hy10R7 =>
              intro w hSw
              (try dsimp only at hSw)
              first
              | (go_simp; done)
              | (go_simp; with_reducible rfl)
            try simp only [Act.put, List.setIfInBounds_toArray, List.set_cons_zero, List.set_cons_succ]
            refine wpAnyH_ready (rs := [12]) (by kernel_rfl) (by simp) (AllReadyH.cons (o := ?oi12R8) ?oi0_12R8 (fun K hK => ?_) AllReadyH.nil)
            case oi0_12R8 =>
              conv =>
                lhs
                whnf
                arg 1
                whnf
            go_simp
            (try dsimp only)
            refine hK.out _ _ (SX.out _ (U0.out.alloc _)) (fun hHeld => ?_)
            clear hK K
            try simp only [Act.put, List.setIfInBounds_toArray, List.set_cons_zero, List.set_cons_succ]
            refine wpAnyH_done (by kernel_rfl) ?_ _
            go_wp2_with fail
            go_meet
            exact ⟨wD.heap.size, rfl, U0.out.size, Blk.new wD 61 [.int .i64 p, .int .i64 (1 + k0), .int .i64 (1 + l0), .slice none 0 0, .slice none 0 0, .int .i64 0, .int .i64 0, .int .i64 0], U0.out.alloc _⟩
      case k11R16 =>
        go_simp
        (try dsimp only)
        refine hK.out _ _ (SX.out _ (U0.out.alloc _)) (fun hHeld => ?_)
        clear hK K
        try simp only [Act.put, List.setIfInBounds_toArray, List.set_cons_zero, List.set_cons_succ]
        refine wpAnyH_ready (rs := [4]) (by kernel_rfl) (by simp) (AllReadyH.cons (o := ?oi4R15) ?oi0_4R15 (fun K hK => ?k4R15) (AllReadyH.nil))
        case oi0_4R15 =>
          conv =>
            lhs
            whnf
            arg 1
            whnf
        case k4R15 =>
          go_simp
          go_at_call 74
          with_reducible (refine (QB.out _).mono ?_)
          rintro e w9 ⟨rfl, rfl⟩
          (try dsimp only)
          refine hK.out _ _ (SX.out _ (U0.out.alloc _)) (fun hHeld => ?_)
          clear hK K
          try simp only [Act.put, List.setIfInBounds_toArray, List.set_cons_zero, List.set_cons_succ]
          refine wpAnyH_take (i := 5) (oi := ?oi5R11) (v := ?v5R11) ?oi0_5R11 (by kernel_rfl) ?ff5R11 ?rr5R11 ?hq5R11 (Or.inl ⟨?hw5R11, ?hy5R11⟩) (by assumption) ?rest5R11
          case oi0_5R11 =>
            conv =>
              lhs
              whnf
              arg 1
              whnf
          case hq5R11 => exact fun _ _ _ h => h
          case ff5R11 => kernel_rfl
          case rr5R11 => kernel_rfl
          case hw5R11 => rfl
          case hy5R11 =>
            intro w hSw
            (try dsimp only at hSw)
            first
            | (go_simp; done)
            | (go_simp; with_reducible rfl)
          try simp only [Act.put, List.setIfInBounds_toArray, List.set_cons_zero, List.set_cons_succ]
          refine wpAnyH_ready (rs := [8]) (by kernel_rfl) (by simp) (AllReadyH.cons (o := ?oi8R14) ?oi0_8R14 (fun K hK => ?k8R14) (AllReadyH.nil))
          case oi0_8R14 =>
            conv =>
              lhs
              whnf
              arg 1
              whnf
          case k8R14 =>
            go_simp
            go_at_call 74
            with_reducible (refine (QC.out _).mono ?_)
            rintro e w9 ⟨rfl, rfl⟩
            (try dsimp only)
            refine hK.out _ _ (SX.out _ (U0.out.alloc _)) (fun hHeld => ?_)
            clear hK K
            try simp only [Act.put, List.setIfInBounds_toArray, List.set_cons_zero, List.set_cons_succ]
            refine wpAnyH_take (i := 9) (oi := ?oi9R12) (v := ?v9R12) ?oi0_9R12 (by kernel_rfl) ?ff9R12 ?rr9R12 ?hq9R12 (Or.inl ⟨?hw9R12, ?hy9R12⟩) (by assumption) ?rest9R12
            case oi0_9R12 =>
              conv =>
                lhs
                whnf
                arg 1
                whnf
            case hq9R12 => exact fun _ _ _ h => h
            case ff9R12 => kernel_rfl
            case rr9R12 => kernel_rfl
            case hw9R12 => rfl
            case hy9R12 =>
              intro w hSw
              (try dsimp only at hSw)
              first
              | (go_simp; done)
              | (go_simp; with_reducible rfl)
            try simp only [Act.put, List.setIfInBounds_toArray, List.set_cons_zero, List.set_cons_succ]
            refine wpAnyH_take (i := 10) (oi := ?oi10R12) (v := ?v10R12) ?oi0_10R12 (by kernel_rfl) ?ff10R12 ?rr10R12 ?hq10R12 (Or.inl ⟨?hw10R12, ?hy10R12⟩) (by assumption) ?rest10R12
            case oi0_10R12 =>
              conv =>
                lhs
                whnf
                arg 1
                whnf
            case hq10R12 => exact fun _ _ _ h => h
            case ff10R12 => kernel_rfl
            case rr10R12 => kernel_rfl
            case hw10R12 => rfl
            case hy10R12 =>
              intro w hSw
              (try dsimp only at hSw)
              first
              | (go_simp; done)
              | (go_simp; with_reducible rfl)
            try simp only [Act.put, List.setIfInBounds_toArray, List.set_cons_zero, List.set_cons_succ]
            refine wpAnyH_ready (rs := [12]) (by kernel_rfl) (by simp) (AllReadyH.cons (o := ?oi12R13) ?oi0_12R13 (fun K hK => ?_) AllReadyH.nil)
            case oi0_12R13 =>
              conv =>
                lhs
                whnf
                arg 1
                whnf
            go_simp
            (try dsimp only)
            refine hK.out _ _ (SX.out _ (U0.out.alloc _)) (fun hHeld => ?_)
            clear hK K
            try simp only [Act.put, List.setIfInBounds_toArray, List.set_cons_zero, List.set_cons_succ]
            refine wpAnyH_done (by kernel_rfl) ?_ _
            go_wp2_with fail
            go_meet
            exact ⟨wD.heap.size, rfl, U0.out.size, Blk.new wD 61 [.int .i64 p, .int .i64 (1 + k0), .int .i64 (1 + l0), .slice none 0 0, .slice none 0 0, .int .i64 0, .int .i64 0, .int .i64 0], U0.out.alloc _⟩
    case k11R24 =>
      go_simp
      (try dsimp only)
      refine hK.out _ _ (SX.out _ (U0.out.alloc _)) (fun hHeld => ?_)
      clear hK K
      try simp only [Act.put, List.setIfInBounds_toArray, List.set_cons_zero, List.set_cons_succ]
      refine wpAnyH_ready (rs := [1]) (by kernel_rfl) (by simp) (AllReadyH.cons (o := ?oi1R23) ?oi0_1R23 (fun K hK => ?k1R23) (AllReadyH.nil))
      case oi0_1R23 =>
        conv =>
          lhs
          whnf
          arg 1
          whnf
      case k1R23 =>
        go_simp
        go_at_call 74
        with_reducible (refine (QA.out _).mono ?_)
        rintro e w9 ⟨rfl, rfl⟩
        (try dsimp only)
        refine hK.out _ _ (SX.out _ (U0.out.alloc _)) (fun hHeld => ?_)
        clear hK K
        try simp only [Act.put, List.setIfInBounds_toArray, List.set_cons_zero, List.set_cons_succ]
        refine wpAnyH_ready (rs := [4]) (by kernel_rfl) (by simp) (AllReadyH.cons (o := ?oi4R22) ?oi0_4R22 (fun K hK => ?k4R22) (AllReadyH.nil))
        case oi0_4R22 =>
          conv =>
            lhs
            whnf
            arg 1
            whnf
        case k4R22 =>
          go_simp
          go_at_call 74
          with_reducible (refine (QB.out _).mono ?_)
          rintro e w9 ⟨rfl, rfl⟩
          (try dsimp only)
          refine hK.out _ _ (SX.out _ (U0.out.alloc _)) (fun hHeld => ?_)
          clear hK K
          try simp only [Act.put, List.setIfInBounds_toArray, List.set_cons_zero, List.set_cons_succ]
          refine wpAnyH_take (i := 5) (oi := ?oi5R18) (v := ?v5R18) ?oi0_5R18 (by kernel_rfl) ?ff5R18 ?rr5R18 ?hq5R18 (Or.inl ⟨?hw5R18, ?hy5R18⟩) (by assumption) ?rest5R18
          case oi0_5R18 =>
            conv =>
              lhs
              whnf
              arg 1
              whnf
          case hq5R18 => exact fun _ _ _ h => h
          case ff5R18 => kernel_rfl
          case rr5R18 => kernel_rfl
          case hw5R18 => rfl
          case hy5R18 =>
            intro w hSw
            (try dsimp only at hSw)
            first
            | (go_simp; done)
            | (go_simp; with_reducible rfl)
          try simp only [Act.put, List.setIfInBounds_toArray, List.set_cons_zero, List.set_cons_succ]
          refine wpAnyH_ready (rs := [8]) (by kernel_rfl) (by simp) (AllReadyH.cons (o := ?oi8R21) ?oi0_8R21 (fun K hK => ?k8R21) (AllReadyH.nil))
          case oi0_8R21 =>
            conv =>
              lhs
              whnf
              arg 1
              whnf
          case k8R21 =>
            go_simp
            go_at_call 74
            with_reducible (refine (QC.out _).mono ?_)
            rintro e w9 ⟨rfl, rfl⟩
            (try dsimp only)
            refine hK.out _ _ (SX.out _ (U0.out.alloc _)) (fun hHeld => ?_)
            clear hK K
            try simp only [Act.put, List.setIfInBounds_toArray, List.set_cons_zero, List.set_cons_succ]
            refine wpAnyH_take (i := 9) (oi := ?oi9R19) (v := ?v9R19) ?oi0_9R19 (by kernel_rfl) ?ff9R19 ?rr9R19 ?hq9R19 (Or.inl ⟨?hw9R19, ?hy9R19⟩) (by assumption) ?rest9R19
            case oi0_9R19 =>
              conv =>
                lhs
                whnf
                arg 1
                whnf
            case hq9R19 => exact fun _ _ _ h => h
            case ff9R19 => kernel_rfl
            case rr9R19 => kernel_rfl
            case hw9R19 => rfl
            case hy9R19 =>
              intro w hSw
              (try dsimp only at hSw)
              first
              | (go_simp; done)
              | (go_simp; with_reducible rfl)
            try simp only [Act.put, List.setIfInBounds_toArray, List.set_cons_zero, List.set_cons_succ]
            refine wpAnyH_take (i := 10) (oi := ?oi10R19) (v := ?v10R19) ?oi0_10R19 (by kernel_rfl) ?ff10R19 ?rr10R19 ?hq10R19 (Or.inl ⟨?hw10R19, ?hy10R19⟩) (by assumption) ?rest10R19
            case oi0_10R19 =>
              conv =>
                lhs
                whnf
                arg 1
                whnf
            case hq10R19 => exact fun _ _ _ h => h
            case ff10R19 => kernel_rfl
            case rr10R19 => kernel_rfl
            case hw10R19 => rfl
            case hy10R19 =>
              intro w hSw
              (try dsimp only at hSw)
              first
              | (go_simp; done)
              | (go_simp; with_reducible rfl)
            try simp only [Act.put, List.setIfInBounds_toArray, List.set_cons_zero, List.set_cons_succ]
            refine wpAnyH_ready (rs := [12]) (by kernel_rfl) (by simp) (AllReadyH.cons (o := ?oi12R20) ?oi0_12R20 (fun K hK => ?_) AllReadyH.nil)
            case oi0_12R20 =>
              conv =>
                lhs
                whnf
                arg 1
                whnf
            go_simp
            (try dsimp only)
            refine hK.out _ _ (SX.out _ (U0.out.alloc _)) (fun hHeld => ?_)
            clear hK K
            try simp only [Act.put, List.setIfInBounds_toArray, List.set_cons_zero, List.set_cons_succ]
            refine wpAnyH_done (by kernel_rfl) ?_ _
            go_wp2_with fail
            go_meet
            exact ⟨wD.heap.size, rfl, U0.out.size, Blk.new wD 61 [.int .i64 p, .int .i64 (1 + k0), .int .i64 (1 + l0), .slice none 0 0, .slice none 0 0, .int .i64 0, .int .i64 0, .int .i64 0], U0.out.alloc _⟩
  case rest =>
    obtain ⟨g, rfl, hg, hB, hU⟩ := hcut
    have c1 := hB.out.cell 1
    have f1 := hB.out.frozen 1
    obtain ⟨kd, hkd⟩ : ∃ k, kindS x0 = k := ⟨_, rfl⟩
    have hkb : 1 ≤ kd ∧ kd ≤ 5 := by rw [← hkd]; unfold kindS; rw [HK0.out]; split <;> omega
    have HKD := hide hkd
    obtain ⟨hkb1, hkb2⟩ := hkb
    clear hkd
    have hgw := hB.out.lt
    go_upto_if 19 with fail
    go_cut [] from 17 to 20 (fun wx => Hid (Blk wx g 61 [.int .i64 p, .int .i64 kd, .int .i64 (1 + l0), .slice none 0 0, .slice none 0 0, .int .i64 0, .int .i64 0, .int .i64 0]) ∧ Hid (Upd [] wb wx))
    case first =>
      by_cases h5 : 5 < 1 + k0
      · have e : kd = 1 := by rw [← HKD.out]; unfold kindS; rw [HK0.out, if_pos h5]
        have UN := hide (hU.out.setCell (p := ⟨g, 1, none⟩) (.inr hg.out) (.int .i64 1))
        have BN := hide (hB.out.set_ 1 (.int .i64 1))
        subst e
        go_wp2_with fail
        go_meet
        exact ⟨BN, UN⟩
      · have e : kd = 1 + k0 := by rw [← HKD.out]; unfold kindS; rw [HK0.out, if_neg h5]
        have h5' : ¬ 5 < 1 + k0 := h5
        subst e
        go_wp2_with fail
        go_meet
        exact ⟨hB, hU⟩
    case rest =>
      obtain ⟨hB2, hU2⟩ := hcut
      obtain ⟨wk, rfl⟩ : ∃ wk : World, wk = wc := ⟨_, rfl⟩
      obtain ⟨len, hlen⟩ : ∃ l, 1 + l0 = l := ⟨_, rfl⟩
      have hlb : 1 ≤ len ∧ len ≤ 400 := by omega
      rw [hlen] at hB2
      obtain ⟨hlb1, hlb2⟩ := hlb
      have HLEN := hide (show lenS x1 = len by unfold lenS; rw [HL0.out]; exact hlen)
      have X3 := hide (BX2.out.upd hU2.out (by simp))
      have y2 := X3.out.cell 2
      have z2 := hB2.out.cell 2
      have PT2 := hide (parts_any x2 len wk F2.out.1 F2.out.2 (by omega) (by omega))
      clear hlen c1 f1 hgw
      go_wp2_with fail
      refine PT2.out.mono ?_
      rintro e w5 ⟨ta, tc, rfl, ho5, u5⟩
      have B5 := hide (hB2.out.upd u5 (by simp))
      have X5 := hide (X3.out.upd u5 (by simp))
      have O5 := hide ho5
      have U5 := hide (hU2.out.trans u5 (by simp))
      have c5 := B5.out.cell 3
      have f5 := B5.out.frozen 3
      clear ho5 u5 y2 z2 PT2
      obtain ⟨tn, htn⟩ : ∃ n, (partsS x2 len).length = n := ⟨_, rfl⟩
      rw [htn] at O5 ⊢
      have HTN := hide htn
      obtain ⟨w6, hw6⟩ : ∃ x, w5.setCell ⟨g, 3, none⟩ (.slice ta tn tc) = x := ⟨_, rfl⟩
      have B6 := hide (show Blk w6 g 61 [.int .i64 p, .int .i64 kd, .int .i64 len, .slice ta tn tc, .slice none 0 0, .int .i64 0, .int .i64 0, .int .i64 0] by rw [← hw6]; exact B5.out.set_ 3 (.slice ta tn tc))
      have U6 := hide (show Upd [] wb w6 by rw [← hw6]; exact U5.out.setCell (.inr hg.out) _)
      have V6 := hide (show Upd [g] w5 w6 by rw [← hw6]; exact (Upd.refl _ _).setCell (.inl (by simp)) _)
      have hXg : w.heap.size ≠ g := by have := BX2.out.lt; have := hg.out; omega
      have X6 := hide (X5.out.upd V6.out (by simp; exact hXg))
      have O6 := hide (own_kept O5.out V6.out (fun k hk hm => own_blk_ne O5.out B5.out (by decide) k hk (by simpa using hm)))
      have HW6 := hide hw6
      have y3 : (w5.setCell ⟨g, 3, none⟩ (.slice ta tn tc)).cell? ⟨w.heap.size, 3, none⟩ = some (.int .i64 x3) := by rw [hw6]; exact X6.out.cell 3
      have z3 : (w5.setCell ⟨g, 3, none⟩ (.slice ta tn tc)).cell? ⟨g, 2, none⟩ = some (.int .i64 len) := by rw [hw6]; exact B6.out.cell 2
      have PT3 := hide (parts_any x3 len w6 F3.out.1 F3.out.2 (by omega) (by omega))
      clear hw6 htn
      go_wp2_with fail
      rw [HW6.out]
      refine PT3.out.mono ?_
      rintro e w7 ⟨ka, kc, rfl, ho7, u7⟩
      have B7 := hide (B6.out.upd u7 (by simp))
      have X7 := hide (X6.out.upd u7 (by simp))
      have OT7 := hide (own_kept O6.out u7 (by simp))
      have O7 := hide ho7
      have U7 := hide (U6.out.trans u7 (by simp))
      have c7 := B7.out.cell 4
      have f7 := B7.out.frozen 4
      clear ho7 u7 y3 z3 PT3 c5 f5
      obtain ⟨kn, hkn⟩ : ∃ n, (partsS x3 len).length = n := ⟨_, rfl⟩
      rw [hkn] at O7 ⊢
      have HKN := hide hkn
      obtain ⟨w8, hw8⟩ : ∃ x, w7.setCell ⟨g, 4, none⟩ (.slice ka kn kc) = x := ⟨_, rfl⟩
      have B8 := hide (show Blk w8 g 61 [.int .i64 p, .int .i64 kd, .int .i64 len, .slice ta tn tc, .slice ka kn kc, .int .i64 0, .int .i64 0, .int .i64 0] by rw [← hw8]; exact B7.out.set_ 4 (.slice ka kn kc))
      have U8 := hide (show Upd [] wb w8 by rw [← hw8]; exact U7.out.setCell (.inr hg.out) _)
      have V8 := hide (show Upd [g] w7 w8 by rw [← hw8]; exact (Upd.refl _ _).setCell (.inl (by simp)) _)
      have X8 := hide (X7.out.upd V8.out (by simp; exact hXg))
      have O8 := hide (own_kept O7.out V8.out (fun k hk hm => own_blk_ne O7.out B7.out (by decide) k hk (by simpa using hm)))
      have OT8 := hide (own_kept OT7.out V8.out (fun k hk hm => own_blk_ne OT7.out B7.out (by decide) k hk (by simpa using hm)))
      have HW8 := hide hw8
      have BR8 := hide (BR.out.upd U8.out (by simp))
      -- the rest: the three last fields
      have FIN := hide (show ∀ (W : World) (a t l : Int), (kd = 1 → a = pickS x4 6 ∧ t = 1 + pickS (x4.tdiv 6) 5 ∧ l = 1 + pickS x5 4) → (kd ≠ 1 → a = 0 ∧ t = 0 ∧ l = 0) → Upd [g, w.heap.size + 1] w8 W →
          ∃ ta' tc' ka' kc', Ending.returned (.agg #[.int .i64 p, .int .i64 kd, .int .i64 len, .slice ta tn tc, .slice ka kn kc, .int .i64 a, .int .i64 t, .int .i64 l]) = .returned (.agg #[.int .i64 i.id, .int .i64 i.kind, .int .i64 i.len, .slice ta' i.trims.length tc', .slice ka' i.talks.length kc', .int .i64 i.artist, .int .i64 i.tempo, .int .i64 i.lang]) ∧ ItOwn W i ta' tc' ka' kc' ∧ Upd [] w W from fun W a t l hs hn hu8 => by
        have hmi : i = ⟨p, kd, len, partsS x2 len, partsS x3 len, a, t, l⟩ := by
          rw [← HI.out]
          unfold madeS
          rw [HP.out, HKD.out, HLEN.out]
          by_cases h1 : kd = 1
          · obtain ⟨e1, e2, e3⟩ := hs h1
            rw [if_pos h1, if_pos h1, if_pos h1, e1, e2, e3]
          · obtain ⟨e1, e2, e3⟩ := hn h1
            rw [if_neg h1, if_neg h1, if_neg h1, e1, e2, e3]
        subst hmi
        unfold ItOwn
        dsimp only
        rw [HTN.out, HKN.out]
        have hx : ∀ {v : Value} {n : Nat} {xs : List Value}, w8.ownsRow 0 99 2 v n xs → W.ownsRow 0 99 2 v n xs := fun h => own_kept h hu8 (fun k hk hm => by
          rcases List.mem_cons.1 hm with rfl | hm
          · exact own_blk_ne h B8.out (by decide) k hk rfl
          · obtain rfl := List.mem_singleton.1 hm
            exact own_blk_ne h BR8.out (by decide) _ hk rfl)
        exact ⟨ta, tc, ka, kc, rfl, ⟨hx OT8.out, hx O8.out⟩, (U2.out.trans U8.out (by simp)).trans hu8 (fun x hx => by
          rcases List.mem_cons.1 hx with rfl | hx
          · exact .inr (Nat.le_trans U2.out.size hg.out)
          · obtain rfl := List.mem_singleton.1 hx
            exact .inr (by omega))⟩)
      have hgR : g ≠ w.heap.size + 1 := by have := BR.out.lt; have := hg.out; omega
      have n0 : (w7.setCell ⟨g, 4, none⟩ (.slice ka kn kc)).cell? ⟨g, 0, none⟩ = some (.int .i64 p) := by rw [hw8]; exact B8.out.cell 0
      have n1 : (w7.setCell ⟨g, 4, none⟩ (.slice ka kn kc)).cell? ⟨g, 1, none⟩ = some (.int .i64 kd) := by rw [hw8]; exact B8.out.cell 1
      have n4 : (w7.setCell ⟨g, 4, none⟩ (.slice ka kn kc)).cell? ⟨w.heap.size, 4, none⟩ = some (.int .i64 x4) := by rw [hw8]; exact X8.out.cell 4
      clear hw8 hkn
      by_cases hk1 : kd = 1
      · have hk1b : (kd == 1) = true := by simpa using hk1
        obtain ⟨ar, har⟩ : ∃ p, pickS x4 6 = p := ⟨_, rfl⟩
        obtain ⟨te, hte⟩ : ∃ p, pickS (x4.tdiv 6) 5 = p := ⟨_, rfl⟩
        obtain ⟨la, hla⟩ : ∃ p, pickS x5 4 = p := ⟨_, rfl⟩
        have hdv : Fits64 (x4.tdiv 6) := by
          have h1 := F4.out.1
          have h2 := F4.out.2
          unfold Fits64
          rcases Int.le_total 0 x4 with h | h
          · rw [Int.tdiv_eq_ediv_of_nonneg h]; omega
          · obtain ⟨y, hy⟩ : ∃ y, x4 = -y := ⟨-x4, by omega⟩
            subst hy
            rw [Int.neg_tdiv, Int.tdiv_eq_ediv_of_nonneg (by omega)]
            omega
        have PD := fun W => refPick x4 6 W F4.out.1 F4.out.2 (by omega) (by omega)
        have PE := fun W => refPick (x4.tdiv 6) 5 W hdv.1 hdv.2 (by omega) (by omega)
        have PF := fun W => refPick x5 4 W F5.out.1 F5.out.2 (by omega) (by omega)
        have bt := pickS_bounds (x4.tdiv 6) 5 (by omega)
        have bla := pickS_bounds x5 4 (by omega)
        have hwd : IntKind.i64.wrap (x4.tdiv 6) = x4.tdiv 6 := Go.IntWalk.i64_in _ (by have := hdv.1; have := hdv.2; omega)
        rw [har] at PD
        rw [hte] at PE bt
        rw [hla] at PF bla
        obtain ⟨bt1, bt2⟩ := bt
        obtain ⟨bla1, bla2⟩ := bla
        have hw3 : IntKind.i64.wrap (1 + te) = 1 + te := Go.IntWalk.i64_in _ (by omega)
        have hw4 : IntKind.i64.wrap (1 + la) = 1 + la := Go.IntWalk.i64_in _ (by omega)
        have QD := hide PD
        have QE := hide PE
        have QF := hide PF
        have HAR := hide har
        have HTE := hide hte
        have HLA := hide hla
        have HK1 := hide hk1
        clear PD PE PF har hte hla hdv
        go_upto_region 7 with fail
        rw [HW8.out]
        obtain ⟨w9, hw9⟩ : ∃ x, ((w8.setCell ⟨g, 5, none⟩ (.int .i64 ar)).setCell ⟨g, 6, none⟩ (.int .i64 (1 + te))).setCell ⟨g, 7, none⟩ (.int .i64 (1 + la)) = x := ⟨_, rfl⟩
        have B9 := hide (show Blk w9 g 61 [.int .i64 p, .int .i64 kd, .int .i64 len, .slice ta tn tc, .slice ka kn kc, .int .i64 ar, .int .i64 (1 + te), .int .i64 (1 + la)] by rw [← hw9]; exact ((B8.out.set_ 5 (.int .i64 ar)).set_ 6 (.int .i64 (1 + te))).set_ 7 (.int .i64 (1 + la)))
        have V9 := hide (show Upd [g, w.heap.size + 1] w8 w9 by rw [← hw9]; exact (((Upd.refl _ _).setCell (p := ⟨g, 5, none⟩) (.inl (by simp)) _).setCell (p := ⟨g, 6, none⟩) (.inl (by simp)) _).setCell (p := ⟨g, 7, none⟩) (.inl (by simp)) _)
        have BR9 := hide (show Blk w9 (w.heap.size + 1) 61 [.int .i64 0, .int .i64 0, .int .i64 0, .slice none 0 0, .slice none 0 0, .int .i64 0, .int .i64 0, .int .i64 0] by rw [← hw9]; exact ((BR8.out.far (p := ⟨g, 5, none⟩) hgR.symm _).far (p := ⟨g, 6, none⟩) hgR.symm _).far (p := ⟨g, 7, none⟩) hgR.symm _)
        have HW9 := hide hw9
        have g5 := B8.out.cell 5
        have g6 := B8.out.cell 6
        have g7 := B8.out.cell 7
        have h5 := B8.out.frozen 5
        have h6 := B8.out.frozen 6
        have h7 := B8.out.frozen 7
        have e4 := X8.out.cell 4
        have e5 := X8.out.cell 5
        clear hw9 hk1
        go_upto_region 8 with (go_at_call 74; refine (QD.out _).mono ?_; rintro e w' ⟨rfl, rfl⟩)
        go_upto_region 9 with (go_at_call 74; refine (QE.out _).mono ?_; rintro e w' ⟨rfl, rfl⟩)
        go_upto_region 10 with (go_at_call 74; refine (QF.out _).mono ?_; rintro e w' ⟨rfl, rfl⟩)
        rw [HW9.out]
        have m0 := B9.out.cell 0
        have r0 := BR9.out.cell 0
        have q0 := BR9.out.frozen 0
        have m1 := B9.out.cell 1
        have r1 := BR9.out.cell 1
        have q1 := BR9.out.frozen 1
        have m2 := B9.out.cell 2
        have r2 := BR9.out.cell 2
        have q2 := BR9.out.frozen 2
        have m3 := B9.out.cell 3
        have r3 := BR9.out.cell 3
        have q3 := BR9.out.frozen 3
        have m4 := B9.out.cell 4
        have r4 := BR9.out.cell 4
        have q4 := BR9.out.frozen 4
        have m5 := B9.out.cell 5
        have r5 := BR9.out.cell 5
        have q5 := BR9.out.frozen 5
        have m6 := B9.out.cell 6
        have r6 := BR9.out.cell 6
        have q6 := BR9.out.frozen 6
        have m7 := B9.out.cell 7
        have r7 := BR9.out.cell 7
        have q7 := BR9.out.frozen 7
        go_wp2_with fail
        have bf : Blk ((((((((w9.setCell ⟨w.heap.size + 1, 0, none⟩ (.int .i64 p)).setCell ⟨w.heap.size + 1, 1, none⟩ (.int .i64 kd)).setCell ⟨w.heap.size + 1, 2, none⟩ (.int .i64 len)).setCell ⟨w.heap.size + 1, 3, none⟩ (.slice ta tn tc)).setCell ⟨w.heap.size + 1, 4, none⟩ (.slice ka kn kc)).setCell ⟨w.heap.size + 1, 5, none⟩ (.int .i64 ar)).setCell ⟨w.heap.size + 1, 6, none⟩ (.int .i64 (1 + te))).setCell ⟨w.heap.size + 1, 7, none⟩ (.int .i64 (1 + la))) (w.heap.size + 1) 61 [.int .i64 p, .int .i64 kd, .int .i64 len, .slice ta tn tc, .slice ka kn kc, .int .i64 ar, .int .i64 (1 + te), .int .i64 (1 + la)] := ((((((((BR9.out.set_ 0 (.int .i64 p)).set_ 1 (.int .i64 kd)).set_ 2 (.int .i64 len)).set_ 3 (.slice ta tn tc)).set_ 4 (.slice ka kn kc)).set_ 5 (.int .i64 ar)).set_ 6 (.int .i64 (1 + te))).set_ 7 (.int .i64 (1 + la)))
        have uf : Upd [w.heap.size + 1] w9 ((((((((w9.setCell ⟨w.heap.size + 1, 0, none⟩ (.int .i64 p)).setCell ⟨w.heap.size + 1, 1, none⟩ (.int .i64 kd)).setCell ⟨w.heap.size + 1, 2, none⟩ (.int .i64 len)).setCell ⟨w.heap.size + 1, 3, none⟩ (.slice ta tn tc)).setCell ⟨w.heap.size + 1, 4, none⟩ (.slice ka kn kc)).setCell ⟨w.heap.size + 1, 5, none⟩ (.int .i64 ar)).setCell ⟨w.heap.size + 1, 6, none⟩ (.int .i64 (1 + te))).setCell ⟨w.heap.size + 1, 7, none⟩ (.int .i64 (1 + la))) := (((((((((Upd.refl _ _).setCell (p := ⟨w.heap.size + 1, 0, none⟩) (.inl (by simp)) _).setCell (p := ⟨w.heap.size + 1, 1, none⟩) (.inl (by simp)) _).setCell (p := ⟨w.heap.size + 1, 2, none⟩) (.inl (by simp)) _).setCell (p := ⟨w.heap.size + 1, 3, none⟩) (.inl (by simp)) _).setCell (p := ⟨w.heap.size + 1, 4, none⟩) (.inl (by simp)) _).setCell (p := ⟨w.heap.size + 1, 5, none⟩) (.inl (by simp)) _).setCell (p := ⟨w.heap.size + 1, 6, none⟩) (.inl (by simp)) _).setCell (p := ⟨w.heap.size + 1, 7, none⟩) (.inl (by simp)) _)
        generalize ((((((((w9.setCell ⟨w.heap.size + 1, 0, none⟩ (.int .i64 p)).setCell ⟨w.heap.size + 1, 1, none⟩ (.int .i64 kd)).setCell ⟨w.heap.size + 1, 2, none⟩ (.int .i64 len)).setCell ⟨w.heap.size + 1, 3, none⟩ (.slice ta tn tc)).setCell ⟨w.heap.size + 1, 4, none⟩ (.slice ka kn kc)).setCell ⟨w.heap.size + 1, 5, none⟩ (.int .i64 ar)).setCell ⟨w.heap.size + 1, 6, none⟩ (.int .i64 (1 + te))).setCell ⟨w.heap.size + 1, 7, none⟩ (.int .i64 (1 + la))) = wf at bf uf ⊢
        have UF := hide uf
        have v0 := bf.cell 0
        have v1 := bf.cell 1
        have v2 := bf.cell 2
        have v3 := bf.cell 3
        have v4 := bf.cell 4
        have v5 := bf.cell 5
        have v6 := bf.cell 6
        have v7 := bf.cell 7
        refine bodyPost_ret (v := .agg #[.int .i64 p, .int .i64 kd, .int .i64 len, .slice ta tn tc, .slice ka kn kc, .int .i64 ar, .int .i64 (1 + te), .int .i64 (1 + la)]) (by simp [results, Try.results59, go_sem, v0, v1, v2, v3, v4, v5, v6, v7]) rfl (FIN.out _ ar (1 + te) (1 + la) (fun _ => ⟨HAR.out.symm, by rw [HTE.out], by rw [HLA.out]⟩) (fun h => absurd HK1.out h) (V9.out.trans UF.out (fun x hx => .inl (by simp at hx; subst hx; simp))))
      · have hk1b : (kd == 1) = false := by simpa using hk1
        go_upto_region 10 with fail
        rw [HW8.out]
        have m0 := B8.out.cell 0
        have m1 := B8.out.cell 1
        have m2 := B8.out.cell 2
        have m3 := B8.out.cell 3
        have m4 := B8.out.cell 4
        have m5 := B8.out.cell 5
        have m6 := B8.out.cell 6
        have m7 := B8.out.cell 7
        have r0 := BR8.out.cell 0
        have q0 := BR8.out.frozen 0
        have r1 := BR8.out.cell 1
        have q1 := BR8.out.frozen 1
        have r2 := BR8.out.cell 2
        have q2 := BR8.out.frozen 2
        have r3 := BR8.out.cell 3
        have q3 := BR8.out.frozen 3
        have r4 := BR8.out.cell 4
        have q4 := BR8.out.frozen 4
        have r5 := BR8.out.cell 5
        have q5 := BR8.out.frozen 5
        have r6 := BR8.out.cell 6
        have q6 := BR8.out.frozen 6
        have r7 := BR8.out.cell 7
        have q7 := BR8.out.frozen 7
        go_wp2_with fail
        have bf : Blk ((((((((w8.setCell ⟨w.heap.size + 1, 0, none⟩ (.int .i64 p)).setCell ⟨w.heap.size + 1, 1, none⟩ (.int .i64 kd)).setCell ⟨w.heap.size + 1, 2, none⟩ (.int .i64 len)).setCell ⟨w.heap.size + 1, 3, none⟩ (.slice ta tn tc)).setCell ⟨w.heap.size + 1, 4, none⟩ (.slice ka kn kc)).setCell ⟨w.heap.size + 1, 5, none⟩ (.int .i64 0)).setCell ⟨w.heap.size + 1, 6, none⟩ (.int .i64 0)).setCell ⟨w.heap.size + 1, 7, none⟩ (.int .i64 0)) (w.heap.size + 1) 61 [.int .i64 p, .int .i64 kd, .int .i64 len, .slice ta tn tc, .slice ka kn kc, .int .i64 0, .int .i64 0, .int .i64 0] := ((((((((BR8.out.set_ 0 (.int .i64 p)).set_ 1 (.int .i64 kd)).set_ 2 (.int .i64 len)).set_ 3 (.slice ta tn tc)).set_ 4 (.slice ka kn kc)).set_ 5 (.int .i64 0)).set_ 6 (.int .i64 0)).set_ 7 (.int .i64 0))
        have uf : Upd [w.heap.size + 1] w8 ((((((((w8.setCell ⟨w.heap.size + 1, 0, none⟩ (.int .i64 p)).setCell ⟨w.heap.size + 1, 1, none⟩ (.int .i64 kd)).setCell ⟨w.heap.size + 1, 2, none⟩ (.int .i64 len)).setCell ⟨w.heap.size + 1, 3, none⟩ (.slice ta tn tc)).setCell ⟨w.heap.size + 1, 4, none⟩ (.slice ka kn kc)).setCell ⟨w.heap.size + 1, 5, none⟩ (.int .i64 0)).setCell ⟨w.heap.size + 1, 6, none⟩ (.int .i64 0)).setCell ⟨w.heap.size + 1, 7, none⟩ (.int .i64 0)) := (((((((((Upd.refl _ _).setCell (p := ⟨w.heap.size + 1, 0, none⟩) (.inl (by simp)) _).setCell (p := ⟨w.heap.size + 1, 1, none⟩) (.inl (by simp)) _).setCell (p := ⟨w.heap.size + 1, 2, none⟩) (.inl (by simp)) _).setCell (p := ⟨w.heap.size + 1, 3, none⟩) (.inl (by simp)) _).setCell (p := ⟨w.heap.size + 1, 4, none⟩) (.inl (by simp)) _).setCell (p := ⟨w.heap.size + 1, 5, none⟩) (.inl (by simp)) _).setCell (p := ⟨w.heap.size + 1, 6, none⟩) (.inl (by simp)) _).setCell (p := ⟨w.heap.size + 1, 7, none⟩) (.inl (by simp)) _)
        generalize ((((((((w8.setCell ⟨w.heap.size + 1, 0, none⟩ (.int .i64 p)).setCell ⟨w.heap.size + 1, 1, none⟩ (.int .i64 kd)).setCell ⟨w.heap.size + 1, 2, none⟩ (.int .i64 len)).setCell ⟨w.heap.size + 1, 3, none⟩ (.slice ta tn tc)).setCell ⟨w.heap.size + 1, 4, none⟩ (.slice ka kn kc)).setCell ⟨w.heap.size + 1, 5, none⟩ (.int .i64 0)).setCell ⟨w.heap.size + 1, 6, none⟩ (.int .i64 0)).setCell ⟨w.heap.size + 1, 7, none⟩ (.int .i64 0)) = wf at bf uf ⊢
        have UF := hide uf
        have v0 := bf.cell 0
        have v1 := bf.cell 1
        have v2 := bf.cell 2
        have v3 := bf.cell 3
        have v4 := bf.cell 4
        have v5 := bf.cell 5
        have v6 := bf.cell 6
        have v7 := bf.cell 7
        refine bodyPost_ret (v := .agg #[.int .i64 p, .int .i64 kd, .int .i64 len, .slice ta tn tc, .slice ka kn kc, .int .i64 0, .int .i64 0, .int .i64 0]) (by simp [results, Try.results59, go_sem, v0, v1, v2, v3, v4, v5, v6, v7]) rfl (FIN.out _ 0 0 0 (fun h => absurd h hk1) (fun _ => ⟨rfl, rfl, rfl⟩) (UF.out.mono (fun x hx => .inl (by simp at hx; subst hx; simp))))
end Go.Proofs.Yteehjciepccomaa

namespace Go.Proofs.Yteehjciepccomaa
open Go.RowKit
set_option maxRecDepth 100000
set_option maxHeartbeats 20000000

theorem flat_length {α : Type} (f : α → List Value) (m : Nat) (hf : ∀ x, (f x).length = m) (xs : List α) : (xs.flatMap f).length = xs.length * m := by
  induction xs with
  | nil => simp
  | cons x xs ih => rw [List.flatMap_cons, List.length_append, ih, hf, List.length_cons, Nat.succ_mul]; omega
theorem flat_at {α : Type} (f : α → List Value) (m : Nat) (hf : ∀ x, (f x).length = m) : ∀ (xs : List α) (i : Nat) (x : α) (t : Nat), xs[i]? = some x → t < m → (xs.flatMap f)[i * m + t]? = (f x)[t]?
  | [], i, x, t, h, _ => by simp at h
  | y :: xs, 0, x, t, h, ht => by
    obtain rfl : y = x := by simpa using h
    rw [List.flatMap_cons, List.getElem?_append_left (by rw [hf]; omega)]
    simp
  | y :: xs, i + 1, x, t, h, ht => by
    rw [List.flatMap_cons, List.getElem?_append_right (by rw [hf, Nat.succ_mul]; omega), hf]
    have := flat_at f m hf xs i x t (by simpa using h) ht
    rw [← this]
    congr 1
    rw [Nat.succ_mul]
    omega
theorem flat_set {α : Type} (f : α → List Value) (m : Nat) (hf : ∀ x, (f x).length = m) : ∀ (xs : List α) (i : Nat) (x y : α) (t : Nat) (v : Value), xs[i]? = some x → t < m → f y = (f x).set t v → (xs.flatMap f).set (i * m + t) v = (xs.set i y).flatMap f
  | [], i, x, y, t, v, h, _, _ => by simp at h
  | z :: xs, 0, x, y, t, v, h, ht, e => by
    obtain rfl : z = x := by simpa using h
    rw [List.set_cons_zero, List.flatMap_cons, List.flatMap_cons, e, List.set_append_left _ _ (by rw [hf]; omega)]
    simp
  | z :: xs, i + 1, x, y, t, v, h, ht, e => by
    rw [List.set_cons_succ, List.flatMap_cons, List.flatMap_cons, List.set_append_right _ _ (by rw [hf, Nat.succ_mul]; omega), hf]
    rw [← flat_set f m hf xs i x y t v (by simpa using h) ht e]
    congr 2
    rw [Nat.succ_mul]
    omega
/-- A recording with where its lists lie. -/
structure Rec where
  i : It
  ta : Option Addr
  tc : Nat
  ka : Option Addr
  kc : Nat
def recC (r : Rec) : List Value := [.int .i64 r.i.id, .int .i64 r.i.kind, .int .i64 r.i.len, .slice r.ta r.i.trims.length r.tc, .slice r.ka r.i.talks.length r.kc, .int .i64 r.i.artist, .int .i64 r.i.tempo, .int .i64 r.i.lang]
def recCells (qs : List Rec) : List Value := qs.flatMap recC
theorem recCells_length (qs : List Rec) : (recCells qs).length = qs.length * 8 := flat_length recC 8 (fun _ => rfl) qs
theorem recCells_snoc (qs : List Rec) (r : Rec) : recCells (qs ++ [r]) = recCells qs ++ recC r := by
  unfold recCells
  rw [List.flatMap_append]
  simp
def RecsOwn (W : World) (qs : List Rec) : Prop := ∀ r ∈ qs, ItOwn W r.i r.ta r.tc r.ka r.kc
theorem RecsOwn.upd {W W' : World} {qs : List Rec} (h : RecsOwn W qs) (hu : Upd [] W W') : RecsOwn W' qs := fun r hr => (h r hr).upd hu
theorem RecsOwn.stay {w w' : World} {qs : List Rec} {b2 e2 s2 n2 c2 : Nat} {A2 : Option Addr} {xs2 : List Value} (h : RecsOwn w qs) (h' : w.ownsRow b2 e2 s2 (.slice A2 n2 c2) n2 xs2) (hne : 99 ≠ e2) (hu : Upd (A2.map (·.block)).toList w w') : RecsOwn w' qs := fun r hr => (h r hr).stay h' hne hu
theorem RecsOwn.snoc {W : World} {qs : List Rec} {r : Rec} (h : RecsOwn W qs) (hr : ItOwn W r.i r.ta r.tc r.ka r.kc) : RecsOwn W (qs ++ [r]) := fun x hx => by
  rcases List.mem_append.1 hx with hx | hx
  · exact h x hx
  · obtain rfl := List.mem_singleton.1 hx; exact hr
theorem list_new (w : World) (cs : List Value) (t : TypeId) : ∀ j u, cs[j]? = some u → (w.alloc (.cells cs.toArray t)).cell? ((⟨w.heap.size, 0, none⟩ : Addr).add j) = some u := by
  intro j u hj
  have e : (⟨w.heap.size, 0, none⟩ : Addr).add j = ⟨w.heap.size, j, none⟩ := by unfold Addr.add; split <;> simp_all
  rw [e, (Blk.new w t cs).cell, hj]
theorem recC_ones (r : Rec) : ∀ u ∈ recC r, u.oneCell' = true := by
  intro u hu
  simp only [recC, List.mem_cons, List.not_mem_nil, or_false] at hu
  rcases hu with rfl | rfl | rfl | rfl | rfl | rfl | rfl | rfl <;> rfl
theorem rec_own {w : World} {base n c : Nat} {A : Option Addr} {qs : List Rec} (h : w.ownsRow base 61 8 (.slice A n c) n (recCells qs)) {k : Nat} {r : Rec} (hr : qs[k]? = some r) :
    ∃ g, A = some ⟨g, 0, none⟩ ∧ base ≤ g ∧ ∀ t v, (recC r)[t]? = some v → w.cell? ⟨g, k * 8 + t, none⟩ = some v := by
  have hk := (List.getElem?_eq_some_iff.1 hr).1
  rcases h.2 with ⟨_, h0⟩ | ⟨g, cap, cur, hv, hb, _⟩
  · have := h.1
    rw [recCells_length] at this
    omega
  · obtain ⟨rfl, rfl⟩ : A = some ⟨g, 0, none⟩ ∧ c = cap := by simpa using hv
    refine ⟨g, rfl, hb, fun t v ht => ?_⟩
    have hlt := (List.getElem?_eq_some_iff.1 ht).1
    have h1 := World.ownsRow.cells h (g := g) rfl (k * 8 + t) v (by rw [show recCells qs = qs.flatMap recC from rfl, flat_at recC 8 (fun _ => rfl) qs k r t hr hlt]; exact ht)
    have e : (⟨g, 0, none⟩ : Addr).add (k * 8 + t) = ⟨g, k * 8 + t, none⟩ := by unfold Addr.add; split <;> simp_all
    rwa [e] at h1
theorem rec_eight {w : World} {base n c : Nat} {A : Option Addr} {qs : List Rec} (h : w.ownsRow base 61 8 (.slice A n c) n (recCells qs)) {k : Nat} {r : Rec} (hr : qs[k]? = some r) :
    ∃ g, A = some ⟨g, 0, none⟩ ∧ base ≤ g ∧ w.cell? ⟨g, k * 8, none⟩ = some (.int .i64 r.i.id) ∧ w.cell? ⟨g, k * 8 + 1, none⟩ = some (.int .i64 r.i.kind) ∧ w.cell? ⟨g, k * 8 + 2, none⟩ = some (.int .i64 r.i.len) ∧
      w.cell? ⟨g, k * 8 + 3, none⟩ = some (.slice r.ta r.i.trims.length r.tc) ∧ w.cell? ⟨g, k * 8 + 4, none⟩ = some (.slice r.ka r.i.talks.length r.kc) ∧ w.cell? ⟨g, k * 8 + 5, none⟩ = some (.int .i64 r.i.artist) ∧
      w.cell? ⟨g, k * 8 + 6, none⟩ = some (.int .i64 r.i.tempo) ∧ w.cell? ⟨g, k * 8 + 7, none⟩ = some (.int .i64 r.i.lang) := by
  obtain ⟨g, e, hb, hc⟩ := rec_own h hr
  exact ⟨g, e, hb, hc 0 _ rfl, hc 1 _ rfl, hc 2 _ rfl, hc 3 _ rfl, hc 4 _ rfl, hc 5 _ rfl, hc 6 _ rfl, hc 7 _ rfl⟩
end Go.Proofs.Yteehjciepccomaa
