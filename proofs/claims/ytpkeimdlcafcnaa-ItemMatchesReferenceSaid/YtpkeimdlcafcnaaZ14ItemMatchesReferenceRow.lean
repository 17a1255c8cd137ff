/-
  The reference's parts: spells that an integer determines.
  The reference's Made: the recording that integers determine.
  aircheckref07.Bent: a recording with something changed.
  aircheckref07.Valid.
-/
import Derived.Test.YtpkeimdlcafcnaaZ13ItemMatchesReferenceRow
import Derived.Deep.LoopGhost
import Derived.Deep.RegionHeld3

namespace Go.Proofs.Ytpkeimdlcafcnaa
open Go.RowKit
set_option maxRecDepth 100000
set_option maxHeartbeats 20000000

def partsGo (c len : Int) : Nat → Nat → Int → List Sp
  | 0, _, _ => []
  | f + 1, k, at_ =>
    if len ≤ at_ + c / (5 + 7 * k) % (1 + len / 4) + 1 + c / (11 + 3 * k) % (1 + len / 6) then []
    else ⟨at_ + c / (5 + 7 * k) % (1 + len / 4), at_ + c / (5 + 7 * k) % (1 + len / 4) + 1 + c / (11 + 3 * k) % (1 + len / 6)⟩ :: partsGo c len f (k + 1) (at_ + c / (5 + 7 * k) % (1 + len / 4) + 1 + c / (11 + 3 * k) % (1 + len / 6))
def partsS (x len : Int) : List Sp := partsGo (pickS x 1099511627776) len (pickS x 1099511627776 % 5).toNat 0 0
theorem partsGo_spec (c len : Int) (_ : 1 ≤ len) : ∀ (f k : Nat) (at_ : Int), 0 ≤ at_ → at_ < len → (partsGo c len f k at_).length ≤ f ∧
    (∀ j, j < (partsGo c len f k at_).length → SpIn len ((partsGo c len f k at_)[j]?.getD ⟨0, 0⟩) ∧ (if j = 0 then at_ else ((partsGo c len f k at_)[j - 1]?.getD ⟨0, 0⟩).to_) ≤ ((partsGo c len f k at_)[j]?.getD ⟨0, 0⟩).fr) ∧
    sumSp (partsGo c len f k at_) < len - at_ := by
  intro f
  induction f with
  | zero => intro k at_ h0 h1; exact ⟨Nat.le_refl _, fun j hj => by simp [partsGo] at hj, by show 0 < _; omega⟩
  | succ f ih =>
    intro k at_ h0 h1
    rw [partsGo]
    have a1 := Int.emod_nonneg (c / (5 + 7 * k)) (show 1 + len / 4 ≠ 0 by omega)
    have b1 := Int.emod_nonneg (c / (11 + 3 * k)) (show 1 + len / 6 ≠ 0 by omega)
    generalize c / (5 + 7 * k) % (1 + len / 4) = q1 at *
    generalize c / (11 + 3 * k) % (1 + len / 6) = q2 at *
    by_cases hle : len ≤ at_ + q1 + 1 + q2
    · rw [if_pos hle]
      exact ⟨Nat.zero_le _, fun j hj => by simp at hj, by show 0 < _; omega⟩
    · rw [if_neg hle]
      obtain ⟨i1, i2, i3⟩ := ih (k + 1) (at_ + q1 + 1 + q2) (by omega) (by omega)
      refine ⟨by rw [List.length_cons]; omega, fun j hj => ?_, by rw [sumSp_cons]; show at_ + q1 + 1 + q2 - (at_ + q1) + _ < _; omega⟩
      cases j with
      | zero => exact ⟨⟨by show 0 ≤ at_ + q1; omega, by show at_ + q1 < at_ + q1 + 1 + q2; omega, by show at_ + q1 + 1 + q2 ≤ len; omega⟩, by show at_ ≤ at_ + q1; omega⟩
      | succ j =>
        have := i2 j (by rw [List.length_cons] at hj; omega)
        rw [List.getElem?_cons_succ]
        refine ⟨this.1, ?_⟩
        have h3 := this.2
        rw [if_neg (by omega), show j + 1 - 1 = j by omega]
        cases j with
        | zero => exact h3
        | succ j => rw [if_neg (by omega)] at h3; rw [List.getElem?_cons_succ]; exact h3
theorem partsS_ok (x len : Int) (hl : 1 ≤ len) : SpsOk len (partsS x len) ∧ sumSp (partsS x len) < len := by
  unfold partsS
  have h5 := Int.emod_lt_of_pos (pickS x 1099511627776) (show (0 : Int) < 5 by omega)
  obtain ⟨h1, h2, h3⟩ := partsGo_spec (pickS x 1099511627776) len hl (pickS x 1099511627776 % 5).toNat 0 0 (by omega) (by omega)
  refine ⟨⟨fun k hk => ?_, by omega⟩, by omega⟩
  obtain ⟨a, b⟩ := h2 k hk
  refine ⟨a, ?_⟩
  rcases Nat.eq_zero_or_pos k with h | h
  · exact .inl h
  · rw [if_neg (by omega)] at b
    exact .inr b

theorem parts_any (x len : Int) (w : World) (h1 : -9223372036854775808 ≤ x) (h2 : x ≤ 9223372036854775807) (hl : 1 ≤ len) (hl2 : len ≤ 3600) :
    Calls Try.prog 40 #[.int .i64 x, .int .i64 len] w fun e w' => ∃ A cc, e = .returned (.slice A (partsS x len).length cc) ∧ w'.ownsRow 0 53 2 (.slice A (partsS x len).length cc) (partsS x len).length (spCells (partsS x len)) ∧ Upd [] w w' := by
  have PK := hide (refPick x 1099511627776 w h1 h2 (by omega) (by omega))
  have hcb := pickS_bounds x 1099511627776 (by omega)
  obtain ⟨c, hc⟩ : ∃ c : Nat, pickS x 1099511627776 = (c : Int) := ⟨(pickS x 1099511627776).toNat, by omega⟩
  obtain ⟨L, HL⟩ : ∃ L, Hid (partsS x len = L) := ⟨_, rfl⟩
  obtain ⟨m, hm⟩ : ∃ m, c % 5 = m := ⟨_, rfl⟩
  have HLG := hide (show partsGo c len m 0 0 = L by rw [← HL.out]; unfold partsS; rw [hc, ← hm]; rfl)
  rw [hc] at PK hcb
  rw [HL.out]
  obtain ⟨hc1, hc2⟩ := hcb
  have hm5 : m < 5 := by omega
  have hmi : (c : Int) % 5 = (m : Int) := by omega
  have HMI := hide hmi
  clear h1 h2 hc hm
  go_enter Try.func40, Try.ntmps40
  go_wp2_with (go_at_call 39; refine PK.out.mono ?_; rintro e w' ⟨rfl, rfl⟩)
  obtain ⟨wP, rfl⟩ : ∃ wP : World, wP = w := ⟨_, rfl⟩
  go_loopw [5, 6, 7] (fun s5 s6 s7 wr => ∃ (k : Nat) (at_ : Int) (A : Option Addr) (n cc : Nat) (l : List Sp), k ≤ m ∧ s7 = .int .i64 k ∧ s6 = .int .i64 at_ ∧ (0 ≤ at_ ∧ at_ < len) ∧ s5 = .slice A n cc ∧ n ≤ k ∧ Hid (l ++ partsGo c len (m - k) k at_ = L) ∧ Hid (n = l.length) ∧ Hid (wr.ownsRow wP.heap.size 53 2 (.slice A n cc) n (spCells l)) ∧ Hid (Upd [] wP wr)) (fun _ _ k _ => m - (intOf k).toNat)
  case atStart => exact ⟨0, 0, none, 0, 0, [], Nat.zero_le _, rfl, rfl, by omega, rfl, Nat.le_refl _, HLG, rfl, World.ownsRow_nil _ _ _ _, Upd.refl _ _⟩
  case round =>
    obtain ⟨k, at_, A, n, cc, l, hk, rfl, rfl, ⟨ha1, ha2⟩, rfl, hnk, hl9, hnl, hown, hu⟩ := hrel
    obtain ⟨wo, rfl⟩ : ∃ wo : World, wo = wr := ⟨_, rfl⟩
    by_cases hkm : k < m
    · have hki : (k : Int) < m := by omega
      have hk5 : (k : Int) < 5 := by omega
      have r1 : 0 ≤ (c : Int) / (5 + 7 * k) := Int.ediv_nonneg (by omega) (by omega)
      have r2 : (c : Int) / (5 + 7 * k) ≤ 1099511627776 := by
        have := Int.ediv_le_self (5 + 7 * (k : Int)) (a := (c : Int)) (by omega)
        omega
      have r3 : 0 ≤ (c : Int) / (11 + 3 * k) := Int.ediv_nonneg (by omega) (by omega)
      have r4 : (c : Int) / (11 + 3 * k) ≤ 1099511627776 := by
        have := Int.ediv_le_self (11 + 3 * (k : Int)) (a := (c : Int)) (by omega)
        omega
      obtain ⟨f, hf⟩ : ∃ f, f + 1 = m - k := ⟨m - k - 1, by omega⟩
      have HF := hide hf
      obtain ⟨d1, hd1⟩ : ∃ d, (c : Int) / (5 + 7 * k) = d := ⟨_, rfl⟩
      obtain ⟨d2, hd2⟩ : ∃ d, (c : Int) / (11 + 3 * k) = d := ⟨_, rfl⟩
      obtain ⟨q1, hq1⟩ : ∃ d, d1 % (1 + len / 4) = d := ⟨_, rfl⟩
      obtain ⟨q2, hq2⟩ : ∃ d, d2 % (1 + len / 6) = d := ⟨_, rfl⟩
      have hq1b : 0 ≤ q1 ∧ q1 < 1 + len / 4 := by rw [← hq1]; exact ⟨Int.emod_nonneg _ (by omega), Int.emod_lt_of_pos _ (by omega)⟩
      have hq2b : 0 ≤ q2 ∧ q2 < 1 + len / 6 := by rw [← hq2]; exact ⟨Int.emod_nonneg _ (by omega), Int.emod_lt_of_pos _ (by omega)⟩
      rw [hd1] at r1 r2
      rw [hd2] at r3 r4
      obtain ⟨hq11, hq12⟩ := hq1b
      obtain ⟨hq21, hq22⟩ := hq2b
      have hd1' : (c : Int).tdiv (5 + 7 * k) = d1 := by rw [Int.tdiv_eq_ediv_of_nonneg (by omega), hd1]
      have hd2' : (c : Int).tdiv (11 + 3 * k) = d2 := by rw [Int.tdiv_eq_ediv_of_nonneg (by omega), hd2]
      have e4 : len.tdiv 4 = len / 4 := Int.tdiv_eq_ediv_of_nonneg (by omega)
      have e6 : len.tdiv 6 = len / 6 := Int.tdiv_eq_ediv_of_nonneg (by omega)
      have hq1' : d1.tmod (1 + len / 4) = q1 := by rw [Int.tmod_eq_emod_of_nonneg (by omega), hq1]
      have hq2' : d2.tmod (1 + len / 6) = q2 := by rw [Int.tmod_eq_emod_of_nonneg (by omega), hq2]
      have z1 : ((5 : Int) + 7 * k == 0) = false := by simp; omega
      have z2 : ((11 : Int) + 3 * k == 0) = false := by simp; omega
      have z3 : ((1 : Int) + len / 4 == 0) = false := by simp; omega
      have z4 : ((1 : Int) + len / 6 == 0) = false := by simp; omega
      have HD1 := hide hd1
      have HD2 := hide hd2
      have HQ1 := hide hq1
      have HQ2 := hide hq2
      clear hf hd1 hd2 hq1 hq2
      have HSTEP := hide (show partsGo c len (m - k) k at_ = if len ≤ at_ + q1 + 1 + q2 then [] else ⟨at_ + q1, at_ + q1 + 1 + q2⟩ :: partsGo c len f (k + 1) (at_ + q1 + 1 + q2) by
        rw [← HF.out, partsGo, HD1.out, HD2.out, HQ1.out, HQ2.out])
      have O1 := hide (show ∀ u ∈ [Value.int .i64 (at_ + q1), Value.int .i64 (at_ + q1 + 1 + q2)], u.oneCell' = true by simp [Value.oneCell'])
      have O3 := hide (show n + 1 ≤ maxLen by unfold maxLen; omega)
      have O4 := hide (show (n + 1) * 16 ≤ 140737488355328 by omega)
      have OB := hide (hown.out.alloc (.cells #[.int .i64 (at_ + q1), .int .i64 (at_ + q1 + 1 + q2)] 53))
      have OS := hide (show wP.heap.size ≤ (wo.alloc (.cells #[.int .i64 (at_ + q1), .int .i64 (at_ + q1 + 1 + q2)] 53)).heap.size by have := hu.out.size; rw [World.size_alloc]; omega)
      by_cases hle : len ≤ at_ + q1 + 1 + q2
      · have HE := hide (show l = L by
          have h1 := hl9.out
          rw [HSTEP.out, if_pos hle, List.append_nil] at h1
          exact h1)
        go_wp2_with fail
        go_ret
        have e := HE.out
        subst e
        rw [← hnl.out]
        exact ⟨A, cc, rfl, it_own_less hown.out (Nat.zero_le _), hu.out⟩
      · have HE := hide (show (l ++ [(⟨at_ + q1, at_ + q1 + 1 + q2⟩ : Sp)]) ++ partsGo c len (m - (k + 1)) (k + 1) (at_ + q1 + 1 + q2) = L by
          have h1 := hl9.out
          rw [HSTEP.out, if_neg hle] at h1
          rw [← h1, show m - (k + 1) = f by have := HF.out; omega, List.append_assoc]
          rfl)
        go_wp2_with (at_builtin; refine wpList_append_base rfl (.tmp 44) (.tmp 48) _ rfl wP.heap.size 53 _ 2 16 Try.underlying22 it_info_spell rfl (by decide) A n cc _ rfl OB.out ⟨wo.heap.size, 0, none⟩ 1 1 [.int .i64 (at_ + q1), .int .i64 (at_ + q1 + 1 + q2)] rfl rfl (cell_two_new _ _ _ _) O1.out O3.out O4.out OS.out ?_; intro A5 c5 w5 h5 u5 _; have H5 := hide h5; have V5 := hide ((hu.out.alloc _).trans u5 (fun z hz => .inr (it_own_block hown.out z (by rw [ownBlock_slice]; simpa using hz)))); clear h5 u5)
        go_roundw
        case rel => exact ⟨k + 1, at_ + q1 + 1 + q2, A5, n + 1, c5, l ++ [⟨at_ + q1, at_ + q1 + 1 + q2⟩], by omega, by go_num, rfl, by omega, rfl, by omega, HE, hide (by rw [List.length_append, ← hnl.out]; rfl), hide (by rw [spCells_append]; exact H5.out), V5⟩
        case measure => simp [intOf] <;> omega
    · obtain rfl : k = m := by omega
      have hki : ¬ (k : Int) < k := by omega
      have HE := hide (show l = L by
        have h1 := hl9.out
        rw [Nat.sub_self] at h1
        simpa [partsGo] using h1)
      go_wp2_with fail
      go_ret
      have e := HE.out
      subst e
      rw [← hnl.out]
      exact ⟨A, cc, rfl, it_own_less hown.out (Nat.zero_le _), hu.out⟩
end Go.Proofs.Ytpkeimdlcafcnaa

namespace Go.Proofs.Ytpkeimdlcafcnaa
open Go.RowKit
set_option maxRecDepth 100000
set_option maxHeartbeats 20000000

def kindS (x0 : Int) : Int := if 5 < 1 + pickS x0 7 then 1 else 1 + pickS x0 7
def lenS (x1 : Int) : Int := 1 + pickS x1 400
def madeS (id x0 x1 x2 x3 x4 x5 : Int) : It :=
  ⟨pickS id 200, kindS x0, lenS x1, partsS x2 (lenS x1), partsS x3 (lenS x1), if kindS x0 = 1 then pickS x4 6 else 0, if kindS x0 = 1 then 1 + pickS (x4.tdiv 6) 5 else 0, if kindS x0 = 1 then 1 + pickS x5 4 else 0⟩
theorem madeS_ok (id x0 x1 x2 x3 x4 x5 : Int) : ItOk (madeS id x0 x1 x2 x3 x4 x5) := by
  have a := pickS_bounds id 200 (by omega)
  have b := pickS_bounds x0 7 (by omega)
  have c := pickS_bounds x1 400 (by omega)
  have d := pickS_bounds x4 6 (by omega)
  have e := pickS_bounds (x4.tdiv 6) 5 (by omega)
  have f := pickS_bounds x5 4 (by omega)
  have hk : 1 ≤ kindS x0 ∧ kindS x0 ≤ 5 := by unfold kindS; split <;> omega
  have hl : 1 ≤ lenS x1 ∧ lenS x1 ≤ 400 := by unfold lenS; omega
  have h2 := partsS_ok x2 (lenS x1) hl.1
  have h3 := partsS_ok x3 (lenS x1) hl.1
  refine ⟨⟨a, hk, by show 1 ≤ lenS x1 ∧ lenS x1 ≤ 3600; omega⟩, ⟨h2.1, h3.1⟩, h2.2, ?_⟩
  unfold KindOk madeS
  dsimp only
  by_cases h : kindS x0 = 1
  · rw [if_pos h, if_pos h, if_pos h]
    exact .inl ⟨h, by omega, by omega, by omega⟩
  · rw [if_neg h, if_neg h, if_neg h]
    exact .inr ⟨h, rfl, rfl, rfl⟩

/-- A recording in memory: its lists, below the heap's end. -/
structure ItAt (w : World) (i : It) (ta ka : Option Addr) : Prop where
  trims : SpsAt w.heap.size w ta i.trims
  talks : SpsAt w.heap.size w ka i.talks
theorem SpsAt.mono2 {n₀ n₁ : Nat} {w : World} {a : Option Addr} {l : List Sp} (h : SpsAt n₀ w a l) (hn : n₀ ≤ n₁) : SpsAt n₁ w a l := h.mono hn
theorem ItAt.upd {w w' : World} {i : It} {ta ka : Option Addr} (h : ItAt w i ta ka) (hu : Upd [] w w') : ItAt w' i ta ka :=
  ⟨(h.trims.upd hu (Nat.le_refl _) (by simp)).mono hu.size, (h.talks.upd hu (Nat.le_refl _) (by simp)).mono hu.size⟩
theorem own_sps {w : World} {base e n : Nat} {A : Option Addr} {c : Nat} {l : List Sp} (h : w.ownsRow base e 2 (.slice A n c) n (spCells l)) : SpsAt w.heap.size w A l := by
  intro k s hs
  have hk := (List.getElem?_eq_some_iff.1 hs).1
  obtain ⟨h1, h2⟩ := spCells_at hs
  rcases h.2 with ⟨hv, h0⟩ | ⟨g, cap, cur, hv, _, hg, _⟩
  · have h3 := h.1
    rw [spCells_length] at h3
    omega
  · obtain ⟨rfl, rfl⟩ : A = some ⟨g, 0, none⟩ ∧ c = cap := by simpa using hv
    have e : ∀ j, (⟨g, 0, none⟩ : Addr).add j = ⟨g, j, none⟩ := fun j => by unfold Addr.add; split <;> simp_all
    have c0 := World.ownsRow.cells h (g := g) rfl _ _ h1
    have c1 := World.ownsRow.cells h (g := g) rfl _ _ h2
    rw [e] at c0 c1
    exact ⟨g, 0, rfl, (Array.getElem?_eq_some_iff.1 hg).1, by rw [Nat.zero_add]; exact c0, by rw [Nat.zero_add]; exact c1⟩

def Fits64 (c : Int) : Prop := -9223372036854775808 ≤ c ∧ c ≤ 9223372036854775807
theorem made_any (id x0 x1 x2 x3 x4 x5 : Int) (w : World) (hid : Fits64 id) (h0 : Fits64 x0) (h1 : Fits64 x1) (h2 : Fits64 x2) (h3 : Fits64 x3) (h4 : Fits64 x4) (h5 : Fits64 x5) (i : It) (hi : madeS id x0 x1 x2 x3 x4 x5 = i) :
    Calls Try.prog 10 #[.int .i64 id, .agg #[.int .i64 x0, .int .i64 x1, .int .i64 x2, .int .i64 x3, .int .i64 x4, .int .i64 x5]] w fun e w' => ∃ ta tc ka kc, e = .returned (.agg #[.int .i64 i.id, .int .i64 i.kind, .int .i64 i.len, .slice ta i.trims.length tc, .slice ka i.talks.length kc, .int .i64 i.artist, .int .i64 i.tempo, .int .i64 i.lang]) ∧ ItAt w' i ta ka ∧ Upd [] w w' := by
  obtain ⟨p, hp⟩ : ∃ p, pickS id 200 = p := ⟨_, rfl⟩
  obtain ⟨k0, hk0⟩ : ∃ p, pickS x0 7 = p := ⟨_, rfl⟩
  obtain ⟨l0, hl0⟩ : ∃ p, pickS x1 400 = p := ⟨_, rfl⟩
  have PA := fun W => refPick id 200 W hid.1 hid.2 (by omega) (by omega)
  have PB := fun W => refPick x0 7 W h0.1 h0.2 (by omega) (by omega)
  have PC := fun W => refPick x1 400 W h1.1 h1.2 (by omega) (by omega)
  have bp := pickS_bounds id 200 (by omega)
  have bk := pickS_bounds x0 7 (by omega)
  have bl := pickS_bounds x1 400 (by omega)
  rw [hp] at PA bp
  rw [hk0] at PB bk
  rw [hl0] at PC bl
  obtain ⟨bk1, bk2⟩ := bk
  obtain ⟨bl1, bl2⟩ := bl
  have HI := hide hi
  have HP := hide hp
  have HK0 := hide hk0
  have HL0 := hide hl0
  have QA := hide PA
  have QB := hide PB
  have QC := hide PC
  have F2 := hide h2
  have F3 := hide h3
  have F4 := hide h4
  have F5 := hide h5
  obtain ⟨wa, hwa⟩ : ∃ wa, w.alloc (.cells #[.int .i64 x0, .int .i64 x1, .int .i64 x2, .int .i64 x3, .int .i64 x4, .int .i64 x5] 25) = wa := ⟨_, rfl⟩
  have L1 : Blk wa w.heap.size 25 [.int .i64 x0, .int .i64 x1, .int .i64 x2, .int .i64 x3, .int .i64 x4, .int .i64 x5] := by rw [← hwa]; exact Blk.new w _ _
  have u1 : Upd [] w wa := by rw [← hwa]; exact (Upd.refl [] w).alloc _
  have hszA : wa.heap.size = w.heap.size + 1 := by rw [← hwa]; simp
  have BX := hide L1
  have U1 := hide u1
  have HWA := hide hwa
  have HZA := hide hszA
  clear PA PB PC hp hk0 hl0 h2 h3 h4 h5 hi L1 u1 hwa bp hid h0 h1 hszA
  go_enter Try.func10, Try.ntmps10
  go_wp2_with fail
  rw [HWA.out]
  obtain ⟨wb, hwb⟩ : ∃ wb, wa.alloc (.cells #[.int .i64 0, .int .i64 0, .int .i64 0, .slice none 0 0, .slice none 0 0, .int .i64 0, .int .i64 0, .int .i64 0] 24) = wb := ⟨_, rfl⟩
  have u2 : Upd [] w wb := by rw [← hwb]; exact U1.out.alloc _
  have L2 : Blk wb (w.heap.size + 1) 24 [.int .i64 0, .int .i64 0, .int .i64 0, .slice none 0 0, .slice none 0 0, .int .i64 0, .int .i64 0, .int .i64 0] := by
    have := Blk.new wa 24 [.int .i64 0, .int .i64 0, .int .i64 0, .slice none 0 0, .slice none 0 0, .int .i64 0, .int .i64 0, .int .i64 0]
    rw [← hwb]
    rw [HZA.out] at this
    exact this
  have L3 : Blk wb w.heap.size 25 [.int .i64 x0, .int .i64 x1, .int .i64 x2, .int .i64 x3, .int .i64 x4, .int .i64 x5] := by
    rw [← hwb]
    exact BX.out.alloc _
  rw [hwb]
  have U2 := hide u2
  have BR := hide L2
  have BX2 := hide L3
  clear hwb u2 L2 L3
  have SX := hide (show ∀ W, Upd [] wb W → W.cell? ⟨w.heap.size, 0, none⟩ = some (.int .i64 x0) ∧ W.cell? ⟨w.heap.size, 1, none⟩ = some (.int .i64 x1) from fun W hW => ⟨keepc _ _ _ _ hW (BX2.out.cell 0), keepc _ _ _ _ hW (BX2.out.cell 1)⟩)
  have U0 := hide ((Upd.refl [] wb).drew)
  have hw1 : IntKind.i64.wrap (1 + k0) = 1 + k0 := Go.IntWalk.i64_in _ (by omega)
  have hw2 : IntKind.i64.wrap (1 + l0) = 1 + l0 := Go.IntWalk.i64_in _ (by omega)
  go_upto_region 2 with fail
  go_cut [5] from 6 to 16 (fun s5 wx => ∃ g, s5 = .pointer (some ⟨g, 0, none⟩) ∧ Hid (wb.heap.size ≤ g) ∧ Hid (Blk wx g 24 [.int .i64 p, .int .i64 (1 + k0), .int .i64 (1 + l0), .slice none 0 0, .slice none 0 0, .int .i64 0, .int .i64 0, .int .i64 0]) ∧ Hid (Upd [] wb wx))
  case first =>
    refine wp_region_held_drew (S := (fun w' => w'.cell? ⟨w.heap.size, 0, none⟩ = some (.int .i64 x0) ∧ w'.cell? ⟨w.heap.size, 1, none⟩ = some (.int .i64 x1))) (by kernel_rfl) (SX.out _ U0.out) (fun hHeld => ?_)
    obtain ⟨wD, hwD⟩ : ∃ wD, wb.drew = wD := ⟨_, rfl⟩
    rw [hwD] at U0 hHeld ⊢
    clear hwD
    refine wpAnyH_take (i := 0) (oi := ?oi0R1) (v := ?v0R1) ?oi0_0R1 (by kernel_rfl) ?ff0R1 ?rr0R1 ?hq0R1 (Or.inl ⟨?hw0R1, ?hy0R1⟩) (by assumption) ?rest0R1
    case oi0_0R1 =>
      conv =>
        lhs
        whnf
        arg 1
        whnf
    case hq0R1 => exact fun _ _ _ h => h
    case ff0R1 => kernel_rfl
    case rr0R1 => kernel_rfl
    case hw0R1 => rfl
    case hy0R1 =>
      intro w hSw
      (try dsimp only at hSw)
      first
      | (go_simp; done)
      | (go_simp; with_reducible rfl)
    try simp only [Act.put, List.setIfInBounds_toArray, List.set_cons_zero, List.set_cons_succ]
    refine wpAnyH_take (i := 2) (oi := ?oi2R1) (v := ?v2R1) ?oi0_2R1 (by kernel_rfl) ?ff2R1 ?rr2R1 ?hq2R1 (Or.inl ⟨?hw2R1, ?hy2R1⟩) (by assumption) ?rest2R1
    case oi0_2R1 =>
      conv =>
        lhs
        whnf
        arg 1
        whnf
    case hq2R1 => exact fun _ _ _ h => h
    case ff2R1 => kernel_rfl
    case rr2R1 => kernel_rfl
    case hw2R1 => rfl
    case hy2R1 =>
      intro w hSw
      (try dsimp only at hSw)
      first
      | (go_simp; done)
      | (go_simp; with_reducible rfl)
    try simp only [Act.put, List.setIfInBounds_toArray, List.set_cons_zero, List.set_cons_succ]
    refine wpAnyH_take (i := 3) (oi := ?oi3R1) (v := ?v3R1) ?oi0_3R1 (by kernel_rfl) ?ff3R1 ?rr3R1 ?hq3R1 (Or.inl ⟨?hw3R1, ?hy3R1⟩) (by assumption) ?rest3R1
    case oi0_3R1 =>
      conv =>
        lhs
        whnf
        arg 1
        whnf
    case hq3R1 => exact fun _ _ _ h => h
    case ff3R1 => kernel_rfl
    case rr3R1 => kernel_rfl
    case hw3R1 => rfl
    case hy3R1 =>
      intro w hSw
      (try dsimp only at hSw)
      first
      | (go_simp; done)
      | (go_simp; with_reducible rfl)
    try simp only [Act.put, List.setIfInBounds_toArray, List.set_cons_zero, List.set_cons_succ]
    refine wpAnyH_take (i := 6) (oi := ?oi6R1) (v := ?v6R1) ?oi0_6R1 (by kernel_rfl) ?ff6R1 ?rr6R1 ?hq6R1 (Or.inl ⟨?hw6R1, ?hy6R1⟩) (by assumption) ?rest6R1
    case oi0_6R1 =>
      conv =>
        lhs
        whnf
        arg 1
        whnf
    case hq6R1 => exact fun _ _ _ h => h
    case ff6R1 => kernel_rfl
    case rr6R1 => kernel_rfl
    case hw6R1 => rfl
    case hy6R1 =>
      intro w hSw
      (try dsimp only at hSw)
      first
      | (go_simp; done)
      | (go_simp; with_reducible rfl)
    try simp only [Act.put, List.setIfInBounds_toArray, List.set_cons_zero, List.set_cons_succ]
    refine wpAnyH_take (i := 7) (oi := ?oi7R1) (v := ?v7R1) ?oi0_7R1 (by kernel_rfl) ?ff7R1 ?rr7R1 ?hq7R1 (Or.inl ⟨?hw7R1, ?hy7R1⟩) (by assumption) ?rest7R1
    case oi0_7R1 =>
      conv =>
        lhs
        whnf
        arg 1
        whnf
    case hq7R1 => exact fun _ _ _ h => h
    case ff7R1 => kernel_rfl
    case rr7R1 => kernel_rfl
    case hw7R1 => rfl
    case hy7R1 =>
      intro w hSw
      (try dsimp only at hSw)
      first
      | (go_simp; done)
      | (go_simp; with_reducible rfl)
    try simp only [Act.put, List.setIfInBounds_toArray, List.set_cons_zero, List.set_cons_succ]
    refine wpAnyH_ready (rs := [1, 11]) (by kernel_rfl) (by simp) (AllReadyH.cons (o := ?oi1R24) ?oi0_1R24 (fun K hK => ?k1R24) (AllReadyH.cons (o := ?oi11R24) ?oi0_11R24 (fun K hK => ?k11R24) (AllReadyH.nil)))
    case oi0_1R24 =>
      conv =>
        lhs
        whnf
        arg 1
        whnf
    case oi0_11R24 =>
      conv =>
        lhs
        whnf
        arg 1
        whnf
    case k1R24 =>
      go_simp
      go_at_call 39
      with_reducible (refine (QA.out _).mono ?_)
      rintro e w9 ⟨rfl, rfl⟩
      (try dsimp only)
      refine hK.out _ _ (SX.out _ U0.out) (fun hHeld => ?_)
      clear hK K
      try simp only [Act.put, List.setIfInBounds_toArray, List.set_cons_zero, List.set_cons_succ]
      refine wpAnyH_ready (rs := [4, 11]) (by kernel_rfl) (by simp) (AllReadyH.cons (o := ?oi4R16) ?oi0_4R16 (fun K hK => ?k4R16) (AllReadyH.cons (o := ?oi11R16) ?oi0_11R16 (fun K hK => ?k11R16) (AllReadyH.nil)))
      case oi0_4R16 =>
        conv =>
          lhs
          whnf
          arg 1
          whnf
      case oi0_11R16 =>
        conv =>
          lhs
          whnf
          arg 1
          whnf
      case k4R16 =>
        go_simp
        go_at_call 39
        with_reducible (refine (QB.out _).mono ?_)
        rintro e w9 ⟨rfl, rfl⟩
        (try dsimp only)
        refine hK.out _ _ (SX.out _ U0.out) (fun hHeld => ?_)
        clear hK K
        try simp only [Act.put, List.setIfInBounds_toArray, List.set_cons_zero, List.set_cons_succ]
        refine wpAnyH_take (i := 5) (oi := ?oi5R3) (v := ?v5R3) ?oi0_5R3 (by kernel_rfl) ?ff5R3 ?rr5R3 ?hq5R3 (Or.inl ⟨?hw5R3, ?hy5R3⟩) (by assumption) ?rest5R3
        case oi0_5R3 =>
          conv =>
            lhs
            whnf
            arg 1
            whnf
        case hq5R3 => exact fun _ _ _ h => h
        case ff5R3 => kernel_rfl
        case rr5R3 => kernel_rfl
        case hw5R3 => rfl
        case hy5R3 =>
          intro w hSw
          (try dsimp only at hSw)
          first
          | (go_simp; done)
          | (go_simp; with_reducible rfl)
        try simp only [Act.put, List.setIfInBounds_toArray, List.set_cons_zero, List.set_cons_succ]
        refine wpAnyH_ready (rs := [8, 11]) (by kernel_rfl) (by simp) (AllReadyH.cons (o := ?oi8R10) ?oi0_8R10 (fun K hK => ?k8R10) (AllReadyH.cons (o := ?oi11R10) ?oi0_11R10 (fun K hK => ?k11R10) (AllReadyH.nil)))
        case oi0_8R10 =>
          conv =>
            lhs
            whnf
            arg 1
            whnf
        case oi0_11R10 =>
          conv =>
            lhs
            whnf
            arg 1
            whnf
        case k8R10 =>
          go_simp
          go_at_call 39
          with_reducible (refine (QC.out _).mono ?_)
          rintro e w9 ⟨rfl, rfl⟩
          (try dsimp only)
          refine hK.out _ _ (SX.out _ U0.out) (fun hHeld => ?_)
          clear hK K
          try simp only [Act.put, List.setIfInBounds_toArray, List.set_cons_zero, List.set_cons_succ]
          refine wpAnyH_take (i := 9) (oi := ?oi9R4) (v := ?v9R4) ?oi0_9R4 (by kernel_rfl) ?ff9R4 ?rr9R4 ?hq9R4 (Or.inl ⟨?hw9R4, ?hy9R4⟩) (by assumption) ?rest9R4
          case oi0_9R4 =>
            conv =>
              lhs
              whnf
              arg 1
              whnf
          case hq9R4 => exact fun _ _ _ h => h
          case ff9R4 => kernel_rfl
          case rr9R4 => kernel_rfl
          case hw9R4 => rfl
          case hy9R4 =>
            intro w hSw
            (try dsimp only at hSw)
            first
            | (go_simp; done)
            | (go_simp; with_reducible rfl)
          try simp only [Act.put, List.setIfInBounds_toArray, List.set_cons_zero, List.set_cons_succ]
          refine wpAnyH_take (i := 10) (oi := ?oi10R4) (v := ?v10R4) ?oi0_10R4 (by kernel_rfl) ?ff10R4 ?rr10R4 ?hq10R4 (Or.inl ⟨?hw10R4, ?hy10R4⟩) (by assumption) ?rest10R4
          case oi0_10R4 =>
            conv =>
              lhs
              whnf
              arg 1
              whnf
          case hq10R4 => exact fun _ _ _ h => h
          case ff10R4 => kernel_rfl
          case rr10R4 => kernel_rfl
          case hw10R4 => rfl
          case hy10R4 =>
            intro w hSw
            (try dsimp only at hSw)
            first
            | (go_simp; done)
            | (go_simp; with_reducible rfl)
          try simp only [Act.put, List.setIfInBounds_toArray, List.set_cons_zero, List.set_cons_succ]
          refine wpAnyH_ready (rs := [11]) (by kernel_rfl) (by simp) (AllReadyH.cons (o := ?oi11R6) ?oi0_11R6 (fun K hK => ?k11R6) (AllReadyH.nil))
          case oi0_11R6 =>
            conv =>
              lhs
              whnf
              arg 1
              whnf
          case k11R6 =>
            go_simp
            (try dsimp only)
            refine hK.out _ _ (SX.out _ (U0.out.alloc _)) (fun hHeld => ?_)
            clear hK K
            try simp only [Act.put, List.setIfInBounds_toArray, List.set_cons_zero, List.set_cons_succ]
            refine wpAnyH_ready (rs := [12]) (by kernel_rfl) (by simp) (AllReadyH.cons (o := ?oi12R5) ?oi0_12R5 (fun K hK => ?_) AllReadyH.nil)
            case oi0_12R5 =>
              conv =>
                lhs
                whnf
                arg 1
                whnf
            go_simp
            (try dsimp only)
            refine hK.out _ _ (SX.out _ (U0.out.alloc _)) (fun hHeld => ?_)
            clear hK K
            try simp only [Act.put, List.setIfInBounds_toArray, List.set_cons_zero, List.set_cons_succ]
            refine wpAnyH_done (by kernel_rfl) ?_ _
            go_wp2_with fail
            go_meet
            exact ⟨wD.heap.size, rfl, U0.out.size, Blk.new wD 24 [.int .i64 p, .int .i64 (1 + k0), .int .i64 (1 + l0), .slice none 0 0, .slice none 0 0, .int .i64 0, .int .i64 0, .int .i64 0], U0.out.alloc _⟩
        case k11R10 =>
          go_simp
          (try dsimp only)
          refine hK.out _ _ (SX.out _ (U0.out.alloc _)) (fun hHeld => ?_)
          clear hK K
          try simp only [Act.put, List.setIfInBounds_toArray, List.set_cons_zero, List.set_cons_succ]
          refine wpAnyH_ready (rs := [8]) (by kernel_rfl) (by simp) (AllReadyH.cons (o := ?oi8R9) ?oi0_8R9 (fun K hK => ?k8R9) (AllReadyH.nil))
          case oi0_8R9 =>
            conv =>
              lhs
              whnf
              arg 1
              whnf
          case k8R9 =>
            go_simp
            go_at_call 39
            with_reducible (refine (QC.out _).mono ?_)
            rintro e w9 ⟨rfl, rfl⟩
            (try dsimp only)
            refine hK.out _ _ (SX.out _ (U0.out.alloc _)) (fun hHeld => ?_)
            clear hK K
            try simp only [Act.put, List.setIfInBounds_toArray, List.set_cons_zero, List.set_cons_succ]
            refine wpAnyH_take (i := 9) (oi := ?oi9R7) (v := ?v9R7) ?oi0_9R7 (by kernel_rfl) ?ff9R7 ?rr9R7 ?hq9R7 (Or.inl ⟨?hw9R7, ?hy9R7⟩) (by assumption) ?rest9R7
            case oi0_9R7 =>
              conv =>
                lhs
                whnf
                arg 1
                whnf
            case hq9R7 => exact fun _ _ _ h => h
            case ff9R7 => kernel_rfl
            case rr9R7 => kernel_rfl
            case hw9R7 => rfl
            case hy9R7 =>
              intro w hSw
              (try dsimp only at hSw)
              first
              | (go_simp; done)
              | (go_simp; with_reducible rfl)
            try simp only [Act.put, List.setIfInBounds_toArray, List.set_cons_zero, List.set_cons_succ]
            refine wpAnyH_take (i := 10) (oi := ?oi10R7) (v := ?v10R7) ?oi0_10R7 (by kernel_rfl) ?ff10R7 ?rr10R7 ?hq10R7 (Or.inl ⟨?hw10R7, ?hy10R7⟩) (by assumption) ?rest10R7
            case oi0_10R7 =>
              conv =>
                lhs
                whnf
                arg 1
                whnf
            case hq10R7 => exact fun _ _ _ h => h
            case ff10R7 => kernel_rfl
            case rr10R7 => kernel_rfl
            case hw10R7 => rfl
            case hy10R7 =>
              intro w hSw
              (try dsimp only at hSw)
              first
              | (go_simp; done)
              | (go_simp; with_reducible rfl)
            try simp only [Act.put, List.setIfInBounds_toArray, List.set_cons_zero, List.set_cons_succ]
            refine wpAnyH_ready (rs := [12]) (by kernel_rfl) (by simp) (AllReadyH.cons (o := ?oi12R8) ?oi0_12R8 (fun K hK => ?_) AllReadyH.nil)
            case oi0_12R8 =>
              conv =>
                lhs
                whnf
                arg 1
                whnf
            go_simp
            (try dsimp only)
            refine hK.out _ _ (SX.out _ (U0.out.alloc _)) (fun hHeld => ?_)
            clear hK K
            try simp only [Act.put, List.setIfInBounds_toArray, List.set_cons_zero, List.set_cons_succ]
            refine wpAnyH_done (by kernel_rfl) ?_ _
            go_wp2_with fail
            go_meet
            exact ⟨wD.heap.size, rfl, U0.out.size, Blk.new wD 24 [.int .i64 p, .int .i64 (1 + k0), .int .i64 (1 + l0), .slice none 0 0, .slice none 0 0, .int .i64 0, .int .i64 0, .int .i64 0], U0.out.alloc _⟩
      case k11R16 =>
        go_simp
        (try dsimp only)
        refine hK.out _ _ (SX.out _ (U0.out.alloc _)) (fun hHeld => ?_)
        clear hK K
        try simp only [Act.put, List.setIfInBounds_toArray, List.set_cons_zero, List.set_cons_succ]
        refine wpAnyH_ready (rs := [4]) (by kernel_rfl) (by simp) (AllReadyH.cons (o := ?oi4R15) ?oi0_4R15 (fun K hK => ?k4R15) (AllReadyH.nil))
        case oi0_4R15 =>
          conv =>
            lhs
            whnf
            arg 1
            whnf
        case k4R15 =>
          go_simp
          go_at_call 39
          with_reducible (refine (QB.out _).mono ?_)
          rintro e w9 ⟨rfl, rfl⟩
          (try dsimp only)
          refine hK.out _ _ (SX.out _ (U0.out.alloc _)) (fun hHeld => ?_)
          clear hK K
          try simp only [Act.put, List.setIfInBounds_toArray, List.set_cons_zero, List.set_cons_succ]
          refine wpAnyH_take (i := 5) (oi := ?oi5R11) (v := ?v5R11) ?oi0_5R11 (by kernel_rfl) ?ff5R11 ?rr5R11 ?hq5R11 (Or.inl ⟨?hw5R11, ?hy5R11⟩) (by assumption) ?rest5R11
          case oi0_5R11 =>
            conv =>
              lhs
              whnf
              arg 1
              whnf
          case hq5R11 => exact fun _ _ _ h => h
          case ff5R11 => kernel_rfl
          case rr5R11 => kernel_rfl
          case hw5R11 => rfl
          case hy5R11 =>
            intro w hSw
            (try dsimp only at hSw)
            first
            | (go_simp; done)
            | (go_simp; with_reducible rfl)
          try simp only [Act.put, List.setIfInBounds_toArray, List.set_cons_zero, List.set_cons_succ]
          refine wpAnyH_ready (rs := [8]) (by kernel_rfl) (by simp) (AllReadyH.cons (o := ?oi8R14) ?oi0_8R14 (fun K hK => ?k8R14) (AllReadyH.nil))
          case oi0_8R14 =>
            conv =>
              lhs
              whnf
              arg 1
              whnf
          case k8R14 =>
            go_simp
            go_at_call 39
            with_reducible (refine (QC.out _).mono ?_)
            rintro e w9 ⟨rfl, rfl⟩
            (try dsimp only)
            refine hK.out _ _ (SX.out _ (U0.out.alloc _)) (fun hHeld => ?_)
            clear hK K
            try simp only [Act.put, List.setIfInBounds_toArray, List.set_cons_zero, List.set_cons_succ]
            refine wpAnyH_take (i := 9) (oi := ?oi9R12) (v := ?v9R12) ?oi0_9R12 (by kernel_rfl) ?ff9R12 ?rr9R12 ?hq9R12 (Or.inl ⟨?hw9R12, ?hy9R12⟩) (by assumption) ?rest9R12
            case oi0_9R12 =>
              conv =>
                lhs
                whnf
                arg 1
                whnf
            case hq9R12 => exact fun _ _ _ h => h
            case ff9R12 => kernel_rfl
            case rr9R12 => kernel_rfl
            case hw9R12 => rfl
            case hy9R12 =>
              intro w hSw
              (try dsimp only at hSw)
              first
              | (go_simp; done)
              | (go_simp; with_reducible rfl)
            try simp only [Act.put, List.setIfInBounds_toArray, List.set_cons_zero, List.set_cons_succ]
            refine wpAnyH_take (i := 10) (oi := ?oi10R12) (v := ?v10R12) ?oi0_10R12 (by kernel_rfl) ?ff10R12 ?rr10R12 ?hq10R12 (Or.inl ⟨?hw10R12, ?hy10R12⟩) (by assumption) ?rest10R12
            case oi0_10R12 =>
              conv =>
                lhs
                whnf
                arg 1
                whnf
            case hq10R12 => exact fun _ _ _ h => h
            case ff10R12 => kernel_rfl
            case rr10R12 => kernel_rfl
            case hw10R12 => rfl
            case hy10R12 =>
              intro w hSw
              (try dsimp only at hSw)
              first
              | (go_simp; done)
              | (go_simp; with_reducible rfl)
            try simp only [Act.put, List.setIfInBounds_toArray, List.set_cons_zero, List.set_cons_succ]
            refine wpAnyH_ready (rs := [12]) (by kernel_rfl) (by simp) (AllReadyH.cons (o := ?oi12R13) ?oi0_12R13 (fun K hK => ?_) AllReadyH.nil)
            case oi0_12R13 =>
              conv =>
                lhs
                whnf
                arg 1
                whnf
            go_simp
            (try dsimp only)
            refine hK.out _ _ (SX.out _ (U0.out.alloc _)) (fun hHeld => ?_)
            clear hK K
            try simp only [Act.put, List.setIfInBounds_toArray, List.set_cons_zero, List.set_cons_succ]
            refine wpAnyH_done (by kernel_rfl) ?_ _
            go_wp2_with fail
            go_meet
            exact ⟨wD.heap.size, rfl, U0.out.size, Blk.new wD 24 [.int .i64 p, .int .i64 (1 + k0), .int .i64 (1 + l0), .slice none 0 0, .slice none 0 0, .int .i64 0, .int .i64 0, .int .i64 0], U0.out.alloc _⟩
    case k11R24 =>
      go_simp
      (try dsimp only)
      refine hK.out _ _ (SX.out _ (U0.out.alloc _)) (fun hHeld => ?_)
      clear hK K
      try simp only [Act.put, List.setIfInBounds_toArray, List.set_cons_zero, List.set_cons_succ]
      refine wpAnyH_ready (rs := [1]) (by kernel_rfl) (by simp) (AllReadyH.cons (o := ?oi1R23) ?oi0_1R23 (fun K hK => ?k1R23) (AllReadyH.nil))
      case oi0_1R23 =>
        conv =>
          lhs
          whnf
          arg 1
          whnf
      case k1R23 =>
        go_simp
        go_at_call 39
        with_reducible (refine (QA.out _).mono ?_)
        rintro e w9 ⟨rfl, rfl⟩
        (try dsimp only)
        refine hK.out _ _ (SX.out _ (U0.out.alloc _)) (fun hHeld => ?_)
        clear hK K
        try simp only [Act.put, List.setIfInBounds_toArray, List.set_cons_zero, List.set_cons_succ]
        refine wpAnyH_ready (rs := [4]) (by kernel_rfl) (by simp) (AllReadyH.cons (o := ?oi4R22) ?oi0_4R22 (fun K hK => ?k4R22) (AllReadyH.nil))
        case oi0_4R22 =>
          conv =>
            lhs
            whnf
            arg 1
            whnf
        case k4R22 =>
          go_simp
          go_at_call 39
          with_reducible (refine (QB.out _).mono ?_)
          rintro e w9 ⟨rfl, rfl⟩
          (try dsimp only)
          refine hK.out _ _ (SX.out _ (U0.out.alloc _)) (fun hHeld => ?_)
          clear hK K
          try simp only [Act.put, List.setIfInBounds_toArray, List.set_cons_zero, List.set_cons_succ]
          refine wpAnyH_take (i := 5) (oi := ?oi5R18) (v := ?v5R18) ?oi0_5R18 (by kernel_rfl) ?ff5R18 ?rr5R18 ?hq5R18 (Or.inl ⟨?hw5R18, ?hy5R18⟩) (by assumption) ?rest5R18
          case oi0_5R18 =>
            conv =>
              lhs
              whnf
              arg 1
              whnf
          case hq5R18 => exact fun _ _ _ h => h
          case ff5R18 => kernel_rfl
          case rr5R18 => kernel_rfl
          case hw5R18 => rfl
          case hy5R18 =>
            intro w hSw
            (try dsimp only at hSw)
            first
            | (go_simp; done)
            | (go_simp; with_reducible rfl)
          try simp only [Act.put, List.setIfInBounds_toArray, List.set_cons_zero, List.set_cons_succ]
          refine wpAnyH_ready (rs := [8]) (by kernel_rfl) (by simp) (AllReadyH.cons (o := ?oi8R21) ?oi0_8R21 (fun K hK => ?k8R21) (AllReadyH.nil))
          case oi0_8R21 =>
            conv =>
              lhs
              whnf
              arg 1
              whnf
          case k8R21 =>
            go_simp
            go_at_call 39
            with_reducible (refine (QC.out _).mono ?_)
            rintro e w9 ⟨rfl, rfl⟩
            (try dsimp only)
            refine hK.out _ _ (SX.out _ (U0.out.alloc _)) (fun hHeld => ?_)
            clear hK K
            try simp only [Act.put, List.setIfInBounds_toArray, List.set_cons_zero, List.set_cons_succ]
            refine wpAnyH_take (i := 9) (oi := ?oi9R19) (v := ?v9R19) ?oi0_9R19 (by kernel_rfl) ?ff9R19 ?rr9R19 ?hq9R19 (Or.inl ⟨?hw9R19, ?hy9R19⟩) (by assumption) ?rest9R19
            case oi0_9R19 =>
              conv =>
                lhs
                whnf
                arg 1
                whnf
            case hq9R19 => exact fun _ _ _ h => h
            case ff9R19 => kernel_rfl
            case rr9R19 => kernel_rfl
            case hw9R19 => rfl
            case hy9R19 =>
              intro w hSw
              (try dsimp only at hSw)
              first
              | (go_simp; done)
              | (go_simp; with_reducible rfl)
            try simp only [Act.put, List.setIfInBounds_toArray, List.set_cons_zero, List.set_cons_succ]
            refine wpAnyH_take (i := 10) (oi := ?oi10R19) (v := ?v10R19) ?oi0_10R19 (by kernel_rfl) ?ff10R19 ?rr10R19 ?hq10R19 (Or.inl ⟨?hw10R19, ?hy10R19⟩) (by assumption) ?rest10R19
            case oi0_10R19 =>
              conv =>
                lhs
                whnf
                arg 1
                whnf
            case hq10R19 => exact fun _ _ _ h => h
            case ff10R19 => kernel_rfl
            case rr10R19 => kernel_rfl
            case hw10R19 => rfl
            case hy10R19 =>
              intro w hSw
              (try dsimp only at hSw)
              first
              | (go_simp; done)
              | (go_simp; with_reducible rfl)
            try simp only [Act.put, List.setIfInBounds_toArray, List.set_cons_zero, List.set_cons_succ]
            refine wpAnyH_ready (rs := [12]) (by kernel_rfl) (by simp) (AllReadyH.cons (o := ?oi12R20) ?oi0_12R20 (fun K hK => ?_) AllReadyH.nil)
            case oi0_12R20 =>
              conv =>
                lhs
                whnf
                arg 1
                whnf
            go_simp
            (try dsimp only)
            refine hK.out _ _ (SX.out _ (U0.out.alloc _)) (fun hHeld => ?_)
            clear hK K
            try simp only [Act.put, List.setIfInBounds_toArray, List.set_cons_zero, List.set_cons_succ]
            refine wpAnyH_done (by kernel_rfl) ?_ _
            go_wp2_with fail
            go_meet
            exact ⟨wD.heap.size, rfl, U0.out.size, Blk.new wD 24 [.int .i64 p, .int .i64 (1 + k0), .int .i64 (1 + l0), .slice none 0 0, .slice none 0 0, .int .i64 0, .int .i64 0, .int .i64 0], U0.out.alloc _⟩
  case rest =>
    obtain ⟨g, rfl, hg, hB, hU⟩ := hcut
    have c1 := hB.out.cell 1
    have f1 := hB.out.frozen 1
    obtain ⟨kd, hkd⟩ : ∃ k, kindS x0 = k := ⟨_, rfl⟩
    have hkb : 1 ≤ kd ∧ kd ≤ 5 := by rw [← hkd]; unfold kindS; rw [HK0.out]; split <;> omega
    have HKD := hide hkd
    obtain ⟨hkb1, hkb2⟩ := hkb
    clear hkd
    have hgw := hB.out.lt
    go_upto_if 19 with fail
    go_cut [] from 17 to 20 (fun wx => Hid (Blk wx g 24 [.int .i64 p, .int .i64 kd, .int .i64 (1 + l0), .slice none 0 0, .slice none 0 0, .int .i64 0, .int .i64 0, .int .i64 0]) ∧ Hid (Upd [] wb wx))
    case first =>
      by_cases h5 : 5 < 1 + k0
      · have e : kd = 1 := by rw [← HKD.out]; unfold kindS; rw [HK0.out, if_pos h5]
        have UN := hide (hU.out.setCell (p := ⟨g, 1, none⟩) (.inr hg.out) (.int .i64 1))
        have BN := hide (hB.out.set_ 1 (.int .i64 1))
        subst e
        go_wp2_with fail
        go_meet
        exact ⟨BN, UN⟩
      · have e : kd = 1 + k0 := by rw [← HKD.out]; unfold kindS; rw [HK0.out, if_neg h5]
        have h5' : ¬ 5 < 1 + k0 := h5
        subst e
        go_wp2_with fail
        go_meet
        exact ⟨hB, hU⟩
    case rest =>
      obtain ⟨hB2, hU2⟩ := hcut
      obtain ⟨wk, rfl⟩ : ∃ wk : World, wk = wc := ⟨_, rfl⟩
      obtain ⟨len, hlen⟩ : ∃ l, 1 + l0 = l := ⟨_, rfl⟩
      have hlb : 1 ≤ len ∧ len ≤ 400 := by omega
      rw [hlen] at hB2
      obtain ⟨hlb1, hlb2⟩ := hlb
      have HLEN := hide (show lenS x1 = len by unfold lenS; rw [HL0.out]; exact hlen)
      have X3 := hide (BX2.out.upd hU2.out (by simp))
      have y2 := X3.out.cell 2
      have z2 := hB2.out.cell 2
      have PT2 := hide (parts_any x2 len wk F2.out.1 F2.out.2 (by omega) (by omega))
      clear hlen c1 f1 hgw
      go_wp2_with fail
      refine PT2.out.mono ?_
      rintro e w5 ⟨ta, tc, rfl, ho5, u5⟩
      have B5 := hide (hB2.out.upd u5 (by simp))
      have X5 := hide (X3.out.upd u5 (by simp))
      have O5 := hide ho5
      have U5 := hide (hU2.out.trans u5 (by simp))
      have c5 := B5.out.cell 3
      have f5 := B5.out.frozen 3
      clear ho5 u5 y2 z2 PT2
      obtain ⟨tn, htn⟩ : ∃ n, (partsS x2 len).length = n := ⟨_, rfl⟩
      rw [htn] at O5 ⊢
      have HTN := hide htn
      obtain ⟨w6, hw6⟩ : ∃ x, w5.setCell ⟨g, 3, none⟩ (.slice ta tn tc) = x := ⟨_, rfl⟩
      have B6 := hide (show Blk w6 g 24 [.int .i64 p, .int .i64 kd, .int .i64 len, .slice ta tn tc, .slice none 0 0, .int .i64 0, .int .i64 0, .int .i64 0] by rw [← hw6]; exact B5.out.set_ 3 (.slice ta tn tc))
      have U6 := hide (show Upd [] wb w6 by rw [← hw6]; exact U5.out.setCell (.inr hg.out) _)
      have V6 := hide (show Upd [g] w5 w6 by rw [← hw6]; exact (Upd.refl _ _).setCell (.inl (by simp)) _)
      have hXg : w.heap.size ≠ g := by have := BX2.out.lt; have := hg.out; omega
      have X6 := hide (X5.out.upd V6.out (by simp; exact hXg))
      have O6 := hide (own_kept O5.out V6.out (fun k hk hm => own_blk_ne O5.out B5.out (by decide) k hk (by simpa using hm)))
      have HW6 := hide hw6
      have y3 : (w5.setCell ⟨g, 3, none⟩ (.slice ta tn tc)).cell? ⟨w.heap.size, 3, none⟩ = some (.int .i64 x3) := by rw [hw6]; exact X6.out.cell 3
      have z3 : (w5.setCell ⟨g, 3, none⟩ (.slice ta tn tc)).cell? ⟨g, 2, none⟩ = some (.int .i64 len) := by rw [hw6]; exact B6.out.cell 2
      have PT3 := hide (parts_any x3 len w6 F3.out.1 F3.out.2 (by omega) (by omega))
      clear hw6 htn
      go_wp2_with fail
      rw [HW6.out]
      refine PT3.out.mono ?_
      rintro e w7 ⟨ka, kc, rfl, ho7, u7⟩
      have B7 := hide (B6.out.upd u7 (by simp))
      have X7 := hide (X6.out.upd u7 (by simp))
      have OT7 := hide (own_kept O6.out u7 (by simp))
      have O7 := hide ho7
      have U7 := hide (U6.out.trans u7 (by simp))
      have c7 := B7.out.cell 4
      have f7 := B7.out.frozen 4
      clear ho7 u7 y3 z3 PT3 c5 f5
      obtain ⟨kn, hkn⟩ : ∃ n, (partsS x3 len).length = n := ⟨_, rfl⟩
      rw [hkn] at O7 ⊢
      have HKN := hide hkn
      obtain ⟨w8, hw8⟩ : ∃ x, w7.setCell ⟨g, 4, none⟩ (.slice ka kn kc) = x := ⟨_, rfl⟩
      have B8 := hide (show Blk w8 g 24 [.int .i64 p, .int .i64 kd, .int .i64 len, .slice ta tn tc, .slice ka kn kc, .int .i64 0, .int .i64 0, .int .i64 0] by rw [← hw8]; exact B7.out.set_ 4 (.slice ka kn kc))
      have U8 := hide (show Upd [] wb w8 by rw [← hw8]; exact U7.out.setCell (.inr hg.out) _)
      have V8 := hide (show Upd [g] w7 w8 by rw [← hw8]; exact (Upd.refl _ _).setCell (.inl (by simp)) _)
      have X8 := hide (X7.out.upd V8.out (by simp; exact hXg))
      have O8 := hide (own_kept O7.out V8.out (fun k hk hm => own_blk_ne O7.out B7.out (by decide) k hk (by simpa using hm)))
      have OT8 := hide (own_kept OT7.out V8.out (fun k hk hm => own_blk_ne OT7.out B7.out (by decide) k hk (by simpa using hm)))
      have HW8 := hide hw8
      have BR8 := hide (BR.out.upd U8.out (by simp))
      -- the rest: the three last fields
      have FIN := hide (show ∀ (W : World) (a t l : Int), (kd = 1 → a = pickS x4 6 ∧ t = 1 + pickS (x4.tdiv 6) 5 ∧ l = 1 + pickS x5 4) → (kd ≠ 1 → a = 0 ∧ t = 0 ∧ l = 0) → Upd [g, w.heap.size + 1] w8 W →
          ∃ ta' tc' ka' kc', Ending.returned (.agg #[.int .i64 p, .int .i64 kd, .int .i64 len, .slice ta tn tc, .slice ka kn kc, .int .i64 a, .int .i64 t, .int .i64 l]) = .returned (.agg #[.int .i64 i.id, .int .i64 i.kind, .int .i64 i.len, .slice ta' i.trims.length tc', .slice ka' i.talks.length kc', .int .i64 i.artist, .int .i64 i.tempo, .int .i64 i.lang]) ∧ ItAt W i ta' ka' ∧ Upd [] w W from fun W a t l hs hn hu8 => by
        have hmi : i = ⟨p, kd, len, partsS x2 len, partsS x3 len, a, t, l⟩ := by
          rw [← HI.out]
          unfold madeS
          rw [HP.out, HKD.out, HLEN.out]
          by_cases h1 : kd = 1
          · obtain ⟨e1, e2, e3⟩ := hs h1
            rw [if_pos h1, if_pos h1, if_pos h1, e1, e2, e3]
          · obtain ⟨e1, e2, e3⟩ := hn h1
            rw [if_neg h1, if_neg h1, if_neg h1, e1, e2, e3]
        subst hmi
        dsimp only
        rw [HTN.out, HKN.out]
        have hx : ∀ {v : Value} {n : Nat} {xs : List Value}, w8.ownsRow 0 53 2 v n xs → W.ownsRow 0 53 2 v n xs := fun h => own_kept h hu8 (fun k hk hm => by
          rcases List.mem_cons.1 hm with rfl | hm
          · exact own_blk_ne h B8.out (by decide) k hk rfl
          · obtain rfl := List.mem_singleton.1 hm
            exact own_blk_ne h BR8.out (by decide) _ hk rfl)
        exact ⟨ta, tc, ka, kc, rfl, ⟨own_sps (hx OT8.out), own_sps (hx O8.out)⟩, (U2.out.trans U8.out (by simp)).trans hu8 (fun x hx => by
          rcases List.mem_cons.1 hx with rfl | hx
          · exact .inr (Nat.le_trans U2.out.size hg.out)
          · obtain rfl := List.mem_singleton.1 hx
            exact .inr (by omega))⟩)
      have hgR : g ≠ w.heap.size + 1 := by have := BR.out.lt; have := hg.out; omega
      have n0 : (w7.setCell ⟨g, 4, none⟩ (.slice ka kn kc)).cell? ⟨g, 0, none⟩ = some (.int .i64 p) := by rw [hw8]; exact B8.out.cell 0
      have n1 : (w7.setCell ⟨g, 4, none⟩ (.slice ka kn kc)).cell? ⟨g, 1, none⟩ = some (.int .i64 kd) := by rw [hw8]; exact B8.out.cell 1
      have n4 : (w7.setCell ⟨g, 4, none⟩ (.slice ka kn kc)).cell? ⟨w.heap.size, 4, none⟩ = some (.int .i64 x4) := by rw [hw8]; exact X8.out.cell 4
      clear hw8 hkn
      by_cases hk1 : kd = 1
      · have hk1b : (kd == 1) = true := by simpa using hk1
        obtain ⟨ar, har⟩ : ∃ p, pickS x4 6 = p := ⟨_, rfl⟩
        obtain ⟨te, hte⟩ : ∃ p, pickS (x4.tdiv 6) 5 = p := ⟨_, rfl⟩
        obtain ⟨la, hla⟩ : ∃ p, pickS x5 4 = p := ⟨_, rfl⟩
        have hdv : Fits64 (x4.tdiv 6) := by
          have h1 := F4.out.1
          have h2 := F4.out.2
          unfold Fits64
          rcases Int.le_total 0 x4 with h | h
          · rw [Int.tdiv_eq_ediv_of_nonneg h]; omega
          · obtain ⟨y, hy⟩ : ∃ y, x4 = -y := ⟨-x4, by omega⟩
            subst hy
            rw [Int.neg_tdiv, Int.tdiv_eq_ediv_of_nonneg (by omega)]
            omega
        have PD := fun W => refPick x4 6 W F4.out.1 F4.out.2 (by omega) (by omega)
        have PE := fun W => refPick (x4.tdiv 6) 5 W hdv.1 hdv.2 (by omega) (by omega)
        have PF := fun W => refPick x5 4 W F5.out.1 F5.out.2 (by omega) (by omega)
        have bt := pickS_bounds (x4.tdiv 6) 5 (by omega)
        have bla := pickS_bounds x5 4 (by omega)
        have hwd : IntKind.i64.wrap (x4.tdiv 6) = x4.tdiv 6 := Go.IntWalk.i64_in _ (by have := hdv.1; have := hdv.2; omega)
        rw [har] at PD
        rw [hte] at PE bt
        rw [hla] at PF bla
        obtain ⟨bt1, bt2⟩ := bt
        obtain ⟨bla1, bla2⟩ := bla
        have hw3 : IntKind.i64.wrap (1 + te) = 1 + te := Go.IntWalk.i64_in _ (by omega)
        have hw4 : IntKind.i64.wrap (1 + la) = 1 + la := Go.IntWalk.i64_in _ (by omega)
        have QD := hide PD
        have QE := hide PE
        have QF := hide PF
        have HAR := hide har
        have HTE := hide hte
        have HLA := hide hla
        have HK1 := hide hk1
        clear PD PE PF har hte hla hdv
        go_upto_region 7 with fail
        rw [HW8.out]
        obtain ⟨w9, hw9⟩ : ∃ x, ((w8.setCell ⟨g, 5, none⟩ (.int .i64 ar)).setCell ⟨g, 6, none⟩ (.int .i64 (1 + te))).setCell ⟨g, 7, none⟩ (.int .i64 (1 + la)) = x := ⟨_, rfl⟩
        have B9 := hide (show Blk w9 g 24 [.int .i64 p, .int .i64 kd, .int .i64 len, .slice ta tn tc, .slice ka kn kc, .int .i64 ar, .int .i64 (1 + te), .int .i64 (1 + la)] by rw [← hw9]; exact ((B8.out.set_ 5 (.int .i64 ar)).set_ 6 (.int .i64 (1 + te))).set_ 7 (.int .i64 (1 + la)))
        have V9 := hide (show Upd [g, w.heap.size + 1] w8 w9 by rw [← hw9]; exact (((Upd.refl _ _).setCell (p := ⟨g, 5, none⟩) (.inl (by simp)) _).setCell (p := ⟨g, 6, none⟩) (.inl (by simp)) _).setCell (p := ⟨g, 7, none⟩) (.inl (by simp)) _)
        have BR9 := hide (show Blk w9 (w.heap.size + 1) 24 [.int .i64 0, .int .i64 0, .int .i64 0, .slice none 0 0, .slice none 0 0, .int .i64 0, .int .i64 0, .int .i64 0] by rw [← hw9]; exact ((BR8.out.far (p := ⟨g, 5, none⟩) hgR.symm _).far (p := ⟨g, 6, none⟩) hgR.symm _).far (p := ⟨g, 7, none⟩) hgR.symm _)
        have HW9 := hide hw9
        have g5 := B8.out.cell 5
        have g6 := B8.out.cell 6
        have g7 := B8.out.cell 7
        have h5 := B8.out.frozen 5
        have h6 := B8.out.frozen 6
        have h7 := B8.out.frozen 7
        have e4 := X8.out.cell 4
        have e5 := X8.out.cell 5
        clear hw9 hk1
        go_upto_region 8 with (go_at_call 39; refine (QD.out _).mono ?_; rintro e w' ⟨rfl, rfl⟩)
        go_upto_region 9 with (go_at_call 39; refine (QE.out _).mono ?_; rintro e w' ⟨rfl, rfl⟩)
        go_upto_region 10 with (go_at_call 39; refine (QF.out _).mono ?_; rintro e w' ⟨rfl, rfl⟩)
        rw [HW9.out]
        have m0 := B9.out.cell 0
        have r0 := BR9.out.cell 0
        have q0 := BR9.out.frozen 0
        have m1 := B9.out.cell 1
        have r1 := BR9.out.cell 1
        have q1 := BR9.out.frozen 1
        have m2 := B9.out.cell 2
        have r2 := BR9.out.cell 2
        have q2 := BR9.out.frozen 2
        have m3 := B9.out.cell 3
        have r3 := BR9.out.cell 3
        have q3 := BR9.out.frozen 3
        have m4 := B9.out.cell 4
        have r4 := BR9.out.cell 4
        have q4 := BR9.out.frozen 4
        have m5 := B9.out.cell 5
        have r5 := BR9.out.cell 5
        have q5 := BR9.out.frozen 5
        have m6 := B9.out.cell 6
        have r6 := BR9.out.cell 6
        have q6 := BR9.out.frozen 6
        have m7 := B9.out.cell 7
        have r7 := BR9.out.cell 7
        have q7 := BR9.out.frozen 7
        go_wp2_with fail
        have bf : Blk ((((((((w9.setCell ⟨w.heap.size + 1, 0, none⟩ (.int .i64 p)).setCell ⟨w.heap.size + 1, 1, none⟩ (.int .i64 kd)).setCell ⟨w.heap.size + 1, 2, none⟩ (.int .i64 len)).setCell ⟨w.heap.size + 1, 3, none⟩ (.slice ta tn tc)).setCell ⟨w.heap.size + 1, 4, none⟩ (.slice ka kn kc)).setCell ⟨w.heap.size + 1, 5, none⟩ (.int .i64 ar)).setCell ⟨w.heap.size + 1, 6, none⟩ (.int .i64 (1 + te))).setCell ⟨w.heap.size + 1, 7, none⟩ (.int .i64 (1 + la))) (w.heap.size + 1) 24 [.int .i64 p, .int .i64 kd, .int .i64 len, .slice ta tn tc, .slice ka kn kc, .int .i64 ar, .int .i64 (1 + te), .int .i64 (1 + la)] := ((((((((BR9.out.set_ 0 (.int .i64 p)).set_ 1 (.int .i64 kd)).set_ 2 (.int .i64 len)).set_ 3 (.slice ta tn tc)).set_ 4 (.slice ka kn kc)).set_ 5 (.int .i64 ar)).set_ 6 (.int .i64 (1 + te))).set_ 7 (.int .i64 (1 + la)))
        have uf : Upd [w.heap.size + 1] w9 ((((((((w9.setCell ⟨w.heap.size + 1, 0, none⟩ (.int .i64 p)).setCell ⟨w.heap.size + 1, 1, none⟩ (.int .i64 kd)).setCell ⟨w.heap.size + 1, 2, none⟩ (.int .i64 len)).setCell ⟨w.heap.size + 1, 3, none⟩ (.slice ta tn tc)).setCell ⟨w.heap.size + 1, 4, none⟩ (.slice ka kn kc)).setCell ⟨w.heap.size + 1, 5, none⟩ (.int .i64 ar)).setCell ⟨w.heap.size + 1, 6, none⟩ (.int .i64 (1 + te))).setCell ⟨w.heap.size + 1, 7, none⟩ (.int .i64 (1 + la))) := (((((((((Upd.refl _ _).setCell (p := ⟨w.heap.size + 1, 0, none⟩) (.inl (by simp)) _).setCell (p := ⟨w.heap.size + 1, 1, none⟩) (.inl (by simp)) _).setCell (p := ⟨w.heap.size + 1, 2, none⟩) (.inl (by simp)) _).setCell (p := ⟨w.heap.size + 1, 3, none⟩) (.inl (by simp)) _).setCell (p := ⟨w.heap.size + 1, 4, none⟩) (.inl (by simp)) _).setCell (p := ⟨w.heap.size + 1, 5, none⟩) (.inl (by simp)) _).setCell (p := ⟨w.heap.size + 1, 6, none⟩) (.inl (by simp)) _).setCell (p := ⟨w.heap.size + 1, 7, none⟩) (.inl (by simp)) _)
        generalize ((((((((w9.setCell ⟨w.heap.size + 1, 0, none⟩ (.int .i64 p)).setCell ⟨w.heap.size + 1, 1, none⟩ (.int .i64 kd)).setCell ⟨w.heap.size + 1, 2, none⟩ (.int .i64 len)).setCell ⟨w.heap.size + 1, 3, none⟩ (.slice ta tn tc)).setCell ⟨w.heap.size + 1, 4, none⟩ (.slice ka kn kc)).setCell ⟨w.heap.size + 1, 5, none⟩ (.int .i64 ar)).setCell ⟨w.heap.size + 1, 6, none⟩ (.int .i64 (1 + te))).setCell ⟨w.heap.size + 1, 7, none⟩ (.int .i64 (1 + la))) = wf at bf uf ⊢
        have UF := hide uf
        have v0 := bf.cell 0
        have v1 := bf.cell 1
        have v2 := bf.cell 2
        have v3 := bf.cell 3
        have v4 := bf.cell 4
        have v5 := bf.cell 5
        have v6 := bf.cell 6
        have v7 := bf.cell 7
        refine bodyPost_ret (v := .agg #[.int .i64 p, .int .i64 kd, .int .i64 len, .slice ta tn tc, .slice ka kn kc, .int .i64 ar, .int .i64 (1 + te), .int .i64 (1 + la)]) (by simp [results, Try.results10, go_sem, v0, v1, v2, v3, v4, v5, v6, v7]) rfl (FIN.out _ ar (1 + te) (1 + la) (fun _ => ⟨HAR.out.symm, by rw [HTE.out], by rw [HLA.out]⟩) (fun h => absurd HK1.out h) (V9.out.trans UF.out (fun x hx => .inl (by simp at hx; subst hx; simp))))
      · have hk1b : (kd == 1) = false := by simpa using hk1
        go_upto_region 10 with fail
        rw [HW8.out]
        have m0 := B8.out.cell 0
        have m1 := B8.out.cell 1
        have m2 := B8.out.cell 2
        have m3 := B8.out.cell 3
        have m4 := B8.out.cell 4
        have m5 := B8.out.cell 5
        have m6 := B8.out.cell 6
        have m7 := B8.out.cell 7
        have r0 := BR8.out.cell 0
        have q0 := BR8.out.frozen 0
        have r1 := BR8.out.cell 1
        have q1 := BR8.out.frozen 1
        have r2 := BR8.out.cell 2
        have q2 := BR8.out.frozen 2
        have r3 := BR8.out.cell 3
        have q3 := BR8.out.frozen 3
        have r4 := BR8.out.cell 4
        have q4 := BR8.out.frozen 4
        have r5 := BR8.out.cell 5
        have q5 := BR8.out.frozen 5
        have r6 := BR8.out.cell 6
        have q6 := BR8.out.frozen 6
        have r7 := BR8.out.cell 7
        have q7 := BR8.out.frozen 7
        go_wp2_with fail
        have bf : Blk ((((((((w8.setCell ⟨w.heap.size + 1, 0, none⟩ (.int .i64 p)).setCell ⟨w.heap.size + 1, 1, none⟩ (.int .i64 kd)).setCell ⟨w.heap.size + 1, 2, none⟩ (.int .i64 len)).setCell ⟨w.heap.size + 1, 3, none⟩ (.slice ta tn tc)).setCell ⟨w.heap.size + 1, 4, none⟩ (.slice ka kn kc)).setCell ⟨w.heap.size + 1, 5, none⟩ (.int .i64 0)).setCell ⟨w.heap.size + 1, 6, none⟩ (.int .i64 0)).setCell ⟨w.heap.size + 1, 7, none⟩ (.int .i64 0)) (w.heap.size + 1) 24 [.int .i64 p, .int .i64 kd, .int .i64 len, .slice ta tn tc, .slice ka kn kc, .int .i64 0, .int .i64 0, .int .i64 0] := ((((((((BR8.out.set_ 0 (.int .i64 p)).set_ 1 (.int .i64 kd)).set_ 2 (.int .i64 len)).set_ 3 (.slice ta tn tc)).set_ 4 (.slice ka kn kc)).set_ 5 (.int .i64 0)).set_ 6 (.int .i64 0)).set_ 7 (.int .i64 0))
        have uf : Upd [w.heap.size + 1] w8 ((((((((w8.setCell ⟨w.heap.size + 1, 0, none⟩ (.int .i64 p)).setCell ⟨w.heap.size + 1, 1, none⟩ (.int .i64 kd)).setCell ⟨w.heap.size + 1, 2, none⟩ (.int .i64 len)).setCell ⟨w.heap.size + 1, 3, none⟩ (.slice ta tn tc)).setCell ⟨w.heap.size + 1, 4, none⟩ (.slice ka kn kc)).setCell ⟨w.heap.size + 1, 5, none⟩ (.int .i64 0)).setCell ⟨w.heap.size + 1, 6, none⟩ (.int .i64 0)).setCell ⟨w.heap.size + 1, 7, none⟩ (.int .i64 0)) := (((((((((Upd.refl _ _).setCell (p := ⟨w.heap.size + 1, 0, none⟩) (.inl (by simp)) _).setCell (p := ⟨w.heap.size + 1, 1, none⟩) (.inl (by simp)) _).setCell (p := ⟨w.heap.size + 1, 2, none⟩) (.inl (by simp)) _).setCell (p := ⟨w.heap.size + 1, 3, none⟩) (.inl (by simp)) _).setCell (p := ⟨w.heap.size + 1, 4, none⟩) (.inl (by simp)) _).setCell (p := ⟨w.heap.size + 1, 5, none⟩) (.inl (by simp)) _).setCell (p := ⟨w.heap.size + 1, 6, none⟩) (.inl (by simp)) _).setCell (p := ⟨w.heap.size + 1, 7, none⟩) (.inl (by simp)) _)
        generalize ((((((((w8.setCell ⟨w.heap.size + 1, 0, none⟩ (.int .i64 p)).setCell ⟨w.heap.size + 1, 1, none⟩ (.int .i64 kd)).setCell ⟨w.heap.size + 1, 2, none⟩ (.int .i64 len)).setCell ⟨w.heap.size + 1, 3, none⟩ (.slice ta tn tc)).setCell ⟨w.heap.size + 1, 4, none⟩ (.slice ka kn kc)).setCell ⟨w.heap.size + 1, 5, none⟩ (.int .i64 0)).setCell ⟨w.heap.size + 1, 6, none⟩ (.int .i64 0)).setCell ⟨w.heap.size + 1, 7, none⟩ (.int .i64 0)) = wf at bf uf ⊢
        have UF := hide uf
        have v0 := bf.cell 0
        have v1 := bf.cell 1
        have v2 := bf.cell 2
        have v3 := bf.cell 3
        have v4 := bf.cell 4
        have v5 := bf.cell 5
        have v6 := bf.cell 6
        have v7 := bf.cell 7
        refine bodyPost_ret (v := .agg #[.int .i64 p, .int .i64 kd, .int .i64 len, .slice ta tn tc, .slice ka kn kc, .int .i64 0, .int .i64 0, .int .i64 0]) (by simp [results, Try.results10, go_sem, v0, v1, v2, v3, v4, v5, v6, v7]) rfl (FIN.out _ 0 0 0 (fun h => absurd h hk1) (fun _ => ⟨rfl, rfl, rfl⟩) (UF.out.mono (fun x hx => .inl (by simp at hx; subst hx; simp))))
end Go.Proofs.Ytpkeimdlcafcnaa

namespace Go.Proofs.Ytpkeimdlcafcnaa
open Go.RowKit Go.Shelf
set_option maxRecDepth 100000
set_option maxHeartbeats 40000000

theorem own_emptyS (base : Nat) (w : World) (hb : base ≤ w.heap.size) : (w.alloc (.cells #[] 53)).ownsRow base 53 2 (.slice (some ⟨w.heap.size, 0, none⟩) 0 0) 0 [] :=
  ⟨rfl, .inr ⟨w.heap.size, 0, #[], rfl, hb, heap_alloc_new w _, Nat.le_refl _, by decide, rfl, rfl⟩⟩
theorem sp_ones (l : List Sp) : ∀ u ∈ spCells l, u.oneCell' = true := by
  intro u hu
  obtain ⟨s, _, h⟩ := List.mem_flatMap.1 hu
  simp at h
  rcases h with rfl | rfl <;> rfl
theorem sps_src {n₀ : Nat} {w : World} {a : Option Addr} {l : List Sp} (h : SpsAt n₀ w a l) : (a = none ∧ l.length = 0) ∨ ∃ ad, a = some ad ∧ ∀ j u, (spCells l)[j]? = some u → w.cell? (ad.add j) = some u := by
  cases a with
  | none =>
    refine .inl ⟨rfl, ?_⟩
    cases l with
    | nil => rfl
    | cons s l => obtain ⟨_, _, e, _⟩ := h 0 s rfl; simp at e
  | some ad =>
    refine .inr ⟨ad, rfl, fun j u hj => ?_⟩
    have hl := (List.getElem?_eq_some_iff.1 hj).1
    rw [spCells_length] at hl
    obtain ⟨s, hs⟩ : ∃ s, l[j / 2]? = some s := ⟨_, List.getElem?_eq_getElem (by omega)⟩
    obtain ⟨b, o, e, _, c0, c1⟩ := h (j / 2) s hs
    obtain rfl := Option.some.inj e
    obtain ⟨g0, g1⟩ := spCells_at hs
    rw [plain_add rfl]
    rcases Nat.mod_two_eq_zero_or_one j with e | e
    · rw [show j / 2 * 2 = j by omega] at g0 c0
      rw [g0] at hj
      obtain rfl := Option.some.inj hj
      exact c0
    · rw [show j / 2 * 2 + 1 = j by omega] at g1
      rw [Nat.add_assoc, show j / 2 * 2 + 1 = j by omega] at c1
      rw [g1] at hj
      obtain rfl := Option.some.inj hj
      exact c1
def setFr (l : List Sp) (j : Nat) (n : Int) : List Sp := l.set j ⟨n, (l[j]?.getD ⟨0, 0⟩).to_⟩
def setTo (l : List Sp) (j : Nat) (n : Int) : List Sp := l.set j ⟨(l[j]?.getD ⟨0, 0⟩).fr, n⟩
theorem spCells_setFr : ∀ (l : List Sp) (j : Nat) (n : Int), (spCells l).set (j * 2) (.int .i64 n) = spCells (setFr l j n)
  | [], _, _ => rfl
  | s :: l, 0, n => rfl
  | s :: l, j + 1, n => by
    have e : ∀ (s : Sp) (l : List Sp), spCells (s :: l) = .int .i64 s.fr :: .int .i64 s.to_ :: spCells l := fun _ _ => rfl
    have h : setFr (s :: l) (j + 1) n = s :: setFr l j n := by unfold setFr; simp
    rw [h, e, e, ← spCells_setFr l j n, show (j + 1) * 2 = j * 2 + 1 + 1 by omega]
    rfl
theorem spCells_setTo : ∀ (l : List Sp) (j : Nat) (n : Int), (spCells l).set (j * 2 + 1) (.int .i64 n) = spCells (setTo l j n)
  | [], _, _ => rfl
  | s :: l, 0, n => rfl
  | s :: l, j + 1, n => by
    have e : ∀ (s : Sp) (l : List Sp), spCells (s :: l) = .int .i64 s.fr :: .int .i64 s.to_ :: spCells l := fun _ _ => rfl
    have h : setTo (s :: l) (j + 1) n = s :: setTo l j n := by unfold setTo; simp
    rw [h, e, e, ← spCells_setTo l j n, show (j + 1) * 2 + 1 = j * 2 + 1 + 1 + 1 by omega]
    rfl
def bentS (i : It) (how n at_ : Int) : It :=
  if pickS how 10 = 0 then { i with id := n } else if pickS how 10 = 1 then { i with kind := n } else if pickS how 10 = 2 then { i with len := n }
  else if pickS how 10 = 3 then { i with artist := n } else if pickS how 10 = 4 then { i with tempo := n } else if pickS how 10 = 5 then { i with lang := n }
  else if pickS how 10 = 6 then { i with trims := setFr i.trims (pickS at_ i.trims.length).toNat n }
  else if pickS how 10 = 7 then { i with trims := setTo i.trims (pickS at_ i.trims.length).toNat n }
  else if pickS how 10 = 8 then { i with talks := setTo i.talks (pickS at_ i.talks.length).toNat n }
  else { i with trims := i.trims ++ [⟨n, IntKind.i64.wrap (n + 1)⟩] }
theorem bent_end {w w6 w7 wf : World} {b3 b4 : Nat} {A3 A4 : Option Addr} {c3 c4 n3 n4 t1 t2 : Nat} {l3 l4 : List Sp} {cs ds : List Value} (u6 : Upd [] w w6) (u7 : Upd [w.heap.size] w6 w7) (uf : Upd [w.heap.size + 1] w7 wf)
    (hB : Blk w6 w.heap.size 24 cs) (hR : Blk w6 (w.heap.size + 1) 24 ds) (h3 : w6.ownsRow b3 53 2 (.slice A3 n3 c3) n3 (spCells l3)) (h4 : w6.ownsRow b4 53 2 (.slice A4 n4 c4) n4 (spCells l4)) (_ : t1 = t2) :
    Upd [] w wf ∧ SpsAt wf.heap.size wf A3 l3 ∧ SpsAt wf.heap.size wf A4 l4 := by
  have u : Upd [w.heap.size, w.heap.size + 1] w6 wf := (u7.mono (by simp)).trans uf (by simp)
  have key : ∀ {b n c : Nat} {A : Option Addr} {l : List Sp}, w6.ownsRow b 53 2 (.slice A n c) n (spCells l) → SpsAt wf.heap.size wf A l := fun h =>
    own_sps (own_kept h u (fun q hq hm => by
      rcases List.mem_cons.1 hm with e | hm
      · exact own_blk_ne h hB (by decide) q hq e
      · exact own_blk_ne h hR (by decide) q hq (by simpa using hm)))
  exact ⟨u6.trans u (fun x hx => .inr (by simp at hx; omega)), key h3, key h4⟩
theorem refBent (i : It) (ta : Option Addr) (tc : Nat) (ka : Option Addr) (kc : Nat) (how n at_ : Int) (w : World) (it : ItAt w i ta ka) (ht4 : i.trims.length ≤ 4) (hk4 : i.talks.length ≤ 4) (hhow : Fits64 how) (_hn : Fits64 n) (hat : Fits64 at_) :
    Calls Try.prog 11 #[.agg #[.int .i64 i.id, .int .i64 i.kind, .int .i64 i.len, .slice ta i.trims.length tc, .slice ka i.talks.length kc, .int .i64 i.artist, .int .i64 i.tempo, .int .i64 i.lang], .int .i64 how, .int .i64 n, .int .i64 at_] w fun e w' => ∃ ta' tc' ka' kc', e = .returned (.agg #[.int .i64 (bentS i how n at_).id, .int .i64 (bentS i how n at_).kind, .int .i64 (bentS i how n at_).len, .slice ta' (bentS i how n at_).trims.length tc', .slice ka' (bentS i how n at_).talks.length kc', .int .i64 (bentS i how n at_).artist, .int .i64 (bentS i how n at_).tempo, .int .i64 (bentS i how n at_).lang]) ∧ ItAt w' (bentS i how n at_) ta' ka' ∧ Upd [] w w' := by
  go_enter Try.func11, Try.ntmps11
  go_upto_region 1 with fail
  obtain ⟨w1, hw1⟩ : ∃ x, w.alloc (.cells #[.int .i64 i.id, .int .i64 i.kind, .int .i64 i.len, .slice ta i.trims.length tc, .slice ka i.talks.length kc, .int .i64 i.artist, .int .i64 i.tempo, .int .i64 i.lang] 24) = x := ⟨_, rfl⟩
  have B1 : Blk w1 w.heap.size 24 [.int .i64 i.id, .int .i64 i.kind, .int .i64 i.len, .slice ta i.trims.length tc, .slice ka i.talks.length kc, .int .i64 i.artist, .int .i64 i.tempo, .int .i64 i.lang] := by rw [← hw1]; exact Blk.new w _ _
  have u1 : Upd [] w w1 := by rw [← hw1]; exact (Upd.refl [] _).alloc _
  have hz1 : w1.heap.size = w.heap.size + 1 := by rw [← hw1, World.size_alloc]
  rw [hw1]
  obtain ⟨w2, hw2⟩ : ∃ x, w1.alloc (.cells #[.int .i64 0, .int .i64 0, .int .i64 0, .slice none 0 0, .slice none 0 0, .int .i64 0, .int .i64 0, .int .i64 0] 24) = x := ⟨_, rfl⟩
  have B2 := hide (show Blk w2 w.heap.size 24 [.int .i64 i.id, .int .i64 i.kind, .int .i64 i.len, .slice ta i.trims.length tc, .slice ka i.talks.length kc, .int .i64 i.artist, .int .i64 i.tempo, .int .i64 i.lang] by rw [← hw2]; exact B1.alloc _)
  have R2 := hide (show Blk w2 (w.heap.size + 1) 24 [.int .i64 0, .int .i64 0, .int .i64 0, .slice none 0 0, .slice none 0 0, .int .i64 0, .int .i64 0, .int .i64 0] by rw [← hw2, ← hz1]; exact Blk.new w1 _ _)
  have UU2 := hide (show Upd [] w w2 by rw [← hw2]; exact u1.alloc _)
  have HZ2 := hide (show w2.heap.size = w.heap.size + 2 by rw [← hw2, World.size_alloc, hz1])
  rw [hw2]
  clear hw1 hw2 B1 u1 hz1
  have IT2 := hide (it.upd UU2.out)
  have B2a := hide (B2.out.alloc (.cells #[] 53))
  have O1 := hide (own_emptyS w2.heap.size w2 (Nat.le_refl _))
  have O2 := hide (sps_src ((IT2.out.upd ((Upd.refl [] w2).alloc (.cells #[] 53))).trims))
  have O5 := hide (show (spCells i.trims).length = i.trims.length * 2 from spCells_length _)
  have O6 := hide (sp_ones i.trims)
  have O3 := hide (show 0 + i.trims.length ≤ maxLen by unfold maxLen; omega)
  have O4 := hide (show (0 + i.trims.length) * 16 ≤ 140737488355328 by omega)
  have OB := hide (show w2.heap.size ≤ (w2.alloc (.cells #[] 53)).heap.size by rw [World.size_alloc]; omega)
  have hne : w.heap.size ∉ [w2.heap.size] := by have := HZ2.out; simp; omega
  have HNE := hide hne
  clear hne
  have m3 := B2a.out.cell 3
  go_upto_region 2 with (at_builtin; refine wpList_append_src rfl (.tmp 9) (.tmp 11) _ rfl w2.heap.size 53 _ 2 16 Try.underlying22 it_info_spell rfl (by decide) (some ⟨w2.heap.size, 0, none⟩) 0 0 [] rfl O1.out ta i.trims.length tc (spCells i.trims) rfl O5.out O2.out O6.out O3.out O4.out OB.out ?_; intro A3 c3 w3 h7 u7 a7; have H7 := hide h7; have U7 := hide u7; have Q7 := hide (B2a.out.upd u7 (by simpa using HNE.out)); have e3 := Q7.out.cell 3; have e4 := Q7.out.frozen 3; clear h7 u7 a7)
  have h7 := H7.out
  simp only [Nat.zero_add, List.nil_append] at h7
  have u7 := U7.out
  have us : Upd [] w2 w3 := ((Upd.refl [] w2).alloc (.cells #[] 53)).trans u7 (fun x hx => .inr (by simp at hx; omega))
  have b9 := Q7.out.set_ 3 (.slice A3 i.trims.length c3)
  have us9 : Upd [w.heap.size] w2 (w3.setCell ⟨w.heap.size, 3, none⟩ (.slice A3 i.trims.length c3)) := (us.mono (by simp)).setCell (p := ⟨w.heap.size, 3, none⟩) (.inl (by simp)) _
  have row9 : (w3.setCell ⟨w.heap.size, 3, none⟩ (.slice A3 i.trims.length c3)).ownsRow w2.heap.size 53 2 (.slice A3 i.trims.length c3) i.trims.length (spCells i.trims) := own_kept h7 ((Upd.refl [w.heap.size] w3).setCell (p := ⟨w.heap.size, 3, none⟩) (.inl (by simp)) _) (fun q hq hm => own_blk_ne h7 Q7.out (by decide) q hq (by simpa using hm))
  obtain ⟨w4, hw9⟩ : ∃ x, w3.setCell ⟨w.heap.size, 3, none⟩ (.slice A3 i.trims.length c3) = x := ⟨_, rfl⟩
  rw [hw9] at b9 us9 row9 ⊢
  have B4 := hide (show Blk w4 w.heap.size 24 [.int .i64 i.id, .int .i64 i.kind, .int .i64 i.len, .slice A3 i.trims.length c3, .slice ka i.talks.length kc, .int .i64 i.artist, .int .i64 i.tempo, .int .i64 i.lang] from b9)
  have R4 := hide (R2.out.upd us9 (by simp))
  have UU4 := hide (show Upd [] w w4 from UU2.out.trans us9 (by simp))
  have IT4 := hide (it.upd UU4.out)
  have ROW3 := hide (it_own_less row9 (base' := w2.heap.size) (by omega))
  have HZ4 := hide (show w.heap.size + 2 ≤ w4.heap.size by have := us9.size; have := HZ2.out; omega)
  clear O1 O2 O3 O4 O5 O6 OB HNE H7 U7 Q7 h7 u7 us b9 us9 row9 hw9 m3 e3 e4 B2a
  have HLT3 := hide (it_own_lt ROW3.out)
  have B4a := hide (B4.out.alloc (.cells #[] 53))
  have O1 := hide (own_emptyS w4.heap.size w4 (Nat.le_refl _))
  have O2 := hide (sps_src ((IT4.out.upd ((Upd.refl [] w4).alloc (.cells #[] 53))).talks))
  have O5 := hide (show (spCells i.talks).length = i.talks.length * 2 from spCells_length _)
  have O6 := hide (sp_ones i.talks)
  have O3 := hide (show 0 + i.talks.length ≤ maxLen by unfold maxLen; omega)
  have O4 := hide (show (0 + i.talks.length) * 16 ≤ 140737488355328 by omega)
  have OB := hide (show w4.heap.size ≤ (w4.alloc (.cells #[] 53)).heap.size by rw [World.size_alloc]; omega)
  have hne : w.heap.size ∉ [w4.heap.size] := by have := HZ4.out; simp; omega
  have HNE := hide hne
  clear hne
  have m4 := B4a.out.cell 4
  go_upto_region 3 with (at_builtin; refine wpList_append_src rfl (.tmp 14) (.tmp 16) _ rfl w4.heap.size 53 _ 2 16 Try.underlying22 it_info_spell rfl (by decide) (some ⟨w4.heap.size, 0, none⟩) 0 0 [] rfl O1.out ka i.talks.length kc (spCells i.talks) rfl O5.out O2.out O6.out O3.out O4.out OB.out ?_; intro A4 c4 w5 h7 u7 a7; have H7 := hide h7; have U7 := hide u7; have Q7 := hide (B4a.out.upd u7 (by simpa using HNE.out)); have e3 := Q7.out.cell 4; have e4 := Q7.out.frozen 4; clear h7 u7 a7)
  have h7 := H7.out
  simp only [Nat.zero_add, List.nil_append] at h7
  have u7 := U7.out
  have us : Upd [] w4 w5 := ((Upd.refl [] w4).alloc (.cells #[] 53)).trans u7 (fun x hx => .inr (by simp at hx; omega))
  have b9 := Q7.out.set_ 4 (.slice A4 i.talks.length c4)
  have us9 : Upd [w.heap.size] w4 (w5.setCell ⟨w.heap.size, 4, none⟩ (.slice A4 i.talks.length c4)) := (us.mono (by simp)).setCell (p := ⟨w.heap.size, 4, none⟩) (.inl (by simp)) _
  have row9 : (w5.setCell ⟨w.heap.size, 4, none⟩ (.slice A4 i.talks.length c4)).ownsRow w4.heap.size 53 2 (.slice A4 i.talks.length c4) i.talks.length (spCells i.talks) := own_kept h7 ((Upd.refl [w.heap.size] w5).setCell (p := ⟨w.heap.size, 4, none⟩) (.inl (by simp)) _) (fun q hq hm => own_blk_ne h7 Q7.out (by decide) q hq (by simpa using hm))
  obtain ⟨w6, hw9⟩ : ∃ x, w5.setCell ⟨w.heap.size, 4, none⟩ (.slice A4 i.talks.length c4) = x := ⟨_, rfl⟩
  rw [hw9] at b9 us9 row9 ⊢
  have B6 := hide (show Blk w6 w.heap.size 24 [.int .i64 i.id, .int .i64 i.kind, .int .i64 i.len, .slice A3 i.trims.length c3, .slice A4 i.talks.length c4, .int .i64 i.artist, .int .i64 i.tempo, .int .i64 i.lang] from b9)
  have R6 := hide (R4.out.upd us9 (by simp))
  have UU6 := hide (show Upd [] w w6 from UU4.out.trans us9 (by simp))
  have IT6 := hide (it.upd UU6.out)
  have ROW3 := hide (own_kept ROW3.out us9 (fun q hq hm => own_blk_ne ROW3.out B4.out (by decide) q hq (by simpa using hm)))
  have ROW4 := hide (it_own_less row9 (base' := w4.heap.size) (by omega))
  have HZ6 := hide (show w.heap.size + 2 ≤ w6.heap.size by have := us9.size; have := HZ4.out; omega)
  clear O1 O2 O3 O4 O5 O6 OB HNE H7 U7 Q7 h7 u7 us b9 us9 row9 hw9 m4 e3 e4 B4a
  obtain ⟨c, hc⟩ : ∃ c, pickS how 10 = c := ⟨_, rfl⟩
  have hcb := pickS_bounds how 10 (by omega)
  rw [hc] at hcb
  obtain ⟨hc0, hc1⟩ := hcb
  have PK := hide (refPick how 10 w6 hhow.1 hhow.2 (by omega) (by omega))
  rw [hc] at PK
  have HC := hide hc
  clear hc
  have m0 := B6.out.cell 0
  have m1 := B6.out.cell 1
  have m2 := B6.out.cell 2
  have m3 := B6.out.cell 3
  have m4 := B6.out.cell 4
  have m5 := B6.out.cell 5
  have m6 := B6.out.cell 6
  have m7 := B6.out.cell 7
  have f0 := B6.out.frozen 0
  have f1 := B6.out.frozen 1
  have f2 := B6.out.frozen 2
  have f3 := B6.out.frozen 3
  have f4 := B6.out.frozen 4
  have f5 := B6.out.frozen 5
  have f6 := B6.out.frozen 6
  have f7 := B6.out.frozen 7
  have hcases : c = 0 ∨ c = 1 ∨ c = 2 ∨ c = 3 ∨ c = 4 ∨ c = 5 ∨ c = 6 ∨ c = 7 ∨ c = 8 ∨ c = 9 := by omega
  clear hc0 hc1
  go_wp2_with fail
  refine (PK.out).mono ?_
  rintro e w' ⟨rfl, rfl⟩
  clear PK
  rcases hcases with rfl | rfl | rfl | rfl | rfl | rfl | rfl | rfl | rfl | rfl
  · have hcv : True := trivial
    obtain ⟨w7, hw7⟩ : ∃ x, w6.setCell ⟨w.heap.size, 0, none⟩ (.int .i64 n) = x := ⟨_, rfl⟩
    have B7 := hide (show Blk w7 w.heap.size 24 [.int .i64 n, .int .i64 i.kind, .int .i64 i.len, .slice A3 i.trims.length c3, .slice A4 i.talks.length c4, .int .i64 i.artist, .int .i64 i.tempo, .int .i64 i.lang] by rw [← hw7]; exact B6.out.set_ 0 (.int .i64 n))
    have u7 : Upd [w.heap.size] w6 w7 := by rw [← hw7]; exact (Upd.refl _ _).setCell (p := ⟨w.heap.size, 0, none⟩) (.inl (by simp)) _
    have R7 := hide (R6.out.upd u7 (by simp))
    have UW := hide u7
    have HW7 := hide hw7
    clear hw7 u7
    go_upto_region 26 with fail
    rw [HW7.out]
    clear HW7
    clear m0 f0 m1 f1 m2 f2 m3 f3 m4 f4 m5 f5 m6 f6 m7 f7
    have m0 := B7.out.cell 0
    have m1 := B7.out.cell 1
    have m2 := B7.out.cell 2
    have m3 := B7.out.cell 3
    have m4 := B7.out.cell 4
    have m5 := B7.out.cell 5
    have m6 := B7.out.cell 6
    have m7 := B7.out.cell 7
    have f0 := B7.out.frozen 0
    have f1 := B7.out.frozen 1
    have f2 := B7.out.frozen 2
    have f3 := B7.out.frozen 3
    have f4 := B7.out.frozen 4
    have f5 := B7.out.frozen 5
    have f6 := B7.out.frozen 6
    have f7 := B7.out.frozen 7
    have r0 := R7.out.cell 0
    have q0 := R7.out.frozen 0
    have r1 := R7.out.cell 1
    have q1 := R7.out.frozen 1
    have r2 := R7.out.cell 2
    have q2 := R7.out.frozen 2
    have r3 := R7.out.cell 3
    have q3 := R7.out.frozen 3
    have r4 := R7.out.cell 4
    have q4 := R7.out.frozen 4
    have r5 := R7.out.cell 5
    have q5 := R7.out.frozen 5
    have r6 := R7.out.cell 6
    have q6 := R7.out.frozen 6
    have r7 := R7.out.cell 7
    have q7 := R7.out.frozen 7
    go_wp2_with fail
    obtain ⟨wf, hwf⟩ : ∃ x, ((((((((w7.setCell ⟨w.heap.size + 1, 0, none⟩ (.int .i64 n)).setCell ⟨w.heap.size + 1, 1, none⟩ (.int .i64 i.kind)).setCell ⟨w.heap.size + 1, 2, none⟩ (.int .i64 i.len)).setCell ⟨w.heap.size + 1, 3, none⟩ (.slice A3 i.trims.length c3)).setCell ⟨w.heap.size + 1, 4, none⟩ (.slice A4 i.talks.length c4)).setCell ⟨w.heap.size + 1, 5, none⟩ (.int .i64 i.artist)).setCell ⟨w.heap.size + 1, 6, none⟩ (.int .i64 i.tempo)).setCell ⟨w.heap.size + 1, 7, none⟩ (.int .i64 i.lang)) = x := ⟨_, rfl⟩
    have bf : Blk wf (w.heap.size + 1) 24 [.int .i64 n, .int .i64 i.kind, .int .i64 i.len, .slice A3 i.trims.length c3, .slice A4 i.talks.length c4, .int .i64 i.artist, .int .i64 i.tempo, .int .i64 i.lang] := by rw [← hwf]; exact ((((((((R7.out.set_ 0 (.int .i64 n)).set_ 1 (.int .i64 i.kind)).set_ 2 (.int .i64 i.len)).set_ 3 (.slice A3 i.trims.length c3)).set_ 4 (.slice A4 i.talks.length c4)).set_ 5 (.int .i64 i.artist)).set_ 6 (.int .i64 i.tempo)).set_ 7 (.int .i64 i.lang))
    have uf : Upd [w.heap.size + 1] w7 wf := by rw [← hwf]; exact (((((((((Upd.refl [w.heap.size + 1] w7).setCell (p := ⟨w.heap.size + 1, 0, none⟩) (.inl (by simp)) _).setCell (p := ⟨w.heap.size + 1, 1, none⟩) (.inl (by simp)) _).setCell (p := ⟨w.heap.size + 1, 2, none⟩) (.inl (by simp)) _).setCell (p := ⟨w.heap.size + 1, 3, none⟩) (.inl (by simp)) _).setCell (p := ⟨w.heap.size + 1, 4, none⟩) (.inl (by simp)) _).setCell (p := ⟨w.heap.size + 1, 5, none⟩) (.inl (by simp)) _).setCell (p := ⟨w.heap.size + 1, 6, none⟩) (.inl (by simp)) _).setCell (p := ⟨w.heap.size + 1, 7, none⟩) (.inl (by simp)) _)
    rw [hwf]
    clear hwf
    have UF := hide uf
    clear uf
    have v0 := bf.cell 0
    have v1 := bf.cell 1
    have v2 := bf.cell 2
    have v3 := bf.cell 3
    have v4 := bf.cell 4
    have v5 := bf.cell 5
    have v6 := bf.cell 6
    have v7 := bf.cell 7
    refine bodyPost_ret (v := .agg #[.int .i64 n, .int .i64 i.kind, .int .i64 i.len, .slice A3 i.trims.length c3, .slice A4 i.talks.length c4, .int .i64 i.artist, .int .i64 i.tempo, .int .i64 i.lang]) (by simp [results, Try.results11, go_sem, v0, v1, v2, v3, v4, v5, v6, v7]) rfl ?_
    obtain ⟨uc, ut, uk⟩ := bent_end UU6.out UW.out UF.out B6.out R6.out ROW3.out ROW4.out HZ2.out
    have ej : bentS i how n at_ = { i with id := n } := by unfold bentS; simp [HC.out]
    rw [ej]
    exact ⟨A3, c3, A4, c4, rfl, ⟨ut, uk⟩, uc⟩
  · have hcv : True := trivial
    obtain ⟨w7, hw7⟩ : ∃ x, w6.setCell ⟨w.heap.size, 1, none⟩ (.int .i64 n) = x := ⟨_, rfl⟩
    have B7 := hide (show Blk w7 w.heap.size 24 [.int .i64 i.id, .int .i64 n, .int .i64 i.len, .slice A3 i.trims.length c3, .slice A4 i.talks.length c4, .int .i64 i.artist, .int .i64 i.tempo, .int .i64 i.lang] by rw [← hw7]; exact B6.out.set_ 1 (.int .i64 n))
    have u7 : Upd [w.heap.size] w6 w7 := by rw [← hw7]; exact (Upd.refl _ _).setCell (p := ⟨w.heap.size, 1, none⟩) (.inl (by simp)) _
    have R7 := hide (R6.out.upd u7 (by simp))
    have UW := hide u7
    have HW7 := hide hw7
    clear hw7 u7
    go_upto_region 26 with fail
    rw [HW7.out]
    clear HW7
    clear m0 f0 m1 f1 m2 f2 m3 f3 m4 f4 m5 f5 m6 f6 m7 f7
    have m0 := B7.out.cell 0
    have m1 := B7.out.cell 1
    have m2 := B7.out.cell 2
    have m3 := B7.out.cell 3
    have m4 := B7.out.cell 4
    have m5 := B7.out.cell 5
    have m6 := B7.out.cell 6
    have m7 := B7.out.cell 7
    have f0 := B7.out.frozen 0
    have f1 := B7.out.frozen 1
    have f2 := B7.out.frozen 2
    have f3 := B7.out.frozen 3
    have f4 := B7.out.frozen 4
    have f5 := B7.out.frozen 5
    have f6 := B7.out.frozen 6
    have f7 := B7.out.frozen 7
    have r0 := R7.out.cell 0
    have q0 := R7.out.frozen 0
    have r1 := R7.out.cell 1
    have q1 := R7.out.frozen 1
    have r2 := R7.out.cell 2
    have q2 := R7.out.frozen 2
    have r3 := R7.out.cell 3
    have q3 := R7.out.frozen 3
    have r4 := R7.out.cell 4
    have q4 := R7.out.frozen 4
    have r5 := R7.out.cell 5
    have q5 := R7.out.frozen 5
    have r6 := R7.out.cell 6
    have q6 := R7.out.frozen 6
    have r7 := R7.out.cell 7
    have q7 := R7.out.frozen 7
    go_wp2_with fail
    obtain ⟨wf, hwf⟩ : ∃ x, ((((((((w7.setCell ⟨w.heap.size + 1, 0, none⟩ (.int .i64 i.id)).setCell ⟨w.heap.size + 1, 1, none⟩ (.int .i64 n)).setCell ⟨w.heap.size + 1, 2, none⟩ (.int .i64 i.len)).setCell ⟨w.heap.size + 1, 3, none⟩ (.slice A3 i.trims.length c3)).setCell ⟨w.heap.size + 1, 4, none⟩ (.slice A4 i.talks.length c4)).setCell ⟨w.heap.size + 1, 5, none⟩ (.int .i64 i.artist)).setCell ⟨w.heap.size + 1, 6, none⟩ (.int .i64 i.tempo)).setCell ⟨w.heap.size + 1, 7, none⟩ (.int .i64 i.lang)) = x := ⟨_, rfl⟩
    have bf : Blk wf (w.heap.size + 1) 24 [.int .i64 i.id, .int .i64 n, .int .i64 i.len, .slice A3 i.trims.length c3, .slice A4 i.talks.length c4, .int .i64 i.artist, .int .i64 i.tempo, .int .i64 i.lang] := by rw [← hwf]; exact ((((((((R7.out.set_ 0 (.int .i64 i.id)).set_ 1 (.int .i64 n)).set_ 2 (.int .i64 i.len)).set_ 3 (.slice A3 i.trims.length c3)).set_ 4 (.slice A4 i.talks.length c4)).set_ 5 (.int .i64 i.artist)).set_ 6 (.int .i64 i.tempo)).set_ 7 (.int .i64 i.lang))
    have uf : Upd [w.heap.size + 1] w7 wf := by rw [← hwf]; exact (((((((((Upd.refl [w.heap.size + 1] w7).setCell (p := ⟨w.heap.size + 1, 0, none⟩) (.inl (by simp)) _).setCell (p := ⟨w.heap.size + 1, 1, none⟩) (.inl (by simp)) _).setCell (p := ⟨w.heap.size + 1, 2, none⟩) (.inl (by simp)) _).setCell (p := ⟨w.heap.size + 1, 3, none⟩) (.inl (by simp)) _).setCell (p := ⟨w.heap.size + 1, 4, none⟩) (.inl (by simp)) _).setCell (p := ⟨w.heap.size + 1, 5, none⟩) (.inl (by simp)) _).setCell (p := ⟨w.heap.size + 1, 6, none⟩) (.inl (by simp)) _).setCell (p := ⟨w.heap.size + 1, 7, none⟩) (.inl (by simp)) _)
    rw [hwf]
    clear hwf
    have UF := hide uf
    clear uf
    have v0 := bf.cell 0
    have v1 := bf.cell 1
    have v2 := bf.cell 2
    have v3 := bf.cell 3
    have v4 := bf.cell 4
    have v5 := bf.cell 5
    have v6 := bf.cell 6
    have v7 := bf.cell 7
    refine bodyPost_ret (v := .agg #[.int .i64 i.id, .int .i64 n, .int .i64 i.len, .slice A3 i.trims.length c3, .slice A4 i.talks.length c4, .int .i64 i.artist, .int .i64 i.tempo, .int .i64 i.lang]) (by simp [results, Try.results11, go_sem, v0, v1, v2, v3, v4, v5, v6, v7]) rfl ?_
    obtain ⟨uc, ut, uk⟩ := bent_end UU6.out UW.out UF.out B6.out R6.out ROW3.out ROW4.out HZ2.out
    have ej : bentS i how n at_ = { i with kind := n } := by unfold bentS; simp [HC.out]
    rw [ej]
    exact ⟨A3, c3, A4, c4, rfl, ⟨ut, uk⟩, uc⟩
  · have hcv : True := trivial
    obtain ⟨w7, hw7⟩ : ∃ x, w6.setCell ⟨w.heap.size, 2, none⟩ (.int .i64 n) = x := ⟨_, rfl⟩
    have B7 := hide (show Blk w7 w.heap.size 24 [.int .i64 i.id, .int .i64 i.kind, .int .i64 n, .slice A3 i.trims.length c3, .slice A4 i.talks.length c4, .int .i64 i.artist, .int .i64 i.tempo, .int .i64 i.lang] by rw [← hw7]; exact B6.out.set_ 2 (.int .i64 n))
    have u7 : Upd [w.heap.size] w6 w7 := by rw [← hw7]; exact (Upd.refl _ _).setCell (p := ⟨w.heap.size, 2, none⟩) (.inl (by simp)) _
    have R7 := hide (R6.out.upd u7 (by simp))
    have UW := hide u7
    have HW7 := hide hw7
    clear hw7 u7
    go_upto_region 26 with fail
    rw [HW7.out]
    clear HW7
    clear m0 f0 m1 f1 m2 f2 m3 f3 m4 f4 m5 f5 m6 f6 m7 f7
    have m0 := B7.out.cell 0
    have m1 := B7.out.cell 1
    have m2 := B7.out.cell 2
    have m3 := B7.out.cell 3
    have m4 := B7.out.cell 4
    have m5 := B7.out.cell 5
    have m6 := B7.out.cell 6
    have m7 := B7.out.cell 7
    have f0 := B7.out.frozen 0
    have f1 := B7.out.frozen 1
    have f2 := B7.out.frozen 2
    have f3 := B7.out.frozen 3
    have f4 := B7.out.frozen 4
    have f5 := B7.out.frozen 5
    have f6 := B7.out.frozen 6
    have f7 := B7.out.frozen 7
    have r0 := R7.out.cell 0
    have q0 := R7.out.frozen 0
    have r1 := R7.out.cell 1
    have q1 := R7.out.frozen 1
    have r2 := R7.out.cell 2
    have q2 := R7.out.frozen 2
    have r3 := R7.out.cell 3
    have q3 := R7.out.frozen 3
    have r4 := R7.out.cell 4
    have q4 := R7.out.frozen 4
    have r5 := R7.out.cell 5
    have q5 := R7.out.frozen 5
    have r6 := R7.out.cell 6
    have q6 := R7.out.frozen 6
    have r7 := R7.out.cell 7
    have q7 := R7.out.frozen 7
    go_wp2_with fail
    obtain ⟨wf, hwf⟩ : ∃ x, ((((((((w7.setCell ⟨w.heap.size + 1, 0, none⟩ (.int .i64 i.id)).setCell ⟨w.heap.size + 1, 1, none⟩ (.int .i64 i.kind)).setCell ⟨w.heap.size + 1, 2, none⟩ (.int .i64 n)).setCell ⟨w.heap.size + 1, 3, none⟩ (.slice A3 i.trims.length c3)).setCell ⟨w.heap.size + 1, 4, none⟩ (.slice A4 i.talks.length c4)).setCell ⟨w.heap.size + 1, 5, none⟩ (.int .i64 i.artist)).setCell ⟨w.heap.size + 1, 6, none⟩ (.int .i64 i.tempo)).setCell ⟨w.heap.size + 1, 7, none⟩ (.int .i64 i.lang)) = x := ⟨_, rfl⟩
    have bf : Blk wf (w.heap.size + 1) 24 [.int .i64 i.id, .int .i64 i.kind, .int .i64 n, .slice A3 i.trims.length c3, .slice A4 i.talks.length c4, .int .i64 i.artist, .int .i64 i.tempo, .int .i64 i.lang] := by rw [← hwf]; exact ((((((((R7.out.set_ 0 (.int .i64 i.id)).set_ 1 (.int .i64 i.kind)).set_ 2 (.int .i64 n)).set_ 3 (.slice A3 i.trims.length c3)).set_ 4 (.slice A4 i.talks.length c4)).set_ 5 (.int .i64 i.artist)).set_ 6 (.int .i64 i.tempo)).set_ 7 (.int .i64 i.lang))
    have uf : Upd [w.heap.size + 1] w7 wf := by rw [← hwf]; exact (((((((((Upd.refl [w.heap.size + 1] w7).setCell (p := ⟨w.heap.size + 1, 0, none⟩) (.inl (by simp)) _).setCell (p := ⟨w.heap.size + 1, 1, none⟩) (.inl (by simp)) _).setCell (p := ⟨w.heap.size + 1, 2, none⟩) (.inl (by simp)) _).setCell (p := ⟨w.heap.size + 1, 3, none⟩) (.inl (by simp)) _).setCell (p := ⟨w.heap.size + 1, 4, none⟩) (.inl (by simp)) _).setCell (p := ⟨w.heap.size + 1, 5, none⟩) (.inl (by simp)) _).setCell (p := ⟨w.heap.size + 1, 6, none⟩) (.inl (by simp)) _).setCell (p := ⟨w.heap.size + 1, 7, none⟩) (.inl (by simp)) _)
    rw [hwf]
    clear hwf
    have UF := hide uf
    clear uf
    have v0 := bf.cell 0
    have v1 := bf.cell 1
    have v2 := bf.cell 2
    have v3 := bf.cell 3
    have v4 := bf.cell 4
    have v5 := bf.cell 5
    have v6 := bf.cell 6
    have v7 := bf.cell 7
    refine bodyPost_ret (v := .agg #[.int .i64 i.id, .int .i64 i.kind, .int .i64 n, .slice A3 i.trims.length c3, .slice A4 i.talks.length c4, .int .i64 i.artist, .int .i64 i.tempo, .int .i64 i.lang]) (by simp [results, Try.results11, go_sem, v0, v1, v2, v3, v4, v5, v6, v7]) rfl ?_
    obtain ⟨uc, ut, uk⟩ := bent_end UU6.out UW.out UF.out B6.out R6.out ROW3.out ROW4.out HZ2.out
    have ej : bentS i how n at_ = { i with len := n } := by unfold bentS; simp [HC.out]
    rw [ej]
    exact ⟨A3, c3, A4, c4, rfl, ⟨ut, uk⟩, uc⟩
  · have hcv : True := trivial
    obtain ⟨w7, hw7⟩ : ∃ x, w6.setCell ⟨w.heap.size, 5, none⟩ (.int .i64 n) = x := ⟨_, rfl⟩
    have B7 := hide (show Blk w7 w.heap.size 24 [.int .i64 i.id, .int .i64 i.kind, .int .i64 i.len, .slice A3 i.trims.length c3, .slice A4 i.talks.length c4, .int .i64 n, .int .i64 i.tempo, .int .i64 i.lang] by rw [← hw7]; exact B6.out.set_ 5 (.int .i64 n))
    have u7 : Upd [w.heap.size] w6 w7 := by rw [← hw7]; exact (Upd.refl _ _).setCell (p := ⟨w.heap.size, 5, none⟩) (.inl (by simp)) _
    have R7 := hide (R6.out.upd u7 (by simp))
    have UW := hide u7
    have HW7 := hide hw7
    clear hw7 u7
    go_upto_region 26 with fail
    rw [HW7.out]
    clear HW7
    clear m0 f0 m1 f1 m2 f2 m3 f3 m4 f4 m5 f5 m6 f6 m7 f7
    have m0 := B7.out.cell 0
    have m1 := B7.out.cell 1
    have m2 := B7.out.cell 2
    have m3 := B7.out.cell 3
    have m4 := B7.out.cell 4
    have m5 := B7.out.cell 5
    have m6 := B7.out.cell 6
    have m7 := B7.out.cell 7
    have f0 := B7.out.frozen 0
    have f1 := B7.out.frozen 1
    have f2 := B7.out.frozen 2
    have f3 := B7.out.frozen 3
    have f4 := B7.out.frozen 4
    have f5 := B7.out.frozen 5
    have f6 := B7.out.frozen 6
    have f7 := B7.out.frozen 7
    have r0 := R7.out.cell 0
    have q0 := R7.out.frozen 0
    have r1 := R7.out.cell 1
    have q1 := R7.out.frozen 1
    have r2 := R7.out.cell 2
    have q2 := R7.out.frozen 2
    have r3 := R7.out.cell 3
    have q3 := R7.out.frozen 3
    have r4 := R7.out.cell 4
    have q4 := R7.out.frozen 4
    have r5 := R7.out.cell 5
    have q5 := R7.out.frozen 5
    have r6 := R7.out.cell 6
    have q6 := R7.out.frozen 6
    have r7 := R7.out.cell 7
    have q7 := R7.out.frozen 7
    go_wp2_with fail
    obtain ⟨wf, hwf⟩ : ∃ x, ((((((((w7.setCell ⟨w.heap.size + 1, 0, none⟩ (.int .i64 i.id)).setCell ⟨w.heap.size + 1, 1, none⟩ (.int .i64 i.kind)).setCell ⟨w.heap.size + 1, 2, none⟩ (.int .i64 i.len)).setCell ⟨w.heap.size + 1, 3, none⟩ (.slice A3 i.trims.length c3)).setCell ⟨w.heap.size + 1, 4, none⟩ (.slice A4 i.talks.length c4)).setCell ⟨w.heap.size + 1, 5, none⟩ (.int .i64 n)).setCell ⟨w.heap.size + 1, 6, none⟩ (.int .i64 i.tempo)).setCell ⟨w.heap.size + 1, 7, none⟩ (.int .i64 i.lang)) = x := ⟨_, rfl⟩
    have bf : Blk wf (w.heap.size + 1) 24 [.int .i64 i.id, .int .i64 i.kind, .int .i64 i.len, .slice A3 i.trims.length c3, .slice A4 i.talks.length c4, .int .i64 n, .int .i64 i.tempo, .int .i64 i.lang] := by rw [← hwf]; exact ((((((((R7.out.set_ 0 (.int .i64 i.id)).set_ 1 (.int .i64 i.kind)).set_ 2 (.int .i64 i.len)).set_ 3 (.slice A3 i.trims.length c3)).set_ 4 (.slice A4 i.talks.length c4)).set_ 5 (.int .i64 n)).set_ 6 (.int .i64 i.tempo)).set_ 7 (.int .i64 i.lang))
    have uf : Upd [w.heap.size + 1] w7 wf := by rw [← hwf]; exact (((((((((Upd.refl [w.heap.size + 1] w7).setCell (p := ⟨w.heap.size + 1, 0, none⟩) (.inl (by simp)) _).setCell (p := ⟨w.heap.size + 1, 1, none⟩) (.inl (by simp)) _).setCell (p := ⟨w.heap.size + 1, 2, none⟩) (.inl (by simp)) _).setCell (p := ⟨w.heap.size + 1, 3, none⟩) (.inl (by simp)) _).setCell (p := ⟨w.heap.size + 1, 4, none⟩) (.inl (by simp)) _).setCell (p := ⟨w.heap.size + 1, 5, none⟩) (.inl (by simp)) _).setCell (p := ⟨w.heap.size + 1, 6, none⟩) (.inl (by simp)) _).setCell (p := ⟨w.heap.size + 1, 7, none⟩) (.inl (by simp)) _)
    rw [hwf]
    clear hwf
    have UF := hide uf
    clear uf
    have v0 := bf.cell 0
    have v1 := bf.cell 1
    have v2 := bf.cell 2
    have v3 := bf.cell 3
    have v4 := bf.cell 4
    have v5 := bf.cell 5
    have v6 := bf.cell 6
    have v7 := bf.cell 7
    refine bodyPost_ret (v := .agg #[.int .i64 i.id, .int .i64 i.kind, .int .i64 i.len, .slice A3 i.trims.length c3, .slice A4 i.talks.length c4, .int .i64 n, .int .i64 i.tempo, .int .i64 i.lang]) (by simp [results, Try.results11, go_sem, v0, v1, v2, v3, v4, v5, v6, v7]) rfl ?_
    obtain ⟨uc, ut, uk⟩ := bent_end UU6.out UW.out UF.out B6.out R6.out ROW3.out ROW4.out HZ2.out
    have ej : bentS i how n at_ = { i with artist := n } := by unfold bentS; simp [HC.out]
    rw [ej]
    exact ⟨A3, c3, A4, c4, rfl, ⟨ut, uk⟩, uc⟩
  · have hcv : True := trivial
    obtain ⟨w7, hw7⟩ : ∃ x, w6.setCell ⟨w.heap.size, 6, none⟩ (.int .i64 n) = x := ⟨_, rfl⟩
    have B7 := hide (show Blk w7 w.heap.size 24 [.int .i64 i.id, .int .i64 i.kind, .int .i64 i.len, .slice A3 i.trims.length c3, .slice A4 i.talks.length c4, .int .i64 i.artist, .int .i64 n, .int .i64 i.lang] by rw [← hw7]; exact B6.out.set_ 6 (.int .i64 n))
    have u7 : Upd [w.heap.size] w6 w7 := by rw [← hw7]; exact (Upd.refl _ _).setCell (p := ⟨w.heap.size, 6, none⟩) (.inl (by simp)) _
    have R7 := hide (R6.out.upd u7 (by simp))
    have UW := hide u7
    have HW7 := hide hw7
    clear hw7 u7
    go_upto_region 26 with fail
    rw [HW7.out]
    clear HW7
    clear m0 f0 m1 f1 m2 f2 m3 f3 m4 f4 m5 f5 m6 f6 m7 f7
    have m0 := B7.out.cell 0
    have m1 := B7.out.cell 1
    have m2 := B7.out.cell 2
    have m3 := B7.out.cell 3
    have m4 := B7.out.cell 4
    have m5 := B7.out.cell 5
    have m6 := B7.out.cell 6
    have m7 := B7.out.cell 7
    have f0 := B7.out.frozen 0
    have f1 := B7.out.frozen 1
    have f2 := B7.out.frozen 2
    have f3 := B7.out.frozen 3
    have f4 := B7.out.frozen 4
    have f5 := B7.out.frozen 5
    have f6 := B7.out.frozen 6
    have f7 := B7.out.frozen 7
    have r0 := R7.out.cell 0
    have q0 := R7.out.frozen 0
    have r1 := R7.out.cell 1
    have q1 := R7.out.frozen 1
    have r2 := R7.out.cell 2
    have q2 := R7.out.frozen 2
    have r3 := R7.out.cell 3
    have q3 := R7.out.frozen 3
    have r4 := R7.out.cell 4
    have q4 := R7.out.frozen 4
    have r5 := R7.out.cell 5
    have q5 := R7.out.frozen 5
    have r6 := R7.out.cell 6
    have q6 := R7.out.frozen 6
    have r7 := R7.out.cell 7
    have q7 := R7.out.frozen 7
    go_wp2_with fail
    obtain ⟨wf, hwf⟩ : ∃ x, ((((((((w7.setCell ⟨w.heap.size + 1, 0, none⟩ (.int .i64 i.id)).setCell ⟨w.heap.size + 1, 1, none⟩ (.int .i64 i.kind)).setCell ⟨w.heap.size + 1, 2, none⟩ (.int .i64 i.len)).setCell ⟨w.heap.size + 1, 3, none⟩ (.slice A3 i.trims.length c3)).setCell ⟨w.heap.size + 1, 4, none⟩ (.slice A4 i.talks.length c4)).setCell ⟨w.heap.size + 1, 5, none⟩ (.int .i64 i.artist)).setCell ⟨w.heap.size + 1, 6, none⟩ (.int .i64 n)).setCell ⟨w.heap.size + 1, 7, none⟩ (.int .i64 i.lang)) = x := ⟨_, rfl⟩
    have bf : Blk wf (w.heap.size + 1) 24 [.int .i64 i.id, .int .i64 i.kind, .int .i64 i.len, .slice A3 i.trims.length c3, .slice A4 i.talks.length c4, .int .i64 i.artist, .int .i64 n, .int .i64 i.lang] := by rw [← hwf]; exact ((((((((R7.out.set_ 0 (.int .i64 i.id)).set_ 1 (.int .i64 i.kind)).set_ 2 (.int .i64 i.len)).set_ 3 (.slice A3 i.trims.length c3)).set_ 4 (.slice A4 i.talks.length c4)).set_ 5 (.int .i64 i.artist)).set_ 6 (.int .i64 n)).set_ 7 (.int .i64 i.lang))
    have uf : Upd [w.heap.size + 1] w7 wf := by rw [← hwf]; exact (((((((((Upd.refl [w.heap.size + 1] w7).setCell (p := ⟨w.heap.size + 1, 0, none⟩) (.inl (by simp)) _).setCell (p := ⟨w.heap.size + 1, 1, none⟩) (.inl (by simp)) _).setCell (p := ⟨w.heap.size + 1, 2, none⟩) (.inl (by simp)) _).setCell (p := ⟨w.heap.size + 1, 3, none⟩) (.inl (by simp)) _).setCell (p := ⟨w.heap.size + 1, 4, none⟩) (.inl (by simp)) _).setCell (p := ⟨w.heap.size + 1, 5, none⟩) (.inl (by simp)) _).setCell (p := ⟨w.heap.size + 1, 6, none⟩) (.inl (by simp)) _).setCell (p := ⟨w.heap.size + 1, 7, none⟩) (.inl (by simp)) _)
    rw [hwf]
    clear hwf
    have UF := hide uf
    clear uf
    have v0 := bf.cell 0
    have v1 := bf.cell 1
    have v2 := bf.cell 2
    have v3 := bf.cell 3
    have v4 := bf.cell 4
    have v5 := bf.cell 5
    have v6 := bf.cell 6
    have v7 := bf.cell 7
    refine bodyPost_ret (v := .agg #[.int .i64 i.id, .int .i64 i.kind, .int .i64 i.len, .slice A3 i.trims.length c3, .slice A4 i.talks.length c4, .int .i64 i.artist, .int .i64 n, .int .i64 i.lang]) (by simp [results, Try.results11, go_sem, v0, v1, v2, v3, v4, v5, v6, v7]) rfl ?_
    obtain ⟨uc, ut, uk⟩ := bent_end UU6.out UW.out UF.out B6.out R6.out ROW3.out ROW4.out HZ2.out
    have ej : bentS i how n at_ = { i with tempo := n } := by unfold bentS; simp [HC.out]
    rw [ej]
    exact ⟨A3, c3, A4, c4, rfl, ⟨ut, uk⟩, uc⟩
  · have hcv : True := trivial
    obtain ⟨w7, hw7⟩ : ∃ x, w6.setCell ⟨w.heap.size, 7, none⟩ (.int .i64 n) = x := ⟨_, rfl⟩
    have B7 := hide (show Blk w7 w.heap.size 24 [.int .i64 i.id, .int .i64 i.kind, .int .i64 i.len, .slice A3 i.trims.length c3, .slice A4 i.talks.length c4, .int .i64 i.artist, .int .i64 i.tempo, .int .i64 n] by rw [← hw7]; exact B6.out.set_ 7 (.int .i64 n))
    have u7 : Upd [w.heap.size] w6 w7 := by rw [← hw7]; exact (Upd.refl _ _).setCell (p := ⟨w.heap.size, 7, none⟩) (.inl (by simp)) _
    have R7 := hide (R6.out.upd u7 (by simp))
    have UW := hide u7
    have HW7 := hide hw7
    clear hw7 u7
    go_upto_region 26 with fail
    rw [HW7.out]
    clear HW7
    clear m0 f0 m1 f1 m2 f2 m3 f3 m4 f4 m5 f5 m6 f6 m7 f7
    have m0 := B7.out.cell 0
    have m1 := B7.out.cell 1
    have m2 := B7.out.cell 2
    have m3 := B7.out.cell 3
    have m4 := B7.out.cell 4
    have m5 := B7.out.cell 5
    have m6 := B7.out.cell 6
    have m7 := B7.out.cell 7
    have f0 := B7.out.frozen 0
    have f1 := B7.out.frozen 1
    have f2 := B7.out.frozen 2
    have f3 := B7.out.frozen 3
    have f4 := B7.out.frozen 4
    have f5 := B7.out.frozen 5
    have f6 := B7.out.frozen 6
    have f7 := B7.out.frozen 7
    have r0 := R7.out.cell 0
    have q0 := R7.out.frozen 0
    have r1 := R7.out.cell 1
    have q1 := R7.out.frozen 1
    have r2 := R7.out.cell 2
    have q2 := R7.out.frozen 2
    have r3 := R7.out.cell 3
    have q3 := R7.out.frozen 3
    have r4 := R7.out.cell 4
    have q4 := R7.out.frozen 4
    have r5 := R7.out.cell 5
    have q5 := R7.out.frozen 5
    have r6 := R7.out.cell 6
    have q6 := R7.out.frozen 6
    have r7 := R7.out.cell 7
    have q7 := R7.out.frozen 7
    go_wp2_with fail
    obtain ⟨wf, hwf⟩ : ∃ x, ((((((((w7.setCell ⟨w.heap.size + 1, 0, none⟩ (.int .i64 i.id)).setCell ⟨w.heap.size + 1, 1, none⟩ (.int .i64 i.kind)).setCell ⟨w.heap.size + 1, 2, none⟩ (.int .i64 i.len)).setCell ⟨w.heap.size + 1, 3, none⟩ (.slice A3 i.trims.length c3)).setCell ⟨w.heap.size + 1, 4, none⟩ (.slice A4 i.talks.length c4)).setCell ⟨w.heap.size + 1, 5, none⟩ (.int .i64 i.artist)).setCell ⟨w.heap.size + 1, 6, none⟩ (.int .i64 i.tempo)).setCell ⟨w.heap.size + 1, 7, none⟩ (.int .i64 n)) = x := ⟨_, rfl⟩
    have bf : Blk wf (w.heap.size + 1) 24 [.int .i64 i.id, .int .i64 i.kind, .int .i64 i.len, .slice A3 i.trims.length c3, .slice A4 i.talks.length c4, .int .i64 i.artist, .int .i64 i.tempo, .int .i64 n] := by rw [← hwf]; exact ((((((((R7.out.set_ 0 (.int .i64 i.id)).set_ 1 (.int .i64 i.kind)).set_ 2 (.int .i64 i.len)).set_ 3 (.slice A3 i.trims.length c3)).set_ 4 (.slice A4 i.talks.length c4)).set_ 5 (.int .i64 i.artist)).set_ 6 (.int .i64 i.tempo)).set_ 7 (.int .i64 n))
    have uf : Upd [w.heap.size + 1] w7 wf := by rw [← hwf]; exact (((((((((Upd.refl [w.heap.size + 1] w7).setCell (p := ⟨w.heap.size + 1, 0, none⟩) (.inl (by simp)) _).setCell (p := ⟨w.heap.size + 1, 1, none⟩) (.inl (by simp)) _).setCell (p := ⟨w.heap.size + 1, 2, none⟩) (.inl (by simp)) _).setCell (p := ⟨w.heap.size + 1, 3, none⟩) (.inl (by simp)) _).setCell (p := ⟨w.heap.size + 1, 4, none⟩) (.inl (by simp)) _).setCell (p := ⟨w.heap.size + 1, 5, none⟩) (.inl (by simp)) _).setCell (p := ⟨w.heap.size + 1, 6, none⟩) (.inl (by simp)) _).setCell (p := ⟨w.heap.size + 1, 7, none⟩) (.inl (by simp)) _)
    rw [hwf]
    clear hwf
    have UF := hide uf
    clear uf
    have v0 := bf.cell 0
    have v1 := bf.cell 1
    have v2 := bf.cell 2
    have v3 := bf.cell 3
    have v4 := bf.cell 4
    have v5 := bf.cell 5
    have v6 := bf.cell 6
    have v7 := bf.cell 7
    refine bodyPost_ret (v := .agg #[.int .i64 i.id, .int .i64 i.kind, .int .i64 i.len, .slice A3 i.trims.length c3, .slice A4 i.talks.length c4, .int .i64 i.artist, .int .i64 i.tempo, .int .i64 n]) (by simp [results, Try.results11, go_sem, v0, v1, v2, v3, v4, v5, v6, v7]) rfl ?_
    obtain ⟨uc, ut, uk⟩ := bent_end UU6.out UW.out UF.out B6.out R6.out ROW3.out ROW4.out HZ2.out
    have ej : bentS i how n at_ = { i with lang := n } := by unfold bentS; simp [HC.out]
    rw [ej]
    exact ⟨A3, c3, A4, c4, rfl, ⟨ut, uk⟩, uc⟩
  · have hcv : True := trivial
    by_cases h0 : i.trims.length = 0
    case pos =>
      have hgt : ¬ (0 : Int) < (i.trims.length : Int) := by omega
      have hgtd : decide ((0 : Int) < (i.trims.length : Int)) = false := decide_eq_false hgt
      have HL0 := hide (show i.trims = [] from List.eq_nil_of_length_eq_zero h0)
      clear h0
      go_upto_region 26 with fail
      have r0 := R6.out.cell 0
      have q0 := R6.out.frozen 0
      have r1 := R6.out.cell 1
      have q1 := R6.out.frozen 1
      have r2 := R6.out.cell 2
      have q2 := R6.out.frozen 2
      have r3 := R6.out.cell 3
      have q3 := R6.out.frozen 3
      have r4 := R6.out.cell 4
      have q4 := R6.out.frozen 4
      have r5 := R6.out.cell 5
      have q5 := R6.out.frozen 5
      have r6 := R6.out.cell 6
      have q6 := R6.out.frozen 6
      have r7 := R6.out.cell 7
      have q7 := R6.out.frozen 7
      go_wp2_with fail
      obtain ⟨wf, hwf⟩ : ∃ x, ((((((((w6.setCell ⟨w.heap.size + 1, 0, none⟩ (.int .i64 i.id)).setCell ⟨w.heap.size + 1, 1, none⟩ (.int .i64 i.kind)).setCell ⟨w.heap.size + 1, 2, none⟩ (.int .i64 i.len)).setCell ⟨w.heap.size + 1, 3, none⟩ (.slice A3 i.trims.length c3)).setCell ⟨w.heap.size + 1, 4, none⟩ (.slice A4 i.talks.length c4)).setCell ⟨w.heap.size + 1, 5, none⟩ (.int .i64 i.artist)).setCell ⟨w.heap.size + 1, 6, none⟩ (.int .i64 i.tempo)).setCell ⟨w.heap.size + 1, 7, none⟩ (.int .i64 i.lang)) = x := ⟨_, rfl⟩
      have bf : Blk wf (w.heap.size + 1) 24 [.int .i64 i.id, .int .i64 i.kind, .int .i64 i.len, .slice A3 i.trims.length c3, .slice A4 i.talks.length c4, .int .i64 i.artist, .int .i64 i.tempo, .int .i64 i.lang] := by rw [← hwf]; exact ((((((((R6.out.set_ 0 (.int .i64 i.id)).set_ 1 (.int .i64 i.kind)).set_ 2 (.int .i64 i.len)).set_ 3 (.slice A3 i.trims.length c3)).set_ 4 (.slice A4 i.talks.length c4)).set_ 5 (.int .i64 i.artist)).set_ 6 (.int .i64 i.tempo)).set_ 7 (.int .i64 i.lang))
      have uf : Upd [w.heap.size + 1] w6 wf := by rw [← hwf]; exact (((((((((Upd.refl [w.heap.size + 1] w6).setCell (p := ⟨w.heap.size + 1, 0, none⟩) (.inl (by simp)) _).setCell (p := ⟨w.heap.size + 1, 1, none⟩) (.inl (by simp)) _).setCell (p := ⟨w.heap.size + 1, 2, none⟩) (.inl (by simp)) _).setCell (p := ⟨w.heap.size + 1, 3, none⟩) (.inl (by simp)) _).setCell (p := ⟨w.heap.size + 1, 4, none⟩) (.inl (by simp)) _).setCell (p := ⟨w.heap.size + 1, 5, none⟩) (.inl (by simp)) _).setCell (p := ⟨w.heap.size + 1, 6, none⟩) (.inl (by simp)) _).setCell (p := ⟨w.heap.size + 1, 7, none⟩) (.inl (by simp)) _)
      rw [hwf]
      clear hwf
      have UF := hide uf
      clear uf
      have v0 := bf.cell 0
      have v1 := bf.cell 1
      have v2 := bf.cell 2
      have v3 := bf.cell 3
      have v4 := bf.cell 4
      have v5 := bf.cell 5
      have v6 := bf.cell 6
      have v7 := bf.cell 7
      refine bodyPost_ret (v := .agg #[.int .i64 i.id, .int .i64 i.kind, .int .i64 i.len, .slice A3 i.trims.length c3, .slice A4 i.talks.length c4, .int .i64 i.artist, .int .i64 i.tempo, .int .i64 i.lang]) (by simp [results, Try.results11, go_sem, v0, v1, v2, v3, v4, v5, v6, v7]) rfl ?_
      obtain ⟨uc, ut, uk⟩ := bent_end UU6.out (Upd.refl _ _) UF.out B6.out R6.out ROW3.out ROW4.out HZ2.out
      have ej : bentS i how n at_ = { i with trims := setFr i.trims (pickS at_ i.trims.length).toNat n } := by unfold bentS; simp [HC.out]
      rw [ej]
      have ee : setFr i.trims (pickS at_ i.trims.length).toNat n = i.trims := by rw [HL0.out]; rfl
      rw [ee]
      exact ⟨A3, c3, A4, c4, rfl, ⟨ut, uk⟩, uc⟩
    have hgt : (0 : Int) < i.trims.length := by omega
    have hgtn : 0 < i.trims.length := by omega
    obtain ⟨jj, hj⟩ : ∃ a, pickS at_ i.trims.length = a := ⟨_, rfl⟩
    have hjb := pickS_bounds at_ i.trims.length (by omega)
    rw [hj] at hjb
    have PA := fun W => refPick at_ i.trims.length W hat.1 hat.2 (by omega) (by omega)
    obtain ⟨j, rfl⟩ : ∃ j : Nat, jj = (j : Int) := ⟨jj.toNat, by omega⟩
    simp only [hj] at PA
    have HPA := hide PA
    have HJ := hide hj
    clear PA hj
    have hjl : j < i.trims.length := by omega
    have hji : (j : Int) < i.trims.length := by omega
    clear hjb h0
    obtain ⟨g, cur, eA, hgb, hgc⟩ := it_own_some ROW3.out (by omega)
    subst eA
    have BG := hide (show Blk w6 g 53 cur.toList by show w6.heap[g]? = _; rw [hgc])
    clear hgc
    obtain ⟨sp, hsp⟩ : ∃ sp, i.trims[j]? = some sp := ⟨_, List.getElem?_eq_getElem hjl⟩
    obtain ⟨b, o, eb, _, c0, c1⟩ := own_sps ROW3.out j sp hsp
    injection eb with eb
    injection eb with e1 e2
    subst e1 e2
    rw [Nat.zero_add] at c0 c1
    have fz := BG.out.frozen (j * 2)
    have HGB := hide hgb
    clear hsp hgb
    go_upto_region 19 with fail
    have ce' : w6.drew.cell? ⟨g, j * 2, none⟩ = some (.int .i64 sp.fr) := c0
    have fe' : w6.drew.frozen? ⟨g, j * 2, none⟩ = false := fz
    have HNE := hide (show g ≠ w.heap.size from BG.out.ne_ B6.out (by decide))
    have HNR := hide (show g ≠ w.heap.size + 1 from BG.out.ne_ R6.out (by decide))
    refine wp_region_held_drew (S := (fun w' => w'.cell? ⟨w.heap.size, 3, none⟩ = some (.slice (some ⟨g, 0, none⟩) i.trims.length c3))) (by kernel_rfl) (by exact m3) (fun hHeld => ?_)
    refine wpAnyH_take (i := 0) (oi := ?oi0B1) (v := ?v0B1) ?oi0_0B1 (by kernel_rfl) ?ff0B1 ?rr0B1 ?hq0B1 (Or.inl ⟨?hw0B1, ?hy0B1⟩) (by assumption) ?rest0B1
    case oi0_0B1 =>
      conv =>
        lhs
        whnf
        arg 1
        whnf
    case hq0B1 => exact fun _ _ _ h => h
    case ff0B1 => kernel_rfl
    case rr0B1 => kernel_rfl
    case hw0B1 => rfl
    case hy0B1 =>
      intro w hSw
      (try dsimp only at hSw)
      first
      | (go_simp; done)
      | (go_simp; with_reducible rfl)
    try simp only [Act.put, List.setIfInBounds_toArray, List.set_cons_zero, List.set_cons_succ]
    refine wpAnyH_take (i := 1) (oi := ?oi1B1) (v := ?v1B1) ?oi0_1B1 (by kernel_rfl) ?ff1B1 ?rr1B1 ?hq1B1 (Or.inl ⟨?hw1B1, ?hy1B1⟩) (by assumption) ?rest1B1
    case oi0_1B1 =>
      conv =>
        lhs
        whnf
        arg 1
        whnf
    case hq1B1 => exact fun _ _ _ h => h
    case ff1B1 => kernel_rfl
    case rr1B1 => kernel_rfl
    case hw1B1 => rfl
    case hy1B1 =>
      intro w hSw
      (try dsimp only at hSw)
      first
      | (go_simp; done)
      | (go_simp; with_reducible rfl)
    try simp only [Act.put, List.setIfInBounds_toArray, List.set_cons_zero, List.set_cons_succ]
    refine wpAnyH_take (i := 2) (oi := ?oi2B1) (v := ?v2B1) ?oi0_2B1 (by kernel_rfl) ?ff2B1 ?rr2B1 ?hq2B1 (Or.inl ⟨?hw2B1, ?hy2B1⟩) (by assumption) ?rest2B1
    case oi0_2B1 =>
      conv =>
        lhs
        whnf
        arg 1
        whnf
    case hq2B1 => exact fun _ _ _ h => h
    case ff2B1 => kernel_rfl
    case rr2B1 => kernel_rfl
    case hw2B1 => rfl
    case hy2B1 =>
      intro w hSw
      (try dsimp only at hSw)
      first
      | (go_simp; done)
      | (go_simp; with_reducible rfl)
    try simp only [Act.put, List.setIfInBounds_toArray, List.set_cons_zero, List.set_cons_succ]
    refine wpAnyH_take (i := 3) (oi := ?oi3B1) (v := ?v3B1) ?oi0_3B1 (by kernel_rfl) ?ff3B1 ?rr3B1 ?hq3B1 (Or.inl ⟨?hw3B1, ?hy3B1⟩) (by assumption) ?rest3B1
    case oi0_3B1 =>
      conv =>
        lhs
        whnf
        arg 1
        whnf
    case hq3B1 => exact fun _ _ _ h => h
    case ff3B1 => kernel_rfl
    case rr3B1 => kernel_rfl
    case hw3B1 => rfl
    case hy3B1 =>
      intro w hSw
      (try dsimp only at hSw)
      first
      | (go_simp; done)
      | (go_simp; with_reducible rfl)
    try simp only [Act.put, List.setIfInBounds_toArray, List.set_cons_zero, List.set_cons_succ]
    refine wpAnyH_take (i := 4) (oi := ?oi4B1) (v := ?v4B1) ?oi0_4B1 (by kernel_rfl) ?ff4B1 ?rr4B1 ?hq4B1 (Or.inl ⟨?hw4B1, ?hy4B1⟩) (by assumption) ?rest4B1
    case oi0_4B1 =>
      conv =>
        lhs
        whnf
        arg 1
        whnf
    case hq4B1 => exact fun _ _ _ h => h
    case ff4B1 => kernel_rfl
    case rr4B1 => kernel_rfl
    case hw4B1 => rfl
    case hy4B1 =>
      intro w hSw
      (try dsimp only at hSw)
      first
      | (go_simp; done)
      | (go_simp; with_reducible rfl)
    try simp only [Act.put, List.setIfInBounds_toArray, List.set_cons_zero, List.set_cons_succ]
    refine wpAnyH_take (i := 5) (oi := ?oi5B1) (v := ?v5B1) ?oi0_5B1 (by kernel_rfl) ?ff5B1 ?rr5B1 ?hq5B1 (Or.inl ⟨?hw5B1, ?hy5B1⟩) (by assumption) ?rest5B1
    case oi0_5B1 =>
      conv =>
        lhs
        whnf
        arg 1
        whnf
    case hq5B1 => exact fun _ _ _ h => h
    case ff5B1 => kernel_rfl
    case rr5B1 => kernel_rfl
    case hw5B1 => rfl
    case hy5B1 =>
      intro w hSw
      (try dsimp only at hSw)
      first
      | (go_simp; done)
      | (go_simp; with_reducible rfl)
    try simp only [Act.put, List.setIfInBounds_toArray, List.set_cons_zero, List.set_cons_succ]
    refine wpAnyH_take (i := 7) (oi := ?oi7B1) (v := ?v7B1) ?oi0_7B1 (by kernel_rfl) ?ff7B1 ?rr7B1 ?hq7B1 (Or.inl ⟨?hw7B1, ?hy7B1⟩) (by assumption) ?rest7B1
    case oi0_7B1 =>
      conv =>
        lhs
        whnf
        arg 1
        whnf
    case hq7B1 => exact fun _ _ _ h => h
    case ff7B1 => kernel_rfl
    case rr7B1 => kernel_rfl
    case hw7B1 => rfl
    case hy7B1 =>
      intro w hSw
      (try dsimp only at hSw)
      first
      | (go_simp; done)
      | (go_simp; with_reducible rfl)
    try simp only [Act.put, List.setIfInBounds_toArray, List.set_cons_zero, List.set_cons_succ]
    refine wpAnyH_ready (rs := [6]) (by kernel_rfl) (by simp) (AllReadyH.cons (o := ?oi6B1) ?oi0_6B1 (fun K hK => ?_) AllReadyH.nil)
    case oi0_6B1 =>
      conv =>
        lhs
        whnf
        arg 1
        whnf
    go_simp
    refine (HPA.out _).mono ?_
    rintro e1 w' ⟨rfl, rfl⟩
    (try dsimp only)
    refine hK.out _ _ (by assumption) (fun hHeld => ?_)
    clear hK K
    try simp only [Act.put, List.setIfInBounds_toArray, List.set_cons_zero, List.set_cons_succ]
    refine wpAnyH_take (i := 8) (oi := ?oi8B1) (v := ?v8B1) ?oi0_8B1 (by kernel_rfl) ?ff8B1 ?rr8B1 ?hq8B1 (Or.inl ⟨?hw8B1, ?hy8B1⟩) (by assumption) ?rest8B1
    case oi0_8B1 =>
      conv =>
        lhs
        whnf
        arg 1
        whnf
    case hq8B1 => exact fun _ _ _ h => h
    case ff8B1 => kernel_rfl
    case rr8B1 => kernel_rfl
    case hw8B1 => rfl
    case hy8B1 =>
      intro w hSw
      (try dsimp only at hSw)
      first
      | (go_simp; done)
      | (go_simp; with_reducible rfl)
    try simp only [Act.put, List.setIfInBounds_toArray, List.set_cons_zero, List.set_cons_succ]
    refine wpAnyH_take (i := 9) (oi := ?oi9B1) (v := ?v9B1) ?oi0_9B1 (by kernel_rfl) ?ff9B1 ?rr9B1 ?hq9B1 (Or.inl ⟨?hw9B1, ?hy9B1⟩) (by assumption) ?rest9B1
    case oi0_9B1 =>
      conv =>
        lhs
        whnf
        arg 1
        whnf
    case hq9B1 => exact fun _ _ _ h => h
    case ff9B1 => kernel_rfl
    case rr9B1 => kernel_rfl
    case hw9B1 => rfl
    case hy9B1 =>
      intro w hSw
      (try dsimp only at hSw)
      first
      | (go_simp; done)
      | (go_simp; with_reducible rfl)
    try simp only [Act.put, List.setIfInBounds_toArray, List.set_cons_zero, List.set_cons_succ]
    refine wpAnyH_ready (rs := [10]) (by kernel_rfl) (by simp) (AllReadyH.cons (o := ?oi10B1) ?oi0_10B1 (fun K hK => ?_) AllReadyH.nil)
    case oi0_10B1 =>
      conv =>
        lhs
        whnf
        arg 1
        whnf
    go_simp
    (try dsimp only)
    refine hK.out _ _ (by show (w6.setCell ⟨g, j * 2, none⟩ (.int .i64 n)).cell? ⟨w.heap.size, 3, none⟩ = _; rw [World.cell?_setCell_far _ _ _ _ (by show g ≠ w.heap.size; exact HNE.out)]; exact m3) (fun hHeld => ?_)
    clear hK K
    try simp only [Act.put, List.setIfInBounds_toArray, List.set_cons_zero, List.set_cons_succ]
    refine wpAnyH_done (by kernel_rfl) ?_ _
    obtain ⟨w7, hw7⟩ : ∃ x, (w6.setCell ⟨g, j * 2, none⟩ (.int .i64 n)).drew = x := ⟨_, rfl⟩
    have ud : Upd [] w6 w6.drew := (Upd.refl [] _).drew
    have u7 : Upd [g] w6 w7 := by rw [← hw7]; exact ((Upd.refl [g] w6).setCell (p := ⟨g, j * 2, none⟩) (.inl (by simp)) _).drew
    have B7 := hide (B6.out.upd u7 (by simpa using fun e => HNE.out e.symm))
    have R7 := hide (R6.out.upd u7 (by simpa using fun e => HNR.out e.symm))
    have r6 := it_own_set ROW3.out (j * 2) (.int .i64 n)
    rw [spCells_setFr] at r6
    have r7 := own_kept r6 ((Upd.refl [] _).drew) (by simp)
    rw [hw7] at r7
    clear r6
    have ROW37 := hide r7
    have ROW47 := hide (own_kept ROW4.out u7 (fun q hq hm => by obtain rfl : q = g := List.mem_singleton.1 hm; have h1 := it_own_block ROW4.out q hq; have h2 := HLT3.out q rfl; omega))
    have UU7 := hide (show Upd [] w w7 from UU6.out.trans u7 (fun x hx => .inr (by obtain rfl : x = g := List.mem_singleton.1 hx; have h1 := HGB.out; have h2 := HZ2.out; have h3 := HZ4.out; omega)))
    rw [hw7]
    clear hw7 u7 ud r7 ce' fe' fz c0 c1
    clear m0 f0 m1 f1 m2 f2 m3 f3 m4 f4 m5 f5 m6 f6 m7 f7
    have m0 := B7.out.cell 0
    have m1 := B7.out.cell 1
    have m2 := B7.out.cell 2
    have m3 := B7.out.cell 3
    have m4 := B7.out.cell 4
    have m5 := B7.out.cell 5
    have m6 := B7.out.cell 6
    have m7 := B7.out.cell 7
    have f0 := B7.out.frozen 0
    have f1 := B7.out.frozen 1
    have f2 := B7.out.frozen 2
    have f3 := B7.out.frozen 3
    have f4 := B7.out.frozen 4
    have f5 := B7.out.frozen 5
    have f6 := B7.out.frozen 6
    have f7 := B7.out.frozen 7
    have r0 := R7.out.cell 0
    have q0 := R7.out.frozen 0
    have r1 := R7.out.cell 1
    have q1 := R7.out.frozen 1
    have r2 := R7.out.cell 2
    have q2 := R7.out.frozen 2
    have r3 := R7.out.cell 3
    have q3 := R7.out.frozen 3
    have r4 := R7.out.cell 4
    have q4 := R7.out.frozen 4
    have r5 := R7.out.cell 5
    have q5 := R7.out.frozen 5
    have r6 := R7.out.cell 6
    have q6 := R7.out.frozen 6
    have r7 := R7.out.cell 7
    have q7 := R7.out.frozen 7
    go_upto_region 26 with fail
    go_wp2_with fail
    obtain ⟨wf, hwf⟩ : ∃ x, ((((((((w7.setCell ⟨w.heap.size + 1, 0, none⟩ (.int .i64 i.id)).setCell ⟨w.heap.size + 1, 1, none⟩ (.int .i64 i.kind)).setCell ⟨w.heap.size + 1, 2, none⟩ (.int .i64 i.len)).setCell ⟨w.heap.size + 1, 3, none⟩ (.slice (some ⟨g, 0, none⟩) i.trims.length c3)).setCell ⟨w.heap.size + 1, 4, none⟩ (.slice A4 i.talks.length c4)).setCell ⟨w.heap.size + 1, 5, none⟩ (.int .i64 i.artist)).setCell ⟨w.heap.size + 1, 6, none⟩ (.int .i64 i.tempo)).setCell ⟨w.heap.size + 1, 7, none⟩ (.int .i64 i.lang)) = x := ⟨_, rfl⟩
    have bf : Blk wf (w.heap.size + 1) 24 [.int .i64 i.id, .int .i64 i.kind, .int .i64 i.len, .slice (some ⟨g, 0, none⟩) i.trims.length c3, .slice A4 i.talks.length c4, .int .i64 i.artist, .int .i64 i.tempo, .int .i64 i.lang] := by rw [← hwf]; exact ((((((((R7.out.set_ 0 (.int .i64 i.id)).set_ 1 (.int .i64 i.kind)).set_ 2 (.int .i64 i.len)).set_ 3 (.slice (some ⟨g, 0, none⟩) i.trims.length c3)).set_ 4 (.slice A4 i.talks.length c4)).set_ 5 (.int .i64 i.artist)).set_ 6 (.int .i64 i.tempo)).set_ 7 (.int .i64 i.lang))
    have uf : Upd [w.heap.size + 1] w7 wf := by rw [← hwf]; exact (((((((((Upd.refl [w.heap.size + 1] w7).setCell (p := ⟨w.heap.size + 1, 0, none⟩) (.inl (by simp)) _).setCell (p := ⟨w.heap.size + 1, 1, none⟩) (.inl (by simp)) _).setCell (p := ⟨w.heap.size + 1, 2, none⟩) (.inl (by simp)) _).setCell (p := ⟨w.heap.size + 1, 3, none⟩) (.inl (by simp)) _).setCell (p := ⟨w.heap.size + 1, 4, none⟩) (.inl (by simp)) _).setCell (p := ⟨w.heap.size + 1, 5, none⟩) (.inl (by simp)) _).setCell (p := ⟨w.heap.size + 1, 6, none⟩) (.inl (by simp)) _).setCell (p := ⟨w.heap.size + 1, 7, none⟩) (.inl (by simp)) _)
    rw [hwf]
    clear hwf
    have UF := hide uf
    clear uf
    have v0 := bf.cell 0
    have v1 := bf.cell 1
    have v2 := bf.cell 2
    have v3 := bf.cell 3
    have v4 := bf.cell 4
    have v5 := bf.cell 5
    have v6 := bf.cell 6
    have v7 := bf.cell 7
    refine bodyPost_ret (v := .agg #[.int .i64 i.id, .int .i64 i.kind, .int .i64 i.len, .slice (some ⟨g, 0, none⟩) i.trims.length c3, .slice A4 i.talks.length c4, .int .i64 i.artist, .int .i64 i.tempo, .int .i64 i.lang]) (by simp [results, Try.results11, go_sem, v0, v1, v2, v3, v4, v5, v6, v7]) rfl ?_
    obtain ⟨uc, ut, uk⟩ := bent_end UU7.out (Upd.refl _ _) UF.out B7.out R7.out ROW37.out ROW47.out HZ2.out
    have ej : bentS i how n at_ = { i with trims := setFr i.trims (pickS at_ i.trims.length).toNat n } := by unfold bentS; simp [HC.out]
    rw [ej]
    have ee : (setFr i.trims (pickS at_ i.trims.length).toNat n).length = i.trims.length := by unfold setFr; rw [List.length_set]
    have et : (pickS at_ i.trims.length).toNat = j := by rw [HJ.out]; rfl
    rw [et] at ee ⊢
    refine ⟨(some ⟨g, 0, none⟩), c3, A4, c4, by rw [ee], ⟨ut, uk⟩, uc⟩
  · have hcv : True := trivial
    by_cases h0 : i.trims.length = 0
    case pos =>
      have hgt : ¬ (0 : Int) < (i.trims.length : Int) := by omega
      have hgtd : decide ((0 : Int) < (i.trims.length : Int)) = false := decide_eq_false hgt
      have HL0 := hide (show i.trims = [] from List.eq_nil_of_length_eq_zero h0)
      clear h0
      go_upto_region 26 with fail
      have r0 := R6.out.cell 0
      have q0 := R6.out.frozen 0
      have r1 := R6.out.cell 1
      have q1 := R6.out.frozen 1
      have r2 := R6.out.cell 2
      have q2 := R6.out.frozen 2
      have r3 := R6.out.cell 3
      have q3 := R6.out.frozen 3
      have r4 := R6.out.cell 4
      have q4 := R6.out.frozen 4
      have r5 := R6.out.cell 5
      have q5 := R6.out.frozen 5
      have r6 := R6.out.cell 6
      have q6 := R6.out.frozen 6
      have r7 := R6.out.cell 7
      have q7 := R6.out.frozen 7
      go_wp2_with fail
      obtain ⟨wf, hwf⟩ : ∃ x, ((((((((w6.setCell ⟨w.heap.size + 1, 0, none⟩ (.int .i64 i.id)).setCell ⟨w.heap.size + 1, 1, none⟩ (.int .i64 i.kind)).setCell ⟨w.heap.size + 1, 2, none⟩ (.int .i64 i.len)).setCell ⟨w.heap.size + 1, 3, none⟩ (.slice A3 i.trims.length c3)).setCell ⟨w.heap.size + 1, 4, none⟩ (.slice A4 i.talks.length c4)).setCell ⟨w.heap.size + 1, 5, none⟩ (.int .i64 i.artist)).setCell ⟨w.heap.size + 1, 6, none⟩ (.int .i64 i.tempo)).setCell ⟨w.heap.size + 1, 7, none⟩ (.int .i64 i.lang)) = x := ⟨_, rfl⟩
      have bf : Blk wf (w.heap.size + 1) 24 [.int .i64 i.id, .int .i64 i.kind, .int .i64 i.len, .slice A3 i.trims.length c3, .slice A4 i.talks.length c4, .int .i64 i.artist, .int .i64 i.tempo, .int .i64 i.lang] := by rw [← hwf]; exact ((((((((R6.out.set_ 0 (.int .i64 i.id)).set_ 1 (.int .i64 i.kind)).set_ 2 (.int .i64 i.len)).set_ 3 (.slice A3 i.trims.length c3)).set_ 4 (.slice A4 i.talks.length c4)).set_ 5 (.int .i64 i.artist)).set_ 6 (.int .i64 i.tempo)).set_ 7 (.int .i64 i.lang))
      have uf : Upd [w.heap.size + 1] w6 wf := by rw [← hwf]; exact (((((((((Upd.refl [w.heap.size + 1] w6).setCell (p := ⟨w.heap.size + 1, 0, none⟩) (.inl (by simp)) _).setCell (p := ⟨w.heap.size + 1, 1, none⟩) (.inl (by simp)) _).setCell (p := ⟨w.heap.size + 1, 2, none⟩) (.inl (by simp)) _).setCell (p := ⟨w.heap.size + 1, 3, none⟩) (.inl (by simp)) _).setCell (p := ⟨w.heap.size + 1, 4, none⟩) (.inl (by simp)) _).setCell (p := ⟨w.heap.size + 1, 5, none⟩) (.inl (by simp)) _).setCell (p := ⟨w.heap.size + 1, 6, none⟩) (.inl (by simp)) _).setCell (p := ⟨w.heap.size + 1, 7, none⟩) (.inl (by simp)) _)
      rw [hwf]
      clear hwf
      have UF := hide uf
      clear uf
      have v0 := bf.cell 0
      have v1 := bf.cell 1
      have v2 := bf.cell 2
      have v3 := bf.cell 3
      have v4 := bf.cell 4
      have v5 := bf.cell 5
      have v6 := bf.cell 6
      have v7 := bf.cell 7
      refine bodyPost_ret (v := .agg #[.int .i64 i.id, .int .i64 i.kind, .int .i64 i.len, .slice A3 i.trims.length c3, .slice A4 i.talks.length c4, .int .i64 i.artist, .int .i64 i.tempo, .int .i64 i.lang]) (by simp [results, Try.results11, go_sem, v0, v1, v2, v3, v4, v5, v6, v7]) rfl ?_
      obtain ⟨uc, ut, uk⟩ := bent_end UU6.out (Upd.refl _ _) UF.out B6.out R6.out ROW3.out ROW4.out HZ2.out
      have ej : bentS i how n at_ = { i with trims := setTo i.trims (pickS at_ i.trims.length).toNat n } := by unfold bentS; simp [HC.out]
      rw [ej]
      have ee : setTo i.trims (pickS at_ i.trims.length).toNat n = i.trims := by rw [HL0.out]; rfl
      rw [ee]
      exact ⟨A3, c3, A4, c4, rfl, ⟨ut, uk⟩, uc⟩
    have hgt : (0 : Int) < i.trims.length := by omega
    have hgtn : 0 < i.trims.length := by omega
    obtain ⟨jj, hj⟩ : ∃ a, pickS at_ i.trims.length = a := ⟨_, rfl⟩
    have hjb := pickS_bounds at_ i.trims.length (by omega)
    rw [hj] at hjb
    have PA := fun W => refPick at_ i.trims.length W hat.1 hat.2 (by omega) (by omega)
    obtain ⟨j, rfl⟩ : ∃ j : Nat, jj = (j : Int) := ⟨jj.toNat, by omega⟩
    simp only [hj] at PA
    have HPA := hide PA
    have HJ := hide hj
    clear PA hj
    have hjl : j < i.trims.length := by omega
    have hji : (j : Int) < i.trims.length := by omega
    clear hjb h0
    obtain ⟨g, cur, eA, hgb, hgc⟩ := it_own_some ROW3.out (by omega)
    subst eA
    have BG := hide (show Blk w6 g 53 cur.toList by show w6.heap[g]? = _; rw [hgc])
    clear hgc
    obtain ⟨sp, hsp⟩ : ∃ sp, i.trims[j]? = some sp := ⟨_, List.getElem?_eq_getElem hjl⟩
    obtain ⟨b, o, eb, _, c0, c1⟩ := own_sps ROW3.out j sp hsp
    injection eb with eb
    injection eb with e1 e2
    subst e1 e2
    rw [Nat.zero_add] at c0 c1
    have fz := BG.out.frozen (j * 2 + 1)
    have HGB := hide hgb
    clear hsp hgb
    go_upto_region 22 with fail
    have ce' : w6.drew.cell? ⟨g, j * 2 + 1, none⟩ = some (.int .i64 sp.to_) := c1
    have fe' : w6.drew.frozen? ⟨g, j * 2 + 1, none⟩ = false := fz
    have HNE := hide (show g ≠ w.heap.size from BG.out.ne_ B6.out (by decide))
    have HNR := hide (show g ≠ w.heap.size + 1 from BG.out.ne_ R6.out (by decide))
    refine wp_region_held_drew (S := (fun w' => w'.cell? ⟨w.heap.size, 3, none⟩ = some (.slice (some ⟨g, 0, none⟩) i.trims.length c3))) (by kernel_rfl) (by exact m3) (fun hHeld => ?_)
    refine wpAnyH_take (i := 0) (oi := ?oi0B2) (v := ?v0B2) ?oi0_0B2 (by kernel_rfl) ?ff0B2 ?rr0B2 ?hq0B2 (Or.inl ⟨?hw0B2, ?hy0B2⟩) (by assumption) ?rest0B2
    case oi0_0B2 =>
      conv =>
        lhs
        whnf
        arg 1
        whnf
    case hq0B2 => exact fun _ _ _ h => h
    case ff0B2 => kernel_rfl
    case rr0B2 => kernel_rfl
    case hw0B2 => rfl
    case hy0B2 =>
      intro w hSw
      (try dsimp only at hSw)
      first
      | (go_simp; done)
      | (go_simp; with_reducible rfl)
    try simp only [Act.put, List.setIfInBounds_toArray, List.set_cons_zero, List.set_cons_succ]
    refine wpAnyH_take (i := 1) (oi := ?oi1B2) (v := ?v1B2) ?oi0_1B2 (by kernel_rfl) ?ff1B2 ?rr1B2 ?hq1B2 (Or.inl ⟨?hw1B2, ?hy1B2⟩) (by assumption) ?rest1B2
    case oi0_1B2 =>
      conv =>
        lhs
        whnf
        arg 1
        whnf
    case hq1B2 => exact fun _ _ _ h => h
    case ff1B2 => kernel_rfl
    case rr1B2 => kernel_rfl
    case hw1B2 => rfl
    case hy1B2 =>
      intro w hSw
      (try dsimp only at hSw)
      first
      | (go_simp; done)
      | (go_simp; with_reducible rfl)
    try simp only [Act.put, List.setIfInBounds_toArray, List.set_cons_zero, List.set_cons_succ]
    refine wpAnyH_take (i := 2) (oi := ?oi2B2) (v := ?v2B2) ?oi0_2B2 (by kernel_rfl) ?ff2B2 ?rr2B2 ?hq2B2 (Or.inl ⟨?hw2B2, ?hy2B2⟩) (by assumption) ?rest2B2
    case oi0_2B2 =>
      conv =>
        lhs
        whnf
        arg 1
        whnf
    case hq2B2 => exact fun _ _ _ h => h
    case ff2B2 => kernel_rfl
    case rr2B2 => kernel_rfl
    case hw2B2 => rfl
    case hy2B2 =>
      intro w hSw
      (try dsimp only at hSw)
      first
      | (go_simp; done)
      | (go_simp; with_reducible rfl)
    try simp only [Act.put, List.setIfInBounds_toArray, List.set_cons_zero, List.set_cons_succ]
    refine wpAnyH_take (i := 3) (oi := ?oi3B2) (v := ?v3B2) ?oi0_3B2 (by kernel_rfl) ?ff3B2 ?rr3B2 ?hq3B2 (Or.inl ⟨?hw3B2, ?hy3B2⟩) (by assumption) ?rest3B2
    case oi0_3B2 =>
      conv =>
        lhs
        whnf
        arg 1
        whnf
    case hq3B2 => exact fun _ _ _ h => h
    case ff3B2 => kernel_rfl
    case rr3B2 => kernel_rfl
    case hw3B2 => rfl
    case hy3B2 =>
      intro w hSw
      (try dsimp only at hSw)
      first
      | (go_simp; done)
      | (go_simp; with_reducible rfl)
    try simp only [Act.put, List.setIfInBounds_toArray, List.set_cons_zero, List.set_cons_succ]
    refine wpAnyH_take (i := 4) (oi := ?oi4B2) (v := ?v4B2) ?oi0_4B2 (by kernel_rfl) ?ff4B2 ?rr4B2 ?hq4B2 (Or.inl ⟨?hw4B2, ?hy4B2⟩) (by assumption) ?rest4B2
    case oi0_4B2 =>
      conv =>
        lhs
        whnf
        arg 1
        whnf
    case hq4B2 => exact fun _ _ _ h => h
    case ff4B2 => kernel_rfl
    case rr4B2 => kernel_rfl
    case hw4B2 => rfl
    case hy4B2 =>
      intro w hSw
      (try dsimp only at hSw)
      first
      | (go_simp; done)
      | (go_simp; with_reducible rfl)
    try simp only [Act.put, List.setIfInBounds_toArray, List.set_cons_zero, List.set_cons_succ]
    refine wpAnyH_take (i := 5) (oi := ?oi5B2) (v := ?v5B2) ?oi0_5B2 (by kernel_rfl) ?ff5B2 ?rr5B2 ?hq5B2 (Or.inl ⟨?hw5B2, ?hy5B2⟩) (by assumption) ?rest5B2
    case oi0_5B2 =>
      conv =>
        lhs
        whnf
        arg 1
        whnf
    case hq5B2 => exact fun _ _ _ h => h
    case ff5B2 => kernel_rfl
    case rr5B2 => kernel_rfl
    case hw5B2 => rfl
    case hy5B2 =>
      intro w hSw
      (try dsimp only at hSw)
      first
      | (go_simp; done)
      | (go_simp; with_reducible rfl)
    try simp only [Act.put, List.setIfInBounds_toArray, List.set_cons_zero, List.set_cons_succ]
    refine wpAnyH_take (i := 7) (oi := ?oi7B2) (v := ?v7B2) ?oi0_7B2 (by kernel_rfl) ?ff7B2 ?rr7B2 ?hq7B2 (Or.inl ⟨?hw7B2, ?hy7B2⟩) (by assumption) ?rest7B2
    case oi0_7B2 =>
      conv =>
        lhs
        whnf
        arg 1
        whnf
    case hq7B2 => exact fun _ _ _ h => h
    case ff7B2 => kernel_rfl
    case rr7B2 => kernel_rfl
    case hw7B2 => rfl
    case hy7B2 =>
      intro w hSw
      (try dsimp only at hSw)
      first
      | (go_simp; done)
      | (go_simp; with_reducible rfl)
    try simp only [Act.put, List.setIfInBounds_toArray, List.set_cons_zero, List.set_cons_succ]
    refine wpAnyH_ready (rs := [6]) (by kernel_rfl) (by simp) (AllReadyH.cons (o := ?oi6B2) ?oi0_6B2 (fun K hK => ?_) AllReadyH.nil)
    case oi0_6B2 =>
      conv =>
        lhs
        whnf
        arg 1
        whnf
    go_simp
    refine (HPA.out _).mono ?_
    rintro e1 w' ⟨rfl, rfl⟩
    (try dsimp only)
    refine hK.out _ _ (by assumption) (fun hHeld => ?_)
    clear hK K
    try simp only [Act.put, List.setIfInBounds_toArray, List.set_cons_zero, List.set_cons_succ]
    refine wpAnyH_take (i := 8) (oi := ?oi8B2) (v := ?v8B2) ?oi0_8B2 (by kernel_rfl) ?ff8B2 ?rr8B2 ?hq8B2 (Or.inl ⟨?hw8B2, ?hy8B2⟩) (by assumption) ?rest8B2
    case oi0_8B2 =>
      conv =>
        lhs
        whnf
        arg 1
        whnf
    case hq8B2 => exact fun _ _ _ h => h
    case ff8B2 => kernel_rfl
    case rr8B2 => kernel_rfl
    case hw8B2 => rfl
    case hy8B2 =>
      intro w hSw
      (try dsimp only at hSw)
      first
      | (go_simp; done)
      | (go_simp; with_reducible rfl)
    try simp only [Act.put, List.setIfInBounds_toArray, List.set_cons_zero, List.set_cons_succ]
    refine wpAnyH_take (i := 9) (oi := ?oi9B2) (v := ?v9B2) ?oi0_9B2 (by kernel_rfl) ?ff9B2 ?rr9B2 ?hq9B2 (Or.inl ⟨?hw9B2, ?hy9B2⟩) (by assumption) ?rest9B2
    case oi0_9B2 =>
      conv =>
        lhs
        whnf
        arg 1
        whnf
    case hq9B2 => exact fun _ _ _ h => h
    case ff9B2 => kernel_rfl
    case rr9B2 => kernel_rfl
    case hw9B2 => rfl
    case hy9B2 =>
      intro w hSw
      (try dsimp only at hSw)
      first
      | (go_simp; done)
      | (go_simp; with_reducible rfl)
    try simp only [Act.put, List.setIfInBounds_toArray, List.set_cons_zero, List.set_cons_succ]
    refine wpAnyH_ready (rs := [10]) (by kernel_rfl) (by simp) (AllReadyH.cons (o := ?oi10B2) ?oi0_10B2 (fun K hK => ?_) AllReadyH.nil)
    case oi0_10B2 =>
      conv =>
        lhs
        whnf
        arg 1
        whnf
    go_simp
    (try dsimp only)
    refine hK.out _ _ (by show (w6.setCell ⟨g, j * 2 + 1, none⟩ (.int .i64 n)).cell? ⟨w.heap.size, 3, none⟩ = _; rw [World.cell?_setCell_far _ _ _ _ (by show g ≠ w.heap.size; exact HNE.out)]; exact m3) (fun hHeld => ?_)
    clear hK K
    try simp only [Act.put, List.setIfInBounds_toArray, List.set_cons_zero, List.set_cons_succ]
    refine wpAnyH_done (by kernel_rfl) ?_ _
    obtain ⟨w7, hw7⟩ : ∃ x, (w6.setCell ⟨g, j * 2 + 1, none⟩ (.int .i64 n)).drew = x := ⟨_, rfl⟩
    have ud : Upd [] w6 w6.drew := (Upd.refl [] _).drew
    have u7 : Upd [g] w6 w7 := by rw [← hw7]; exact ((Upd.refl [g] w6).setCell (p := ⟨g, j * 2 + 1, none⟩) (.inl (by simp)) _).drew
    have B7 := hide (B6.out.upd u7 (by simpa using fun e => HNE.out e.symm))
    have R7 := hide (R6.out.upd u7 (by simpa using fun e => HNR.out e.symm))
    have r6 := it_own_set ROW3.out (j * 2 + 1) (.int .i64 n)
    rw [spCells_setTo] at r6
    have r7 := own_kept r6 ((Upd.refl [] _).drew) (by simp)
    rw [hw7] at r7
    clear r6
    have ROW37 := hide r7
    have ROW47 := hide (own_kept ROW4.out u7 (fun q hq hm => by obtain rfl : q = g := List.mem_singleton.1 hm; have h1 := it_own_block ROW4.out q hq; have h2 := HLT3.out q rfl; omega))
    have UU7 := hide (show Upd [] w w7 from UU6.out.trans u7 (fun x hx => .inr (by obtain rfl : x = g := List.mem_singleton.1 hx; have h1 := HGB.out; have h2 := HZ2.out; have h3 := HZ4.out; omega)))
    rw [hw7]
    clear hw7 u7 ud r7 ce' fe' fz c0 c1
    clear m0 f0 m1 f1 m2 f2 m3 f3 m4 f4 m5 f5 m6 f6 m7 f7
    have m0 := B7.out.cell 0
    have m1 := B7.out.cell 1
    have m2 := B7.out.cell 2
    have m3 := B7.out.cell 3
    have m4 := B7.out.cell 4
    have m5 := B7.out.cell 5
    have m6 := B7.out.cell 6
    have m7 := B7.out.cell 7
    have f0 := B7.out.frozen 0
    have f1 := B7.out.frozen 1
    have f2 := B7.out.frozen 2
    have f3 := B7.out.frozen 3
    have f4 := B7.out.frozen 4
    have f5 := B7.out.frozen 5
    have f6 := B7.out.frozen 6
    have f7 := B7.out.frozen 7
    have r0 := R7.out.cell 0
    have q0 := R7.out.frozen 0
    have r1 := R7.out.cell 1
    have q1 := R7.out.frozen 1
    have r2 := R7.out.cell 2
    have q2 := R7.out.frozen 2
    have r3 := R7.out.cell 3
    have q3 := R7.out.frozen 3
    have r4 := R7.out.cell 4
    have q4 := R7.out.frozen 4
    have r5 := R7.out.cell 5
    have q5 := R7.out.frozen 5
    have r6 := R7.out.cell 6
    have q6 := R7.out.frozen 6
    have r7 := R7.out.cell 7
    have q7 := R7.out.frozen 7
    go_upto_region 26 with fail
    go_wp2_with fail
    obtain ⟨wf, hwf⟩ : ∃ x, ((((((((w7.setCell ⟨w.heap.size + 1, 0, none⟩ (.int .i64 i.id)).setCell ⟨w.heap.size + 1, 1, none⟩ (.int .i64 i.kind)).setCell ⟨w.heap.size + 1, 2, none⟩ (.int .i64 i.len)).setCell ⟨w.heap.size + 1, 3, none⟩ (.slice (some ⟨g, 0, none⟩) i.trims.length c3)).setCell ⟨w.heap.size + 1, 4, none⟩ (.slice A4 i.talks.length c4)).setCell ⟨w.heap.size + 1, 5, none⟩ (.int .i64 i.artist)).setCell ⟨w.heap.size + 1, 6, none⟩ (.int .i64 i.tempo)).setCell ⟨w.heap.size + 1, 7, none⟩ (.int .i64 i.lang)) = x := ⟨_, rfl⟩
    have bf : Blk wf (w.heap.size + 1) 24 [.int .i64 i.id, .int .i64 i.kind, .int .i64 i.len, .slice (some ⟨g, 0, none⟩) i.trims.length c3, .slice A4 i.talks.length c4, .int .i64 i.artist, .int .i64 i.tempo, .int .i64 i.lang] := by rw [← hwf]; exact ((((((((R7.out.set_ 0 (.int .i64 i.id)).set_ 1 (.int .i64 i.kind)).set_ 2 (.int .i64 i.len)).set_ 3 (.slice (some ⟨g, 0, none⟩) i.trims.length c3)).set_ 4 (.slice A4 i.talks.length c4)).set_ 5 (.int .i64 i.artist)).set_ 6 (.int .i64 i.tempo)).set_ 7 (.int .i64 i.lang))
    have uf : Upd [w.heap.size + 1] w7 wf := by rw [← hwf]; exact (((((((((Upd.refl [w.heap.size + 1] w7).setCell (p := ⟨w.heap.size + 1, 0, none⟩) (.inl (by simp)) _).setCell (p := ⟨w.heap.size + 1, 1, none⟩) (.inl (by simp)) _).setCell (p := ⟨w.heap.size + 1, 2, none⟩) (.inl (by simp)) _).setCell (p := ⟨w.heap.size + 1, 3, none⟩) (.inl (by simp)) _).setCell (p := ⟨w.heap.size + 1, 4, none⟩) (.inl (by simp)) _).setCell (p := ⟨w.heap.size + 1, 5, none⟩) (.inl (by simp)) _).setCell (p := ⟨w.heap.size + 1, 6, none⟩) (.inl (by simp)) _).setCell (p := ⟨w.heap.size + 1, 7, none⟩) (.inl (by simp)) _)
    rw [hwf]
    clear hwf
    have UF := hide uf
    clear uf
    have v0 := bf.cell 0
    have v1 := bf.cell 1
    have v2 := bf.cell 2
    have v3 := bf.cell 3
    have v4 := bf.cell 4
    have v5 := bf.cell 5
    have v6 := bf.cell 6
    have v7 := bf.cell 7
    refine bodyPost_ret (v := .agg #[.int .i64 i.id, .int .i64 i.kind, .int .i64 i.len, .slice (some ⟨g, 0, none⟩) i.trims.length c3, .slice A4 i.talks.length c4, .int .i64 i.artist, .int .i64 i.tempo, .int .i64 i.lang]) (by simp [results, Try.results11, go_sem, v0, v1, v2, v3, v4, v5, v6, v7]) rfl ?_
    obtain ⟨uc, ut, uk⟩ := bent_end UU7.out (Upd.refl _ _) UF.out B7.out R7.out ROW37.out ROW47.out HZ2.out
    have ej : bentS i how n at_ = { i with trims := setTo i.trims (pickS at_ i.trims.length).toNat n } := by unfold bentS; simp [HC.out]
    rw [ej]
    have ee : (setTo i.trims (pickS at_ i.trims.length).toNat n).length = i.trims.length := by unfold setTo; rw [List.length_set]
    have et : (pickS at_ i.trims.length).toNat = j := by rw [HJ.out]; rfl
    rw [et] at ee ⊢
    refine ⟨(some ⟨g, 0, none⟩), c3, A4, c4, by rw [ee], ⟨ut, uk⟩, uc⟩
  · have hcv : True := trivial
    by_cases h0 : i.talks.length = 0
    case pos =>
      have hgt : ¬ (0 : Int) < (i.talks.length : Int) := by omega
      have hgtd : decide ((0 : Int) < (i.talks.length : Int)) = false := decide_eq_false hgt
      have HL0 := hide (show i.talks = [] from List.eq_nil_of_length_eq_zero h0)
      clear h0
      go_upto_region 26 with fail
      have r0 := R6.out.cell 0
      have q0 := R6.out.frozen 0
      have r1 := R6.out.cell 1
      have q1 := R6.out.frozen 1
      have r2 := R6.out.cell 2
      have q2 := R6.out.frozen 2
      have r3 := R6.out.cell 3
      have q3 := R6.out.frozen 3
      have r4 := R6.out.cell 4
      have q4 := R6.out.frozen 4
      have r5 := R6.out.cell 5
      have q5 := R6.out.frozen 5
      have r6 := R6.out.cell 6
      have q6 := R6.out.frozen 6
      have r7 := R6.out.cell 7
      have q7 := R6.out.frozen 7
      go_wp2_with fail
      obtain ⟨wf, hwf⟩ : ∃ x, ((((((((w6.setCell ⟨w.heap.size + 1, 0, none⟩ (.int .i64 i.id)).setCell ⟨w.heap.size + 1, 1, none⟩ (.int .i64 i.kind)).setCell ⟨w.heap.size + 1, 2, none⟩ (.int .i64 i.len)).setCell ⟨w.heap.size + 1, 3, none⟩ (.slice A3 i.trims.length c3)).setCell ⟨w.heap.size + 1, 4, none⟩ (.slice A4 i.talks.length c4)).setCell ⟨w.heap.size + 1, 5, none⟩ (.int .i64 i.artist)).setCell ⟨w.heap.size + 1, 6, none⟩ (.int .i64 i.tempo)).setCell ⟨w.heap.size + 1, 7, none⟩ (.int .i64 i.lang)) = x := ⟨_, rfl⟩
      have bf : Blk wf (w.heap.size + 1) 24 [.int .i64 i.id, .int .i64 i.kind, .int .i64 i.len, .slice A3 i.trims.length c3, .slice A4 i.talks.length c4, .int .i64 i.artist, .int .i64 i.tempo, .int .i64 i.lang] := by rw [← hwf]; exact ((((((((R6.out.set_ 0 (.int .i64 i.id)).set_ 1 (.int .i64 i.kind)).set_ 2 (.int .i64 i.len)).set_ 3 (.slice A3 i.trims.length c3)).set_ 4 (.slice A4 i.talks.length c4)).set_ 5 (.int .i64 i.artist)).set_ 6 (.int .i64 i.tempo)).set_ 7 (.int .i64 i.lang))
      have uf : Upd [w.heap.size + 1] w6 wf := by rw [← hwf]; exact (((((((((Upd.refl [w.heap.size + 1] w6).setCell (p := ⟨w.heap.size + 1, 0, none⟩) (.inl (by simp)) _).setCell (p := ⟨w.heap.size + 1, 1, none⟩) (.inl (by simp)) _).setCell (p := ⟨w.heap.size + 1, 2, none⟩) (.inl (by simp)) _).setCell (p := ⟨w.heap.size + 1, 3, none⟩) (.inl (by simp)) _).setCell (p := ⟨w.heap.size + 1, 4, none⟩) (.inl (by simp)) _).setCell (p := ⟨w.heap.size + 1, 5, none⟩) (.inl (by simp)) _).setCell (p := ⟨w.heap.size + 1, 6, none⟩) (.inl (by simp)) _).setCell (p := ⟨w.heap.size + 1, 7, none⟩) (.inl (by simp)) _)
      rw [hwf]
      clear hwf
      have UF := hide uf
      clear uf
      have v0 := bf.cell 0
      have v1 := bf.cell 1
      have v2 := bf.cell 2
      have v3 := bf.cell 3
      have v4 := bf.cell 4
      have v5 := bf.cell 5
      have v6 := bf.cell 6
      have v7 := bf.cell 7
      refine bodyPost_ret (v := .agg #[.int .i64 i.id, .int .i64 i.kind, .int .i64 i.len, .slice A3 i.trims.length c3, .slice A4 i.talks.length c4, .int .i64 i.artist, .int .i64 i.tempo, .int .i64 i.lang]) (by simp [results, Try.results11, go_sem, v0, v1, v2, v3, v4, v5, v6, v7]) rfl ?_
      obtain ⟨uc, ut, uk⟩ := bent_end UU6.out (Upd.refl _ _) UF.out B6.out R6.out ROW3.out ROW4.out HZ2.out
      have ej : bentS i how n at_ = { i with talks := setTo i.talks (pickS at_ i.talks.length).toNat n } := by unfold bentS; simp [HC.out]
      rw [ej]
      have ee : setTo i.talks (pickS at_ i.talks.length).toNat n = i.talks := by rw [HL0.out]; rfl
      rw [ee]
      exact ⟨A3, c3, A4, c4, rfl, ⟨ut, uk⟩, uc⟩
    have hgt : (0 : Int) < i.talks.length := by omega
    have hgtn : 0 < i.talks.length := by omega
    obtain ⟨jj, hj⟩ : ∃ a, pickS at_ i.talks.length = a := ⟨_, rfl⟩
    have hjb := pickS_bounds at_ i.talks.length (by omega)
    rw [hj] at hjb
    have PA := fun W => refPick at_ i.talks.length W hat.1 hat.2 (by omega) (by omega)
    obtain ⟨j, rfl⟩ : ∃ j : Nat, jj = (j : Int) := ⟨jj.toNat, by omega⟩
    simp only [hj] at PA
    have HPA := hide PA
    have HJ := hide hj
    clear PA hj
    have hjl : j < i.talks.length := by omega
    have hji : (j : Int) < i.talks.length := by omega
    clear hjb h0
    obtain ⟨g, cur, eA, hgb, hgc⟩ := it_own_some ROW4.out (by omega)
    subst eA
    have BG := hide (show Blk w6 g 53 cur.toList by show w6.heap[g]? = _; rw [hgc])
    clear hgc
    obtain ⟨sp, hsp⟩ : ∃ sp, i.talks[j]? = some sp := ⟨_, List.getElem?_eq_getElem hjl⟩
    obtain ⟨b, o, eb, _, c0, c1⟩ := own_sps ROW4.out j sp hsp
    injection eb with eb
    injection eb with e1 e2
    subst e1 e2
    rw [Nat.zero_add] at c0 c1
    have fz := BG.out.frozen (j * 2 + 1)
    have HGB := hide hgb
    clear hsp hgb
    go_upto_region 25 with fail
    have ce' : w6.drew.cell? ⟨g, j * 2 + 1, none⟩ = some (.int .i64 sp.to_) := c1
    have fe' : w6.drew.frozen? ⟨g, j * 2 + 1, none⟩ = false := fz
    have HNE := hide (show g ≠ w.heap.size from BG.out.ne_ B6.out (by decide))
    have HNR := hide (show g ≠ w.heap.size + 1 from BG.out.ne_ R6.out (by decide))
    refine wp_region_held_drew (S := (fun w' => w'.cell? ⟨w.heap.size, 4, none⟩ = some (.slice (some ⟨g, 0, none⟩) i.talks.length c4))) (by kernel_rfl) (by exact m4) (fun hHeld => ?_)
    refine wpAnyH_take (i := 0) (oi := ?oi0B3) (v := ?v0B3) ?oi0_0B3 (by kernel_rfl) ?ff0B3 ?rr0B3 ?hq0B3 (Or.inl ⟨?hw0B3, ?hy0B3⟩) (by assumption) ?rest0B3
    case oi0_0B3 =>
      conv =>
        lhs
        whnf
        arg 1
        whnf
    case hq0B3 => exact fun _ _ _ h => h
    case ff0B3 => kernel_rfl
    case rr0B3 => kernel_rfl
    case hw0B3 => rfl
    case hy0B3 =>
      intro w hSw
      (try dsimp only at hSw)
      first
      | (go_simp; done)
      | (go_simp; with_reducible rfl)
    try simp only [Act.put, List.setIfInBounds_toArray, List.set_cons_zero, List.set_cons_succ]
    refine wpAnyH_take (i := 1) (oi := ?oi1B3) (v := ?v1B3) ?oi0_1B3 (by kernel_rfl) ?ff1B3 ?rr1B3 ?hq1B3 (Or.inl ⟨?hw1B3, ?hy1B3⟩) (by assumption) ?rest1B3
    case oi0_1B3 =>
      conv =>
        lhs
        whnf
        arg 1
        whnf
    case hq1B3 => exact fun _ _ _ h => h
    case ff1B3 => kernel_rfl
    case rr1B3 => kernel_rfl
    case hw1B3 => rfl
    case hy1B3 =>
      intro w hSw
      (try dsimp only at hSw)
      first
      | (go_simp; done)
      | (go_simp; with_reducible rfl)
    try simp only [Act.put, List.setIfInBounds_toArray, List.set_cons_zero, List.set_cons_succ]
    refine wpAnyH_take (i := 2) (oi := ?oi2B3) (v := ?v2B3) ?oi0_2B3 (by kernel_rfl) ?ff2B3 ?rr2B3 ?hq2B3 (Or.inl ⟨?hw2B3, ?hy2B3⟩) (by assumption) ?rest2B3
    case oi0_2B3 =>
      conv =>
        lhs
        whnf
        arg 1
        whnf
    case hq2B3 => exact fun _ _ _ h => h
    case ff2B3 => kernel_rfl
    case rr2B3 => kernel_rfl
    case hw2B3 => rfl
    case hy2B3 =>
      intro w hSw
      (try dsimp only at hSw)
      first
      | (go_simp; done)
      | (go_simp; with_reducible rfl)
    try simp only [Act.put, List.setIfInBounds_toArray, List.set_cons_zero, List.set_cons_succ]
    refine wpAnyH_take (i := 3) (oi := ?oi3B3) (v := ?v3B3) ?oi0_3B3 (by kernel_rfl) ?ff3B3 ?rr3B3 ?hq3B3 (Or.inl ⟨?hw3B3, ?hy3B3⟩) (by assumption) ?rest3B3
    case oi0_3B3 =>
      conv =>
        lhs
        whnf
        arg 1
        whnf
    case hq3B3 => exact fun _ _ _ h => h
    case ff3B3 => kernel_rfl
    case rr3B3 => kernel_rfl
    case hw3B3 => rfl
    case hy3B3 =>
      intro w hSw
      (try dsimp only at hSw)
      first
      | (go_simp; done)
      | (go_simp; with_reducible rfl)
    try simp only [Act.put, List.setIfInBounds_toArray, List.set_cons_zero, List.set_cons_succ]
    refine wpAnyH_take (i := 4) (oi := ?oi4B3) (v := ?v4B3) ?oi0_4B3 (by kernel_rfl) ?ff4B3 ?rr4B3 ?hq4B3 (Or.inl ⟨?hw4B3, ?hy4B3⟩) (by assumption) ?rest4B3
    case oi0_4B3 =>
      conv =>
        lhs
        whnf
        arg 1
        whnf
    case hq4B3 => exact fun _ _ _ h => h
    case ff4B3 => kernel_rfl
    case rr4B3 => kernel_rfl
    case hw4B3 => rfl
    case hy4B3 =>
      intro w hSw
      (try dsimp only at hSw)
      first
      | (go_simp; done)
      | (go_simp; with_reducible rfl)
    try simp only [Act.put, List.setIfInBounds_toArray, List.set_cons_zero, List.set_cons_succ]
    refine wpAnyH_take (i := 5) (oi := ?oi5B3) (v := ?v5B3) ?oi0_5B3 (by kernel_rfl) ?ff5B3 ?rr5B3 ?hq5B3 (Or.inl ⟨?hw5B3, ?hy5B3⟩) (by assumption) ?rest5B3
    case oi0_5B3 =>
      conv =>
        lhs
        whnf
        arg 1
        whnf
    case hq5B3 => exact fun _ _ _ h => h
    case ff5B3 => kernel_rfl
    case rr5B3 => kernel_rfl
    case hw5B3 => rfl
    case hy5B3 =>
      intro w hSw
      (try dsimp only at hSw)
      first
      | (go_simp; done)
      | (go_simp; with_reducible rfl)
    try simp only [Act.put, List.setIfInBounds_toArray, List.set_cons_zero, List.set_cons_succ]
    refine wpAnyH_take (i := 7) (oi := ?oi7B3) (v := ?v7B3) ?oi0_7B3 (by kernel_rfl) ?ff7B3 ?rr7B3 ?hq7B3 (Or.inl ⟨?hw7B3, ?hy7B3⟩) (by assumption) ?rest7B3
    case oi0_7B3 =>
      conv =>
        lhs
        whnf
        arg 1
        whnf
    case hq7B3 => exact fun _ _ _ h => h
    case ff7B3 => kernel_rfl
    case rr7B3 => kernel_rfl
    case hw7B3 => rfl
    case hy7B3 =>
      intro w hSw
      (try dsimp only at hSw)
      first
      | (go_simp; done)
      | (go_simp; with_reducible rfl)
    try simp only [Act.put, List.setIfInBounds_toArray, List.set_cons_zero, List.set_cons_succ]
    refine wpAnyH_ready (rs := [6]) (by kernel_rfl) (by simp) (AllReadyH.cons (o := ?oi6B3) ?oi0_6B3 (fun K hK => ?_) AllReadyH.nil)
    case oi0_6B3 =>
      conv =>
        lhs
        whnf
        arg 1
        whnf
    go_simp
    refine (HPA.out _).mono ?_
    rintro e1 w' ⟨rfl, rfl⟩
    (try dsimp only)
    refine hK.out _ _ (by assumption) (fun hHeld => ?_)
    clear hK K
    try simp only [Act.put, List.setIfInBounds_toArray, List.set_cons_zero, List.set_cons_succ]
    refine wpAnyH_take (i := 8) (oi := ?oi8B3) (v := ?v8B3) ?oi0_8B3 (by kernel_rfl) ?ff8B3 ?rr8B3 ?hq8B3 (Or.inl ⟨?hw8B3, ?hy8B3⟩) (by assumption) ?rest8B3
    case oi0_8B3 =>
      conv =>
        lhs
        whnf
        arg 1
        whnf
    case hq8B3 => exact fun _ _ _ h => h
    case ff8B3 => kernel_rfl
    case rr8B3 => kernel_rfl
    case hw8B3 => rfl
    case hy8B3 =>
      intro w hSw
      (try dsimp only at hSw)
      first
      | (go_simp; done)
      | (go_simp; with_reducible rfl)
    try simp only [Act.put, List.setIfInBounds_toArray, List.set_cons_zero, List.set_cons_succ]
    refine wpAnyH_take (i := 9) (oi := ?oi9B3) (v := ?v9B3) ?oi0_9B3 (by kernel_rfl) ?ff9B3 ?rr9B3 ?hq9B3 (Or.inl ⟨?hw9B3, ?hy9B3⟩) (by assumption) ?rest9B3
    case oi0_9B3 =>
      conv =>
        lhs
        whnf
        arg 1
        whnf
    case hq9B3 => exact fun _ _ _ h => h
    case ff9B3 => kernel_rfl
    case rr9B3 => kernel_rfl
    case hw9B3 => rfl
    case hy9B3 =>
      intro w hSw
      (try dsimp only at hSw)
      first
      | (go_simp; done)
      | (go_simp; with_reducible rfl)
    try simp only [Act.put, List.setIfInBounds_toArray, List.set_cons_zero, List.set_cons_succ]
    refine wpAnyH_ready (rs := [10]) (by kernel_rfl) (by simp) (AllReadyH.cons (o := ?oi10B3) ?oi0_10B3 (fun K hK => ?_) AllReadyH.nil)
    case oi0_10B3 =>
      conv =>
        lhs
        whnf
        arg 1
        whnf
    go_simp
    (try dsimp only)
    refine hK.out _ _ (by show (w6.setCell ⟨g, j * 2 + 1, none⟩ (.int .i64 n)).cell? ⟨w.heap.size, 4, none⟩ = _; rw [World.cell?_setCell_far _ _ _ _ (by show g ≠ w.heap.size; exact HNE.out)]; exact m4) (fun hHeld => ?_)
    clear hK K
    try simp only [Act.put, List.setIfInBounds_toArray, List.set_cons_zero, List.set_cons_succ]
    refine wpAnyH_done (by kernel_rfl) ?_ _
    obtain ⟨w7, hw7⟩ : ∃ x, (w6.setCell ⟨g, j * 2 + 1, none⟩ (.int .i64 n)).drew = x := ⟨_, rfl⟩
    have ud : Upd [] w6 w6.drew := (Upd.refl [] _).drew
    have u7 : Upd [g] w6 w7 := by rw [← hw7]; exact ((Upd.refl [g] w6).setCell (p := ⟨g, j * 2 + 1, none⟩) (.inl (by simp)) _).drew
    have B7 := hide (B6.out.upd u7 (by simpa using fun e => HNE.out e.symm))
    have R7 := hide (R6.out.upd u7 (by simpa using fun e => HNR.out e.symm))
    have r6 := it_own_set ROW4.out (j * 2 + 1) (.int .i64 n)
    rw [spCells_setTo] at r6
    have r7 := own_kept r6 ((Upd.refl [] _).drew) (by simp)
    rw [hw7] at r7
    clear r6
    have ROW47 := hide r7
    have ROW37 := hide (own_kept ROW3.out u7 (fun q hq hm => by obtain rfl : q = g := List.mem_singleton.1 hm; have h1 := HLT3.out q hq; have h2 := HGB.out; omega))
    have UU7 := hide (show Upd [] w w7 from UU6.out.trans u7 (fun x hx => .inr (by obtain rfl : x = g := List.mem_singleton.1 hx; have h1 := HGB.out; have h2 := HZ2.out; have h3 := HZ4.out; omega)))
    rw [hw7]
    clear hw7 u7 ud r7 ce' fe' fz c0 c1
    clear m0 f0 m1 f1 m2 f2 m3 f3 m4 f4 m5 f5 m6 f6 m7 f7
    have m0 := B7.out.cell 0
    have m1 := B7.out.cell 1
    have m2 := B7.out.cell 2
    have m3 := B7.out.cell 3
    have m4 := B7.out.cell 4
    have m5 := B7.out.cell 5
    have m6 := B7.out.cell 6
    have m7 := B7.out.cell 7
    have f0 := B7.out.frozen 0
    have f1 := B7.out.frozen 1
    have f2 := B7.out.frozen 2
    have f3 := B7.out.frozen 3
    have f4 := B7.out.frozen 4
    have f5 := B7.out.frozen 5
    have f6 := B7.out.frozen 6
    have f7 := B7.out.frozen 7
    have r0 := R7.out.cell 0
    have q0 := R7.out.frozen 0
    have r1 := R7.out.cell 1
    have q1 := R7.out.frozen 1
    have r2 := R7.out.cell 2
    have q2 := R7.out.frozen 2
    have r3 := R7.out.cell 3
    have q3 := R7.out.frozen 3
    have r4 := R7.out.cell 4
    have q4 := R7.out.frozen 4
    have r5 := R7.out.cell 5
    have q5 := R7.out.frozen 5
    have r6 := R7.out.cell 6
    have q6 := R7.out.frozen 6
    have r7 := R7.out.cell 7
    have q7 := R7.out.frozen 7
    go_upto_region 26 with fail
    go_wp2_with fail
    obtain ⟨wf, hwf⟩ : ∃ x, ((((((((w7.setCell ⟨w.heap.size + 1, 0, none⟩ (.int .i64 i.id)).setCell ⟨w.heap.size + 1, 1, none⟩ (.int .i64 i.kind)).setCell ⟨w.heap.size + 1, 2, none⟩ (.int .i64 i.len)).setCell ⟨w.heap.size + 1, 3, none⟩ (.slice A3 i.trims.length c3)).setCell ⟨w.heap.size + 1, 4, none⟩ (.slice (some ⟨g, 0, none⟩) i.talks.length c4)).setCell ⟨w.heap.size + 1, 5, none⟩ (.int .i64 i.artist)).setCell ⟨w.heap.size + 1, 6, none⟩ (.int .i64 i.tempo)).setCell ⟨w.heap.size + 1, 7, none⟩ (.int .i64 i.lang)) = x := ⟨_, rfl⟩
    have bf : Blk wf (w.heap.size + 1) 24 [.int .i64 i.id, .int .i64 i.kind, .int .i64 i.len, .slice A3 i.trims.length c3, .slice (some ⟨g, 0, none⟩) i.talks.length c4, .int .i64 i.artist, .int .i64 i.tempo, .int .i64 i.lang] := by rw [← hwf]; exact ((((((((R7.out.set_ 0 (.int .i64 i.id)).set_ 1 (.int .i64 i.kind)).set_ 2 (.int .i64 i.len)).set_ 3 (.slice A3 i.trims.length c3)).set_ 4 (.slice (some ⟨g, 0, none⟩) i.talks.length c4)).set_ 5 (.int .i64 i.artist)).set_ 6 (.int .i64 i.tempo)).set_ 7 (.int .i64 i.lang))
    have uf : Upd [w.heap.size + 1] w7 wf := by rw [← hwf]; exact (((((((((Upd.refl [w.heap.size + 1] w7).setCell (p := ⟨w.heap.size + 1, 0, none⟩) (.inl (by simp)) _).setCell (p := ⟨w.heap.size + 1, 1, none⟩) (.inl (by simp)) _).setCell (p := ⟨w.heap.size + 1, 2, none⟩) (.inl (by simp)) _).setCell (p := ⟨w.heap.size + 1, 3, none⟩) (.inl (by simp)) _).setCell (p := ⟨w.heap.size + 1, 4, none⟩) (.inl (by simp)) _).setCell (p := ⟨w.heap.size + 1, 5, none⟩) (.inl (by simp)) _).setCell (p := ⟨w.heap.size + 1, 6, none⟩) (.inl (by simp)) _).setCell (p := ⟨w.heap.size + 1, 7, none⟩) (.inl (by simp)) _)
    rw [hwf]
    clear hwf
    have UF := hide uf
    clear uf
    have v0 := bf.cell 0
    have v1 := bf.cell 1
    have v2 := bf.cell 2
    have v3 := bf.cell 3
    have v4 := bf.cell 4
    have v5 := bf.cell 5
    have v6 := bf.cell 6
    have v7 := bf.cell 7
    refine bodyPost_ret (v := .agg #[.int .i64 i.id, .int .i64 i.kind, .int .i64 i.len, .slice A3 i.trims.length c3, .slice (some ⟨g, 0, none⟩) i.talks.length c4, .int .i64 i.artist, .int .i64 i.tempo, .int .i64 i.lang]) (by simp [results, Try.results11, go_sem, v0, v1, v2, v3, v4, v5, v6, v7]) rfl ?_
    obtain ⟨uc, ut, uk⟩ := bent_end UU7.out (Upd.refl _ _) UF.out B7.out R7.out ROW37.out ROW47.out HZ2.out
    have ej : bentS i how n at_ = { i with talks := setTo i.talks (pickS at_ i.talks.length).toNat n } := by unfold bentS; simp [HC.out]
    rw [ej]
    have ee : (setTo i.talks (pickS at_ i.talks.length).toNat n).length = i.talks.length := by unfold setTo; rw [List.length_set]
    have et : (pickS at_ i.talks.length).toNat = j := by rw [HJ.out]; rfl
    rw [et] at ee ⊢
    refine ⟨A3, c3, (some ⟨g, 0, none⟩), c4, by rw [ee], ⟨ut, uk⟩, uc⟩
  · have hcv : True := trivial
    obtain ⟨n1, hn1⟩ : ∃ x, IntKind.i64.wrap (n + 1) = x := ⟨_, rfl⟩
    have O1 := hide (show ∀ u ∈ [Value.int .i64 n, Value.int .i64 (n1)], u.oneCell' = true by simp [Value.oneCell'])
    have O3 := hide (show i.trims.length + 1 ≤ maxLen by unfold maxLen; omega)
    have O4 := hide (show (i.trims.length + 1) * 16 ≤ 140737488355328 by omega)
    have OB := hide (ROW3.out.alloc (.cells #[.int .i64 n, .int .i64 (n1)] 53))
    have OS := hide (show w2.heap.size ≤ (w6.alloc (.cells #[.int .i64 n, .int .i64 (n1)] 53)).heap.size by rw [World.size_alloc]; have := HZ2.out; have := HZ6.out; omega)
    have B6a := hide (B6.out.alloc (.cells #[.int .i64 n, .int .i64 (n1)] 53))
    have HNE := hide (show w.heap.size ∉ (A3.map (·.block)).toList from fun hm => own_blk_ne ROW3.out B6.out (by decide) w.heap.size (by rw [ownBlock_slice]; simpa using hm) rfl)
    have HNR := hide (show w.heap.size + 1 ∉ (A3.map (·.block)).toList from fun hm => own_blk_ne ROW3.out R6.out (by decide) (w.heap.size + 1) (by rw [ownBlock_slice]; simpa using hm) rfl)
    have HN4 := hide (show ∀ q, (Value.slice A4 i.talks.length c4).ownBlock = some q → q ∉ (A3.map (·.block)).toList from fun q hq hm => by have h1 := it_own_block ROW4.out q hq; have h2 := HLT3.out q (by rw [ownBlock_slice]; simpa using hm); omega)
    have HN3 := hide (show ∀ q ∈ (A3.map (·.block)).toList, w.heap.size ≤ q from fun q hq => by have h1 := it_own_block ROW3.out q (by rw [ownBlock_slice]; simpa using hq); have h2 := HZ2.out; omega)
    go_upto_region 26 with (at_builtin; refine wpList_append_base rfl (.tmp 22) (.tmp 27) _ rfl w2.heap.size 53 _ 2 16 Try.underlying22 it_info_spell rfl (by decide) A3 i.trims.length c3 _ rfl OB.out ⟨w6.heap.size, 0, none⟩ 1 1 [.int .i64 n, .int .i64 (n1)] rfl rfl (cell_two_new _ _ _ _) O1.out O3.out O4.out OS.out ?_; intro A5 c5 w9 h9 u9 a9; have H9 := hide h9; have U9 := hide u9; have Q9 := hide (B6a.out.upd u9 HNE.out); have e3 := Q9.out.cell 3; have e4 := Q9.out.frozen 3; clear h9 u9 a9)
    have ua : Upd [] w6 (w6.alloc (.cells #[.int .i64 n, .int .i64 (n1)] 53)) := (Upd.refl [] _).alloc _
    have h9 := H9.out
    have u69 : Upd (A3.map (·.block)).toList w6 w9 := (ua.mono (by simp)).trans U9.out (fun x hx => .inl hx)
    have row4 := own_kept ROW4.out u69 HN4.out
    have r9 := R6.out.upd u69 HNR.out
    have uw9 : Upd [] w w9 := UU6.out.trans u69 (fun x hx => .inr (HN3.out x hx))
    have us : Upd [w.heap.size] w9 (w9.setCell ⟨w.heap.size, 3, none⟩ (.slice A5 (i.trims.length + 1) c5)) := (Upd.refl _ _).setCell (p := ⟨w.heap.size, 3, none⟩) (.inl (by simp)) _
    have b7 := Q9.out.set_ 3 (.slice A5 (i.trims.length + 1) c5)
    obtain ⟨w7, hw7⟩ : ∃ x, w9.setCell ⟨w.heap.size, 3, none⟩ (.slice A5 (i.trims.length + 1) c5) = x := ⟨_, rfl⟩
    rw [hw7] at us b7 ⊢
    have row3 := own_kept h9 us (fun q hq hm => own_blk_ne h9 Q9.out (by decide) q hq (by simpa using hm))
    have row42 := own_kept row4 us (fun q hq hm => own_blk_ne row4 Q9.out (by decide) q hq (by simpa using hm))
    have esp : spCells i.trims ++ [.int .i64 n, .int .i64 (n1)] = spCells (i.trims ++ [⟨n, n1⟩]) := by rw [spCells_append]; rfl
    rw [esp] at row3
    have B7 := hide (show Blk w7 w.heap.size 24 [.int .i64 i.id, .int .i64 i.kind, .int .i64 i.len, .slice A5 (i.trims.length + 1) c5, .slice A4 i.talks.length c4, .int .i64 i.artist, .int .i64 i.tempo, .int .i64 i.lang] from b7)
    have R7 := hide (r9.upd us (by simp))
    have UU7 := hide (show Upd [] w w7 from uw9.trans us (by simp))
    have ROW37 := hide row3
    have ROW47 := hide row42
    clear ua h9 u69 row4 r9 uw9 us b7 hw7 row3 row42 esp e3 e4
    clear m0 f0 m1 f1 m2 f2 m3 f3 m4 f4 m5 f5 m6 f6 m7 f7
    have m0 := B7.out.cell 0
    have m1 := B7.out.cell 1
    have m2 := B7.out.cell 2
    have m3 := B7.out.cell 3
    have m4 := B7.out.cell 4
    have m5 := B7.out.cell 5
    have m6 := B7.out.cell 6
    have m7 := B7.out.cell 7
    have f0 := B7.out.frozen 0
    have f1 := B7.out.frozen 1
    have f2 := B7.out.frozen 2
    have f3 := B7.out.frozen 3
    have f4 := B7.out.frozen 4
    have f5 := B7.out.frozen 5
    have f6 := B7.out.frozen 6
    have f7 := B7.out.frozen 7
    have r0 := R7.out.cell 0
    have q0 := R7.out.frozen 0
    have r1 := R7.out.cell 1
    have q1 := R7.out.frozen 1
    have r2 := R7.out.cell 2
    have q2 := R7.out.frozen 2
    have r3 := R7.out.cell 3
    have q3 := R7.out.frozen 3
    have r4 := R7.out.cell 4
    have q4 := R7.out.frozen 4
    have r5 := R7.out.cell 5
    have q5 := R7.out.frozen 5
    have r6 := R7.out.cell 6
    have q6 := R7.out.frozen 6
    have r7 := R7.out.cell 7
    have q7 := R7.out.frozen 7
    go_wp2_with fail
    obtain ⟨wf, hwf⟩ : ∃ x, ((((((((w7.setCell ⟨w.heap.size + 1, 0, none⟩ (.int .i64 i.id)).setCell ⟨w.heap.size + 1, 1, none⟩ (.int .i64 i.kind)).setCell ⟨w.heap.size + 1, 2, none⟩ (.int .i64 i.len)).setCell ⟨w.heap.size + 1, 3, none⟩ (.slice A5 (i.trims.length + 1) c5)).setCell ⟨w.heap.size + 1, 4, none⟩ (.slice A4 i.talks.length c4)).setCell ⟨w.heap.size + 1, 5, none⟩ (.int .i64 i.artist)).setCell ⟨w.heap.size + 1, 6, none⟩ (.int .i64 i.tempo)).setCell ⟨w.heap.size + 1, 7, none⟩ (.int .i64 i.lang)) = x := ⟨_, rfl⟩
    have bf : Blk wf (w.heap.size + 1) 24 [.int .i64 i.id, .int .i64 i.kind, .int .i64 i.len, .slice A5 (i.trims.length + 1) c5, .slice A4 i.talks.length c4, .int .i64 i.artist, .int .i64 i.tempo, .int .i64 i.lang] := by rw [← hwf]; exact ((((((((R7.out.set_ 0 (.int .i64 i.id)).set_ 1 (.int .i64 i.kind)).set_ 2 (.int .i64 i.len)).set_ 3 (.slice A5 (i.trims.length + 1) c5)).set_ 4 (.slice A4 i.talks.length c4)).set_ 5 (.int .i64 i.artist)).set_ 6 (.int .i64 i.tempo)).set_ 7 (.int .i64 i.lang))
    have uf : Upd [w.heap.size + 1] w7 wf := by rw [← hwf]; exact (((((((((Upd.refl [w.heap.size + 1] w7).setCell (p := ⟨w.heap.size + 1, 0, none⟩) (.inl (by simp)) _).setCell (p := ⟨w.heap.size + 1, 1, none⟩) (.inl (by simp)) _).setCell (p := ⟨w.heap.size + 1, 2, none⟩) (.inl (by simp)) _).setCell (p := ⟨w.heap.size + 1, 3, none⟩) (.inl (by simp)) _).setCell (p := ⟨w.heap.size + 1, 4, none⟩) (.inl (by simp)) _).setCell (p := ⟨w.heap.size + 1, 5, none⟩) (.inl (by simp)) _).setCell (p := ⟨w.heap.size + 1, 6, none⟩) (.inl (by simp)) _).setCell (p := ⟨w.heap.size + 1, 7, none⟩) (.inl (by simp)) _)
    rw [hwf]
    clear hwf
    have UF := hide uf
    clear uf
    have v0 := bf.cell 0
    have v1 := bf.cell 1
    have v2 := bf.cell 2
    have v3 := bf.cell 3
    have v4 := bf.cell 4
    have v5 := bf.cell 5
    have v6 := bf.cell 6
    have v7 := bf.cell 7
    refine bodyPost_ret (v := .agg #[.int .i64 i.id, .int .i64 i.kind, .int .i64 i.len, .slice A5 (i.trims.length + 1) c5, .slice A4 i.talks.length c4, .int .i64 i.artist, .int .i64 i.tempo, .int .i64 i.lang]) (by simp [results, Try.results11, go_sem, v0, v1, v2, v3, v4, v5, v6, v7]) rfl ?_
    obtain ⟨uc, ut, uk⟩ := bent_end UU7.out (Upd.refl _ _) UF.out B7.out R7.out ROW37.out ROW47.out HZ2.out
    have ej : bentS i how n at_ = { i with trims := i.trims ++ [⟨n, n1⟩] } := by unfold bentS; rw [HC.out, ← hn1]; simp
    rw [ej]
    refine ⟨A5, c5, A4, c4, by rw [List.length_append]; rfl, ⟨ut, uk⟩, uc⟩
end Go.Proofs.Ytpkeimdlcafcnaa

namespace Go.Proofs.Ytpkeimdlcafcnaa
open Go.RowKit
set_option maxRecDepth 100000
set_option maxHeartbeats 40000000

theorem refValid (i : It) (ta : Option Addr) (tc : Nat) (ka : Option Addr) (kc : Nat) (w : World) (it : ItAt w i ta ka) (h1 : i.trims.length ≤ maxLen) (h2 : i.talks.length ≤ maxLen) :
    Calls Try.prog 13 #[.agg #[.int .i64 i.id, .int .i64 i.kind, .int .i64 i.len, .slice ta i.trims.length tc, .slice ka i.talks.length kc, .int .i64 i.artist, .int .i64 i.tempo, .int .i64 i.lang]] w fun e w' => e = .returned (.bool (decide (ItOk i))) ∧ Upd [] w w' := by
  obtain ⟨r, HR⟩ : ∃ r, Hid (decide (ItOk i) = r) := ⟨_, rfl⟩
  rw [HR.out]
  go_enter Try.func13, Try.ntmps13
  go_upto_region 1 with fail
  obtain ⟨w1, hw1⟩ : ∃ x, w.alloc (.cells #[.int .i64 i.id, .int .i64 i.kind, .int .i64 i.len, .slice ta i.trims.length tc, .slice ka i.talks.length kc, .int .i64 i.artist, .int .i64 i.tempo, .int .i64 i.lang] 24) = x := ⟨_, rfl⟩
  have B1 := hide (show Blk w1 w.heap.size 24 [.int .i64 i.id, .int .i64 i.kind, .int .i64 i.len, .slice ta i.trims.length tc, .slice ka i.talks.length kc, .int .i64 i.artist, .int .i64 i.tempo, .int .i64 i.lang] by rw [← hw1]; exact Blk.new w _ _)
  have U1 := hide (show Upd [] w w1 by rw [← hw1]; exact (Upd.refl [] _).alloc _)
  rw [hw1]
  clear hw1
  have IT1 := hide (it.upd U1.out)
  clear it
  have m0 := B1.out.cell 0
  have m1 := B1.out.cell 1
  have m2 := B1.out.cell 2
  have m3 := B1.out.cell 3
  have m4 := B1.out.cell 4
  have m5 := B1.out.cell 5
  have m6 := B1.out.cell 6
  have m7 := B1.out.cell 7
  by_cases d0 : i.id < 0
  case pos =>
    have t0 : decide (i.id < 0) = true := decide_eq_true d0
    obtain rfl : r = false := by rw [← HR.out]; exact decide_eq_false fun h => by have := h.1.1.1; omega
    go_wp2_with fail
    go_ret
    exact ⟨rfl, U1.out⟩
  have t0 : decide (i.id < 0) = false := decide_eq_false d0
  by_cases d1 : 200 ≤ i.id
  case pos =>
    have t1 : decide (200 ≤ i.id) = true := decide_eq_true d1
    obtain rfl : r = false := by rw [← HR.out]; exact decide_eq_false fun h => by have := h.1.1.2; omega
    go_wp2_with fail
    go_ret
    exact ⟨rfl, U1.out⟩
  have t1 : decide (200 ≤ i.id) = false := decide_eq_false d1
  by_cases d2 : i.kind < 1
  case pos =>
    have t2 : decide (i.kind < 1) = true := decide_eq_true d2
    obtain rfl : r = false := by rw [← HR.out]; exact decide_eq_false fun h => by have := h.1.2.1.1; omega
    go_wp2_with fail
    go_ret
    exact ⟨rfl, U1.out⟩
  have t2 : decide (i.kind < 1) = false := decide_eq_false d2
  by_cases d3 : 5 < i.kind
  case pos =>
    have t3 : decide (5 < i.kind) = true := decide_eq_true d3
    obtain rfl : r = false := by rw [← HR.out]; exact decide_eq_false fun h => by have := h.1.2.1.2; omega
    go_wp2_with fail
    go_ret
    exact ⟨rfl, U1.out⟩
  have t3 : decide (5 < i.kind) = false := decide_eq_false d3
  by_cases d4 : i.len < 1
  case pos =>
    have t4 : decide (i.len < 1) = true := decide_eq_true d4
    obtain rfl : r = false := by rw [← HR.out]; exact decide_eq_false fun h => by have := h.1.2.2.1; omega
    go_wp2_with fail
    go_ret
    exact ⟨rfl, U1.out⟩
  have t4 : decide (i.len < 1) = false := decide_eq_false d4
  by_cases d5 : 3600 < i.len
  case pos =>
    have t5 : decide (3600 < i.len) = true := decide_eq_true d5
    obtain rfl : r = false := by rw [← HR.out]; exact decide_eq_false fun h => by have := h.1.2.2.2; omega
    go_wp2_with fail
    go_ret
    exact ⟨rfl, U1.out⟩
  have t5 : decide (3600 < i.len) = false := decide_eq_false d5
  go_wp2_with fail
  refine (refWithin ta i.trims.length tc i.trims i.len w1 IT1.out.trims rfl h1).mono ?_
  rintro e w2 ⟨rfl, u⟩
  have B2 := hide (B1.out.upd u (by simp))
  have U2 := hide (U1.out.trans u (by simp))
  have IT2 := hide (IT1.out.upd u)
  clear u
  clear m0 m1 m2 m3 m4 m5 m6 m7
  have m0 := B2.out.cell 0
  have m1 := B2.out.cell 1
  have m2 := B2.out.cell 2
  have m3 := B2.out.cell 3
  have m4 := B2.out.cell 4
  have m5 := B2.out.cell 5
  have m6 := B2.out.cell 6
  have m7 := B2.out.cell 7
  by_cases s2 : SpsOk i.len i.trims
  case neg =>
    rw [decide_eq_false s2]
    obtain rfl : r = false := by rw [← HR.out]; exact decide_eq_false fun h => by exact s2 h.2.1.1
    clear s2
    go_wp2_with fail
    go_ret
    exact ⟨rfl, U2.out⟩
  rw [decide_eq_true s2]
  have HS2 := hide s2
  clear s2
  go_wp2_with fail
  refine (refWithin ka i.talks.length kc i.talks i.len w2 IT2.out.talks rfl h2).mono ?_
  rintro e w3 ⟨rfl, u⟩
  have B3 := hide (B2.out.upd u (by simp))
  have U3 := hide (U2.out.trans u (by simp))
  have IT3 := hide (IT2.out.upd u)
  clear u
  clear m0 m1 m2 m3 m4 m5 m6 m7
  have m0 := B3.out.cell 0
  have m1 := B3.out.cell 1
  have m2 := B3.out.cell 2
  have m3 := B3.out.cell 3
  have m4 := B3.out.cell 4
  have m5 := B3.out.cell 5
  have m6 := B3.out.cell 6
  have m7 := B3.out.cell 7
  by_cases s3 : SpsOk i.len i.talks
  case neg =>
    rw [decide_eq_false s3]
    obtain rfl : r = false := by rw [← HR.out]; exact decide_eq_false fun h => by exact s3 h.2.1.2
    clear s3
    go_wp2_with fail
    go_ret
    exact ⟨rfl, U3.out⟩
  rw [decide_eq_true s3]
  have HS3 := hide s3
  clear s3
  go_wp2_with fail
  have htl : i.trims.length ≤ 4 := HS2.out.2
  go_loopw [3, 4] (fun s3 s4 wr => ∃ (k : Nat) (t : Int), k ≤ i.trims.length ∧ s4 = .int .i64 k ∧ s3 = .int .i64 t ∧ (0 ≤ t ∧ t ≤ 3600 * k) ∧ Hid (t = sumSp (i.trims.take k)) ∧ Hid (Upd [] w3 wr)) (fun _ k _ => i.trims.length - (intOf k).toNat)
  case atStart => exact ⟨0, 0, Nat.zero_le _, rfl, rfl, by omega, hide rfl, Upd.refl _ _⟩
  case round =>
    obtain ⟨k, t, hk, rfl, rfl, ⟨ht0, ht1⟩, ht, hu⟩ := hrel
    obtain ⟨wo, rfl⟩ : ∃ wo : World, wo = wr := ⟨_, rfl⟩
    have BO := hide (B3.out.upd hu.out (by simp))
    have UO := hide (U3.out.trans hu.out (by simp))
    have ITO := hide (IT3.out.upd hu.out)
    clear m0 m1 m2 m3 m4 m5 m6 m7
    have m0 := BO.out.cell 0
    have m1 := BO.out.cell 1
    have m2 := BO.out.cell 2
    have m3 := BO.out.cell 3
    have m4 := BO.out.cell 4
    have m5 := BO.out.cell 5
    have m6 := BO.out.cell 6
    have m7 := BO.out.cell 7
    by_cases hkl : k < i.trims.length
    case pos =>
      have hki : (k : Int) < i.trims.length := by omega
      obtain ⟨s, hs⟩ : ∃ s, i.trims[k]? = some s := ⟨_, List.getElem?_eq_getElem hkl⟩
      have hsi := (HS2.out.1 k hkl).1
      rw [hs] at hsi
      have hs1 : 0 ≤ s.fr := hsi.1
      have hs2 : s.fr < s.to_ := hsi.2.1
      have hs3 : s.to_ ≤ i.len := hsi.2.2
      obtain ⟨b, o, ea, _, c0, c1⟩ := ITO.out.trims k s hs
      have HST := hide (show t + s.to_ - s.fr = sumSp (i.trims.take (k + 1)) by rw [List.take_add_one, hs, Option.toList_some, sumSp_snoc, ht.out]; omega)
      have hw1 : IntKind.i64.wrap (t + s.to_) = t + s.to_ := Go.IntWalk.i64_in _ (by omega)
      have hw2 : IntKind.i64.wrap (t + s.to_ - s.fr) = t + s.to_ - s.fr := Go.IntWalk.i64_in _ (by omega)
      have V := hide (hu.out.drew)
      clear hsi hs
      subst ea
      go_upto_region 9 with fail
      refine wp_region_held_drew (S := (fun w' => w'.cell? ⟨w.heap.size, 3, none⟩ = some (.slice (some ⟨b, o, none⟩) i.trims.length tc) ∧ w'.cell? ⟨b, o + k * 2, none⟩ = some (.int .i64 s.fr) ∧ w'.cell? ⟨b, o + k * 2 + 1, none⟩ = some (.int .i64 s.to_))) (by kernel_rfl) (by exact ⟨m3, c0, c1⟩) (fun hHeld => ?_)
      refine wpAnyH_take (i := 0) (oi := ?oi0V1) (v := ?v0V1) ?oi0_0V1 (by kernel_rfl) ?ff0V1 ?rr0V1 ?hq0V1 (Or.inl ⟨?hw0V1, ?hy0V1⟩) (by assumption) ?rest0V1
      case oi0_0V1 =>
        conv =>
          lhs
          whnf
          arg 1
          whnf
      case hq0V1 => exact fun _ _ _ h => h
      case ff0V1 => kernel_rfl
      case rr0V1 => kernel_rfl
      case hw0V1 => rfl
      case hy0V1 =>
        intro w hSw
        (try dsimp only at hSw)
        first
        | (go_simp; done)
        | (go_simp; with_reducible rfl)
      try simp only [Act.put, List.setIfInBounds_toArray, List.set_cons_zero, List.set_cons_succ]
      refine wpAnyH_take (i := 1) (oi := ?oi1V1) (v := ?v1V1) ?oi0_1V1 (by kernel_rfl) ?ff1V1 ?rr1V1 ?hq1V1 (Or.inl ⟨?hw1V1, ?hy1V1⟩) (by assumption) ?rest1V1
      case oi0_1V1 =>
        conv =>
          lhs
          whnf
          arg 1
          whnf
      case hq1V1 => exact fun _ _ _ h => h
      case ff1V1 => kernel_rfl
      case rr1V1 => kernel_rfl
      case hw1V1 => rfl
      case hy1V1 =>
        intro w hSw
        (try dsimp only at hSw)
        first
        | (go_simp; done)
        | (go_simp; with_reducible rfl)
      try simp only [Act.put, List.setIfInBounds_toArray, List.set_cons_zero, List.set_cons_succ]
      refine wpAnyH_take (i := 2) (oi := ?oi2V1) (v := ?v2V1) ?oi0_2V1 (by kernel_rfl) ?ff2V1 ?rr2V1 ?hq2V1 (Or.inl ⟨?hw2V1, ?hy2V1⟩) (by assumption) ?rest2V1
      case oi0_2V1 =>
        conv =>
          lhs
          whnf
          arg 1
          whnf
      case hq2V1 => exact fun _ _ _ h => h
      case ff2V1 => kernel_rfl
      case rr2V1 => kernel_rfl
      case hw2V1 => rfl
      case hy2V1 =>
        intro w hSw
        (try dsimp only at hSw)
        first
        | (go_simp; done)
        | (go_simp; with_reducible rfl)
      try simp only [Act.put, List.setIfInBounds_toArray, List.set_cons_zero, List.set_cons_succ]
      refine wpAnyH_take (i := 3) (oi := ?oi3V1) (v := ?v3V1) ?oi0_3V1 (by kernel_rfl) ?ff3V1 ?rr3V1 ?hq3V1 (Or.inl ⟨?hw3V1, ?hy3V1⟩) (by assumption) ?rest3V1
      case oi0_3V1 =>
        conv =>
          lhs
          whnf
          arg 1
          whnf
      case hq3V1 => exact fun _ _ _ h => h
      case ff3V1 => kernel_rfl
      case rr3V1 => kernel_rfl
      case hw3V1 => rfl
      case hy3V1 =>
        intro w hSw
        (try dsimp only at hSw)
        first
        | (go_simp; done)
        | (go_simp; with_reducible rfl)
      try simp only [Act.put, List.setIfInBounds_toArray, List.set_cons_zero, List.set_cons_succ]
      refine wpAnyH_take (i := 4) (oi := ?oi4V1) (v := ?v4V1) ?oi0_4V1 (by kernel_rfl) ?ff4V1 ?rr4V1 ?hq4V1 (Or.inl ⟨?hw4V1, ?hy4V1⟩) (by assumption) ?rest4V1
      case oi0_4V1 =>
        conv =>
          lhs
          whnf
          arg 1
          whnf
      case hq4V1 => exact fun _ _ _ h => h
      case ff4V1 => kernel_rfl
      case rr4V1 => kernel_rfl
      case hw4V1 => rfl
      case hy4V1 =>
        intro w hSw
        (try dsimp only at hSw)
        first
        | (go_simp; done)
        | (go_simp; with_reducible rfl)
      try simp only [Act.put, List.setIfInBounds_toArray, List.set_cons_zero, List.set_cons_succ]
      refine wpAnyH_take (i := 5) (oi := ?oi5V1) (v := ?v5V1) ?oi0_5V1 (by kernel_rfl) ?ff5V1 ?rr5V1 ?hq5V1 (Or.inl ⟨?hw5V1, ?hy5V1⟩) (by assumption) ?rest5V1
      case oi0_5V1 =>
        conv =>
          lhs
          whnf
          arg 1
          whnf
      case hq5V1 => exact fun _ _ _ h => h
      case ff5V1 => kernel_rfl
      case rr5V1 => kernel_rfl
      case hw5V1 => rfl
      case hy5V1 =>
        intro w hSw
        (try dsimp only at hSw)
        first
        | (go_simp; done)
        | (go_simp; with_reducible rfl)
      try simp only [Act.put, List.setIfInBounds_toArray, List.set_cons_zero, List.set_cons_succ]
      refine wpAnyH_take (i := 6) (oi := ?oi6V1) (v := ?v6V1) ?oi0_6V1 (by kernel_rfl) ?ff6V1 ?rr6V1 ?hq6V1 (Or.inl ⟨?hw6V1, ?hy6V1⟩) (by assumption) ?rest6V1
      case oi0_6V1 =>
        conv =>
          lhs
          whnf
          arg 1
          whnf
      case hq6V1 => exact fun _ _ _ h => h
      case ff6V1 => kernel_rfl
      case rr6V1 => kernel_rfl
      case hw6V1 => rfl
      case hy6V1 =>
        intro w hSw
        (try dsimp only at hSw)
        first
        | (go_simp; done)
        | (go_simp; with_reducible rfl)
      try simp only [Act.put, List.setIfInBounds_toArray, List.set_cons_zero, List.set_cons_succ]
      refine wpAnyH_take (i := 7) (oi := ?oi7V1) (v := ?v7V1) ?oi0_7V1 (by kernel_rfl) ?ff7V1 ?rr7V1 ?hq7V1 (Or.inl ⟨?hw7V1, ?hy7V1⟩) (by assumption) ?rest7V1
      case oi0_7V1 =>
        conv =>
          lhs
          whnf
          arg 1
          whnf
      case hq7V1 => exact fun _ _ _ h => h
      case ff7V1 => kernel_rfl
      case rr7V1 => kernel_rfl
      case hw7V1 => rfl
      case hy7V1 =>
        intro w hSw
        (try dsimp only at hSw)
        first
        | (go_simp; done)
        | (go_simp; with_reducible rfl)
      try simp only [Act.put, List.setIfInBounds_toArray, List.set_cons_zero, List.set_cons_succ]
      refine wpAnyH_take (i := 8) (oi := ?oi8V1) (v := ?v8V1) ?oi0_8V1 (by kernel_rfl) ?ff8V1 ?rr8V1 ?hq8V1 (Or.inl ⟨?hw8V1, ?hy8V1⟩) (by assumption) ?rest8V1
      case oi0_8V1 =>
        conv =>
          lhs
          whnf
          arg 1
          whnf
      case hq8V1 => exact fun _ _ _ h => h
      case ff8V1 => kernel_rfl
      case rr8V1 => kernel_rfl
      case hw8V1 => rfl
      case hy8V1 =>
        intro w hSw
        (try dsimp only at hSw)
        first
        | (go_simp; done)
        | (go_simp; with_reducible rfl)
      try simp only [Act.put, List.setIfInBounds_toArray, List.set_cons_zero, List.set_cons_succ]
      refine wpAnyH_take (i := 9) (oi := ?oi9V1) (v := ?v9V1) ?oi0_9V1 (by kernel_rfl) ?ff9V1 ?rr9V1 ?hq9V1 (Or.inl ⟨?hw9V1, ?hy9V1⟩) (by assumption) ?rest9V1
      case oi0_9V1 =>
        conv =>
          lhs
          whnf
          arg 1
          whnf
      case hq9V1 => exact fun _ _ _ h => h
      case ff9V1 => kernel_rfl
      case rr9V1 => kernel_rfl
      case hw9V1 => rfl
      case hy9V1 =>
        intro w hSw
        (try dsimp only at hSw)
        first
        | (go_simp; done)
        | (go_simp; with_reducible rfl)
      try simp only [Act.put, List.setIfInBounds_toArray, List.set_cons_zero, List.set_cons_succ]
      refine wpAnyH_take (i := 10) (oi := ?oi10V1) (v := ?v10V1) ?oi0_10V1 (by kernel_rfl) ?ff10V1 ?rr10V1 ?hq10V1 (Or.inl ⟨?hw10V1, ?hy10V1⟩) (by assumption) ?rest10V1
      case oi0_10V1 =>
        conv =>
          lhs
          whnf
          arg 1
          whnf
      case hq10V1 => exact fun _ _ _ h => h
      case ff10V1 => kernel_rfl
      case rr10V1 => kernel_rfl
      case hw10V1 => rfl
      case hy10V1 =>
        intro w hSw
        (try dsimp only at hSw)
        first
        | (go_simp; done)
        | (go_simp; with_reducible rfl)
      try simp only [Act.put, List.setIfInBounds_toArray, List.set_cons_zero, List.set_cons_succ]
      refine wpAnyH_take (i := 11) (oi := ?oi11V1) (v := ?v11V1) ?oi0_11V1 (by kernel_rfl) ?ff11V1 ?rr11V1 ?hq11V1 (Or.inl ⟨?hw11V1, ?hy11V1⟩) (by assumption) ?rest11V1
      case oi0_11V1 =>
        conv =>
          lhs
          whnf
          arg 1
          whnf
      case hq11V1 => exact fun _ _ _ h => h
      case ff11V1 => kernel_rfl
      case rr11V1 => kernel_rfl
      case hw11V1 => rfl
      case hy11V1 =>
        intro w hSw
        (try dsimp only at hSw)
        first
        | (go_simp; done)
        | (go_simp; with_reducible rfl)
      try simp only [Act.put, List.setIfInBounds_toArray, List.set_cons_zero, List.set_cons_succ]
      refine wpAnyH_take (i := 12) (oi := ?oi12V1) (v := ?v12V1) ?oi0_12V1 (by kernel_rfl) ?ff12V1 ?rr12V1 ?hq12V1 (Or.inl ⟨?hw12V1, ?hy12V1⟩) (by assumption) ?rest12V1
      case oi0_12V1 =>
        conv =>
          lhs
          whnf
          arg 1
          whnf
      case hq12V1 => exact fun _ _ _ h => h
      case ff12V1 => kernel_rfl
      case rr12V1 => kernel_rfl
      case hw12V1 => rfl
      case hy12V1 =>
        intro w hSw
        (try dsimp only at hSw)
        first
        | (go_simp; done)
        | (go_simp; with_reducible rfl)
      try simp only [Act.put, List.setIfInBounds_toArray, List.set_cons_zero, List.set_cons_succ]
      refine wpAnyH_take (i := 13) (oi := ?oi13V1) (v := ?v13V1) ?oi0_13V1 (by kernel_rfl) ?ff13V1 ?rr13V1 ?hq13V1 (Or.inl ⟨?hw13V1, ?hy13V1⟩) (by assumption) ?rest13V1
      case oi0_13V1 =>
        conv =>
          lhs
          whnf
          arg 1
          whnf
      case hq13V1 => exact fun _ _ _ h => h
      case ff13V1 => kernel_rfl
      case rr13V1 => kernel_rfl
      case hw13V1 => rfl
      case hy13V1 =>
        intro w hSw
        (try dsimp only at hSw)
        first
        | (go_simp; done)
        | (go_simp; with_reducible rfl)
      try simp only [Act.put, List.setIfInBounds_toArray, List.set_cons_zero, List.set_cons_succ]
      refine wpAnyH_take (i := 14) (oi := ?oi14V1) (v := ?v14V1) ?oi0_14V1 (by kernel_rfl) ?ff14V1 ?rr14V1 ?hq14V1 (Or.inl ⟨?hw14V1, ?hy14V1⟩) (by assumption) ?rest14V1
      case oi0_14V1 =>
        conv =>
          lhs
          whnf
          arg 1
          whnf
      case hq14V1 => exact fun _ _ _ h => h
      case ff14V1 => kernel_rfl
      case rr14V1 => kernel_rfl
      case hw14V1 => rfl
      case hy14V1 =>
        intro w hSw
        (try dsimp only at hSw)
        first
        | (go_simp; done)
        | (go_simp; with_reducible rfl)
      try simp only [Act.put, List.setIfInBounds_toArray, List.set_cons_zero, List.set_cons_succ]
      refine wpAnyH_take (i := 15) (oi := ?oi15V1) (v := ?v15V1) ?oi0_15V1 (by kernel_rfl) ?ff15V1 ?rr15V1 ?hq15V1 (Or.inl ⟨?hw15V1, ?hy15V1⟩) (by assumption) ?rest15V1
      case oi0_15V1 =>
        conv =>
          lhs
          whnf
          arg 1
          whnf
      case hq15V1 => exact fun _ _ _ h => h
      case ff15V1 => kernel_rfl
      case rr15V1 => kernel_rfl
      case hw15V1 => rfl
      case hy15V1 =>
        intro w hSw
        (try dsimp only at hSw)
        first
        | (go_simp; done)
        | (go_simp; with_reducible rfl)
      try simp only [Act.put, List.setIfInBounds_toArray, List.set_cons_zero, List.set_cons_succ]
      refine wpAnyH_done (by kernel_rfl) ?_ _
      go_wp2_with fail
      go_roundw
      case rel => exact ⟨k + 1, _, by omega, by go_num, rfl, by omega, HST, V⟩
      case measure => simp [intOf] <;> omega
    obtain rfl : k = i.trims.length := by omega
    have hki : ¬ (i.trims.length : Int) < i.trims.length := by omega
    have hts := ht.out
    rw [List.take_of_length_le (Nat.le_refl _)] at hts
    have HTS := hide hts
    clear hts
    by_cases e0 : i.len ≤ t
    case pos =>
      have e0d : decide (i.len ≤ t) = true := decide_eq_true e0
      obtain rfl : r = false := by rw [← HR.out]; exact decide_eq_false fun h => by have := h.2.2.1; have := HTS.out; omega
      go_wp2_with fail
      go_ret
      exact ⟨rfl, UO.out⟩
    have e0d : decide (i.len ≤ t) = false := decide_eq_false e0
    by_cases ek : i.kind = 1
    case neg =>
      have ekb : (i.kind != 1) = true := by simpa using ek
      by_cases zartist : i.artist = 0
      case neg =>
        have zartistb : (i.artist == 0) = false := by simpa using zartist
        obtain rfl : r = false := by rw [← HR.out]; exact decide_eq_false fun h => by exact h.2.2.2.elim (fun h => ek h.1) (fun h => zartist (by first | exact h.2.1 | exact h.2.2.1 | exact h.2.2.2))
        have Z := hide zartist
        have EK := hide ek
        clear zartist ek
        go_wp2_with fail
        go_ret
        exact ⟨rfl, UO.out⟩
      have zartistb : (i.artist == 0) = true := by simpa using zartist
      by_cases ztempo : i.tempo = 0
      case neg =>
        have ztempob : (i.tempo == 0) = false := by simpa using ztempo
        obtain rfl : r = false := by rw [← HR.out]; exact decide_eq_false fun h => by exact h.2.2.2.elim (fun h => ek h.1) (fun h => ztempo (by first | exact h.2.1 | exact h.2.2.1 | exact h.2.2.2))
        have Z := hide ztempo
        have EK := hide ek
        clear ztempo ek
        go_wp2_with fail
        go_ret
        exact ⟨rfl, UO.out⟩
      have ztempob : (i.tempo == 0) = true := by simpa using ztempo
      by_cases zlang : i.lang = 0
      case neg =>
        have zlangb : (i.lang == 0) = false := by simpa using zlang
        obtain rfl : r = false := by rw [← HR.out]; exact decide_eq_false fun h => by exact h.2.2.2.elim (fun h => ek h.1) (fun h => zlang (by first | exact h.2.1 | exact h.2.2.1 | exact h.2.2.2))
        have Z := hide zlang
        have EK := hide ek
        clear zlang ek
        go_wp2_with fail
        go_ret
        exact ⟨rfl, UO.out⟩
      have zlangb : (i.lang == 0) = true := by simpa using zlang
      obtain rfl : r = true := by
        rw [← HR.out]
        refine decide_eq_true ⟨⟨⟨by omega, by omega⟩, ⟨by omega, by omega⟩, ⟨by omega, by omega⟩⟩, ⟨HS2.out, HS3.out⟩, by have := HTS.out; omega, .inr ⟨ek, zartist, ztempo, zlang⟩⟩
      clear zartist ztempo zlang ek
      go_wp2_with fail
      go_ret
      exact ⟨rfl, UO.out⟩
    have ekb : (i.kind != 1) = false := by simp [ek]
    have EK := hide ek
    clear ek
    by_cases g0 : 0 ≤ i.artist
    case neg =>
      have gg0 : decide (0 ≤ i.artist) = false := decide_eq_false g0
      obtain rfl : r = false := by rw [← HR.out]; exact decide_eq_false fun h => by exact h.2.2.2.elim (fun h => g0 h.2.1.1) (fun h => h.1 EK.out)
      go_wp2_with fail
      go_ret
      exact ⟨rfl, UO.out⟩
    have gg0 : decide (0 ≤ i.artist) = true := decide_eq_true g0
    by_cases g1 : i.artist ≤ 99
    case neg =>
      have gg1 : decide (i.artist ≤ 99) = false := decide_eq_false g1
      obtain rfl : r = false := by rw [← HR.out]; exact decide_eq_false fun h => by exact h.2.2.2.elim (fun h => g1 h.2.1.2) (fun h => h.1 EK.out)
      go_wp2_with fail
      go_ret
      exact ⟨rfl, UO.out⟩
    have gg1 : decide (i.artist ≤ 99) = true := decide_eq_true g1
    by_cases g2 : 1 ≤ i.tempo
    case neg =>
      have gg2 : decide (1 ≤ i.tempo) = false := decide_eq_false g2
      obtain rfl : r = false := by rw [← HR.out]; exact decide_eq_false fun h => by exact h.2.2.2.elim (fun h => g2 h.2.2.1.1) (fun h => h.1 EK.out)
      go_wp2_with fail
      go_ret
      exact ⟨rfl, UO.out⟩
    have gg2 : decide (1 ≤ i.tempo) = true := decide_eq_true g2
    by_cases g3 : i.tempo ≤ 5
    case neg =>
      have gg3 : decide (i.tempo ≤ 5) = false := decide_eq_false g3
      obtain rfl : r = false := by rw [← HR.out]; exact decide_eq_false fun h => by exact h.2.2.2.elim (fun h => g3 h.2.2.1.2) (fun h => h.1 EK.out)
      go_wp2_with fail
      go_ret
      exact ⟨rfl, UO.out⟩
    have gg3 : decide (i.tempo ≤ 5) = true := decide_eq_true g3
    by_cases g4 : 1 ≤ i.lang
    case neg =>
      have gg4 : decide (1 ≤ i.lang) = false := decide_eq_false g4
      obtain rfl : r = false := by rw [← HR.out]; exact decide_eq_false fun h => by exact h.2.2.2.elim (fun h => g4 h.2.2.2.1) (fun h => h.1 EK.out)
      go_wp2_with fail
      go_ret
      exact ⟨rfl, UO.out⟩
    have gg4 : decide (1 ≤ i.lang) = true := decide_eq_true g4
    by_cases g5 : i.lang ≤ 4
    case neg =>
      have gg5 : decide (i.lang ≤ 4) = false := decide_eq_false g5
      obtain rfl : r = false := by rw [← HR.out]; exact decide_eq_false fun h => by exact h.2.2.2.elim (fun h => g5 h.2.2.2.2) (fun h => h.1 EK.out)
      go_wp2_with fail
      go_ret
      exact ⟨rfl, UO.out⟩
    have gg5 : decide (i.lang ≤ 4) = true := decide_eq_true g5
    obtain rfl : r = true := by
      rw [← HR.out]
      have ek := EK.out
      refine decide_eq_true ⟨⟨⟨by omega, by omega⟩, ⟨by omega, by omega⟩, ⟨by omega, by omega⟩⟩, ⟨HS2.out, HS3.out⟩, by have := HTS.out; omega, .inl ⟨ek, ⟨g0, g1⟩, ⟨g2, g3⟩, ⟨g4, g5⟩⟩⟩
    go_wp2_with fail
    go_ret
    exact ⟨rfl, UO.out⟩
end Go.Proofs.Ytpkeimdlcafcnaa
