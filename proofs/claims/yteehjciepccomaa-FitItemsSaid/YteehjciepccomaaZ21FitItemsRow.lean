/-
  item.Lengths.
  The lengths of a recording: ascending, and those of its cuts.
-/
import Derived.Test.YteehjciepccomaaZ17FitItemsRow
import Derived.Test.YteehjciepccomaaZ20FitItemsRow

namespace Go.Proofs.Yteehjciepccomaa
open Go.RowKit Go.Shelf
set_option maxRecDepth 100000
attribute [local go_sem] Oper.semAt_some

def allLens (i : It) : List Int := (List.range (2 ^ i.trims.length)).map fun s => cutLen i (bitsS s i.trims.length)
def lengthsS (i : It) : List Int := Lib.compact ((allLens i).mergeSort fun x y => decide (x ≤ y))

set_option maxHeartbeats 20000000 in
theorem lengths_no {n₀ : Nat} (i : It) (ta : Option Addr) (tc : Nat) (ka : Option Addr) (kc : Nat) (w : World) (hT : SpsAt n₀ w ta i.trims) (hK : SpsAt n₀ w ka i.talks) (hn : n₀ ≤ w.heap.size) (hm : i.trims.length ≤ maxLen) (hm2 : i.talks.length ≤ maxLen) (hok : ¬ ItOk i) :
    Calls Try.prog 34 #[.agg #[.int .i64 i.id, .int .i64 i.kind, .int .i64 i.len, .slice ta i.trims.length tc, .slice ka i.talks.length kc, .int .i64 i.artist, .int .i64 i.tempo, .int .i64 i.lang]] w fun e w' => e = .returned (.tuple #[.slice none 0 0, .int .i64 70]) ∧ Upd [] w w' := by
  obtain ⟨tn, htn⟩ : ∃ n, i.trims.length = n := ⟨_, rfl⟩
  obtain ⟨kn, hkn⟩ : ∃ n, i.talks.length = n := ⟨_, rfl⟩
  have L1 := Blk.new w 61 [.int .i64 i.id, .int .i64 i.kind, .int .i64 i.len, .slice ta i.trims.length tc, .slice ka i.talks.length kc, .int .i64 i.artist, .int .i64 i.tempo, .int .i64 i.lang]
  have u1 := (Upd.refl [] w).alloc (.cells #[.int .i64 i.id, .int .i64 i.kind, .int .i64 i.len, .slice ta i.trims.length tc, .slice ka i.talks.length kc, .int .i64 i.artist, .int .i64 i.tempo, .int .i64 i.lang] 61)
  have VA := valid_it i ta tc ka kc _ (hT.upd u1 hn (by simp)) (hK.upd u1 hn (by simp)) (Nat.le_trans hn u1.size) hm hm2
  rw [decide_eq_false hok] at VA
  rw [htn, hkn] at VA u1 L1 ⊢
  have k0 := L1.cell 0
  have k1 := L1.cell 1
  have k2 := L1.cell 2
  have k3 := L1.cell 3
  have k4 := L1.cell 4
  have k5 := L1.cell 5
  have k6 := L1.cell 6
  have k7 := L1.cell 7
  have HV := hide VA
  have U1 := hide u1
  clear hT hK hm hm2 VA u1 L1 htn hkn hok
  go_enter Try.func34, Try.ntmps34
  go_wp2_with fail
  refine HV.out.mono ?_
  rintro e w1 ⟨rfl, u⟩
  have U2 := hide (U1.out.trans u (by simp))
  clear u
  go_wp2_with fail
  go_ret2
  exact ⟨rfl, U2.out⟩

set_option maxHeartbeats 20000000 in
theorem lengths_in {n₀ : Nat} (n : Nat) (hn6 : 6 ≤ n) (i : It) (ta : Option Addr) (tc : Nat) (ka : Option Addr) (kc : Nat) (w : World) (hT : SpsAt n₀ w ta i.trims) (hK : SpsAt n₀ w ka i.talks) (hn : n₀ ≤ w.heap.size) (hok : ItOk i) :
    CallsIn Fence.wide n Try.prog 34 #[.agg #[.int .i64 i.id, .int .i64 i.kind, .int .i64 i.len, .slice ta i.trims.length tc, .slice ka i.talks.length kc, .int .i64 i.artist, .int .i64 i.tempo, .int .i64 i.lang]] w fun e w' => ∃ v, e = .returned (.tuple #[v, .int .i64 0]) ∧ OwnsInts w' v (lengthsS i) ∧ Upd [] w w' := by
  have hm : i.trims.length ≤ maxLen := by have := hok.2.1.1.2; unfold maxLen; omega
  have hm2 : i.talks.length ≤ maxLen := by have := hok.2.1.2.2; unfold maxLen; omega
  obtain ⟨i0, hi, hz0, hz1, hz2⟩ := info_parts it_info_int
  obtain ⟨tn, htn⟩ : ∃ n, i.trims.length = n := ⟨_, rfl⟩
  obtain ⟨kn, hkn⟩ : ∃ n, i.talks.length = n := ⟨_, rfl⟩
  have L1 := Blk.new w 61 [.int .i64 i.id, .int .i64 i.kind, .int .i64 i.len, .slice ta i.trims.length tc, .slice ka i.talks.length kc, .int .i64 i.artist, .int .i64 i.tempo, .int .i64 i.lang]
  have u1 := (Upd.refl [] w).alloc (.cells #[.int .i64 i.id, .int .i64 i.kind, .int .i64 i.len, .slice ta i.trims.length tc, .slice ka i.talks.length kc, .int .i64 i.artist, .int .i64 i.tempo, .int .i64 i.lang] 61)
  have VA := valid_it i ta tc ka kc _ (hT.upd u1 hn (by simp)) (hK.upd u1 hn (by simp)) (Nat.le_trans hn u1.size) hm hm2
  rw [decide_eq_true hok] at VA
  rw [htn, hkn] at VA u1 L1 ⊢
  have HV := hide ((callsIn_wide (n := n - 1)).2 VA)
  have HC := hide (show ∀ W, CallsIn Fence.wide (n - 1) Try.prog 61 _ W _ from fun W => (callsIn_wide (n := n - 1)).2 (cuts_any i ta tn tc ka kn kc W))
  have k0 := L1.cell 0
  have k1 := L1.cell 1
  have k2 := L1.cell 2
  have k3 := L1.cell 3
  have k4 := L1.cell 4
  have k5 := L1.cell 5
  have k6 := L1.cell 6
  have k7 := L1.cell 7
  have BL := hide L1
  have U1 := hide u1
  have HT := hide hT
  have HTN := hide htn
  have HOK := hide hok
  have h1 : 1 ≤ n := by omega
  have hf1 : Fence.wide.fn 60 := trivial
  have hf2 : Fence.wide.fn 61 := trivial
  have hf3 : Fence.wide.fn 62 := trivial
  have hf4 : Fence.wide.fn 63 := trivial
  clear hT hK hm hm2 VA u1 L1 htn hkn hok
  refine callsIn_of_wp_marks Try.func34 rfl trivial ?_ rfl
  simp only [Try.ntmps34, List.size_toArray, List.length_cons, List.length_nil, Nat.reduceAdd, Nat.reduceSub, Array.replicate_succ, Array.replicate_zero, List.push_toArray, List.append_toArray, List.nil_append, List.cons_append]
  gi_wp2_with (first | (gi_at_call 60; refine HV.out.mono ?_; rintro e w1 ⟨rfl, u⟩; have U2 := hide (U1.out.trans u (by simp)); have BL1 := hide (BL.out.upd u (by simp)); clear u k0 k1 k2 k3 k4 k5 k6 k7; have k0 := BL1.out.cell 0; have k1 := BL1.out.cell 1; have k2 := BL1.out.cell 2; have k3 := BL1.out.cell 3; have k4 := BL1.out.cell 4; have k5 := BL1.out.cell 5; have k6 := BL1.out.cell 6; have k7 := BL1.out.cell 7; have hsz := BL1.out.lt) | (gi_at_call 61; refine (HC.out _).mono ?_; rintro e w2 ⟨rfl, rfl⟩))
  obtain ⟨W0, hW0⟩ : ∃ W0, ((w1.alloc (.cells #[.slice none 0 0] 24)).alloc (.cells #[.int .i64 i.id, .int .i64 i.kind, .int .i64 i.len, .slice ta tn tc, .slice ka kn kc, .int .i64 i.artist, .int .i64 i.tempo, .int .i64 i.lang] 61)) = W0 := ⟨_, rfl⟩
  rw [hW0]
  have hs0 : W0.heap.size = w1.heap.size + 2 := by rw [← hW0]; simp
  have U0 : Upd [] w1 W0 := by rw [← hW0]; exact ((Upd.refl [] w1).alloc _).alloc _
  have bI : Blk W0 (w1.heap.size + 1) 61 [.int .i64 i.id, .int .i64 i.kind, .int .i64 i.len, .slice ta tn tc, .slice ka kn kc, .int .i64 i.artist, .int .i64 i.tempo, .int .i64 i.lang] := by
    have := Blk.new (w1.alloc (.cells #[.slice none 0 0] 24)) 61 [.int .i64 i.id, .int .i64 i.kind, .int .i64 i.len, .slice ta tn tc, .slice ka kn kc, .int .i64 i.artist, .int .i64 i.tempo, .int .i64 i.lang]
    rw [← hW0]
    simpa using this
  have bO : Boxed W0 w1.heap.size 24 (.slice none 0 0) := by
    have := (Blk.new w1 24 [.slice none 0 0]).alloc (.cells #[.int .i64 i.id, .int .i64 i.kind, .int .i64 i.len, .slice ta tn tc, .slice ka kn kc, .int .i64 i.artist, .int .i64 i.tempo, .int .i64 i.lang] 61)
    rw [← hW0]
    exact this
  have hn1 : n₀ ≤ w1.heap.size := Nat.le_trans hn U2.out.size
  have hT0 : SpsAt n₀ W0 ta i.trims := HT.out.upd (U2.out.trans U0 (by simp)) hn (by simp)
  have hC3 : W0.cell? ⟨w1.heap.size + 1, 3, none⟩ = some (.slice ta i.trims.length tc) := by rw [HTN.out]; exact bI.cell 3
  clear hW0
  refine wpIn_range_told rfl h1 (gf := 79) (lb := #[.pointer (some ⟨w1.heap.size + 1, 0, none⟩)]) rfl trivial (enters_of Try.func79 (by kernel_rfl) rfl)
    (cuts_told (n₀ := n₀) (n - 1) (by omega) (w1.heap.size + 1) W0.heap.size i HOK.out ta tc [w1.heap.size] W0 (bI.cell 2) hC3 (by omega) (by simp) hT0 (by omega) (by simp; omega) (Nat.le_refl _)) (by simp) KeepX.trans (KeepX.put (Nat.le_refl _)) (Below.refl _ _) (fun _ => rfl)
    (fun x => cutIs_own x)
    (fun pre W => (∃ v, Boxed W w1.heap.size 24 v ∧ W.ownsRow W0.heap.size 3 1 v (pre.map fun x : CutX => cutLen i (bitsS x.2 i.trims.length)).length ((pre.map fun x : CutX => cutLen i (bitsS x.2 i.trims.length)).map (Value.int .i64)) ∧ True) ∧ Upd [w1.heap.size] W0 W)
    (OwnFrom.and (Own.from (holdsRow_own W0.heap.size w1.heap.size 24 3 1 (fun pre : List CutX => (pre.map fun x : CutX => cutLen i (bitsS x.2 i.trims.length)).length) (fun pre : List CutX => (pre.map fun x : CutX => cutLen i (bitsS x.2 i.trims.length)).map (Value.int .i64)) (fun _ _ => True)) _) it_ownFrom_upd)
    (fun pre A B hI hu => by
      obtain ⟨⟨v, hv, hr, _⟩, hu0⟩ := hI
      exact ⟨⟨v, (hu.block _ hv.lt (by simp)).trans hv, own_kept hr hu (by simp), trivial⟩, hu0.trans hu (by simp)⟩)
    ⟨⟨_, bO, World.ownsRow_nil _ _ _ _, trivial⟩, Upd.refl _ _⟩
    (fun x => { tmps := #[.agg #[.int .i64 i.id, .int .i64 i.kind, .int .i64 i.len, .slice ta tn tc, .slice ka kn kc, .int .i64 i.artist, .int .i64 i.tempo, .int .i64 i.lang], .pointer (some ⟨w.heap.size, 0, none⟩), .slice none 0 0, .int .i64 0, .pointer (some ⟨w1.heap.size, 0, none⟩), undef, .int .i64 (cutLen i (bitsS x.2 i.trims.length)),
      .agg #[.int .i64 i.id, .int .i64 i.kind, .int .i64 i.len, .slice ta tn tc, .slice ka kn kc, .int .i64 i.artist, .int .i64 i.tempo, .int .i64 i.lang], .bool true, .bool false, .agg #[.int .i64 i.id, .int .i64 i.kind, .int .i64 i.len, .slice ta tn tc, .slice ka kn kc, .int .i64 i.artist, .int .i64 i.tempo, .int .i64 i.lang], .func (.func 79) #[] #[.pointer (some ⟨w1.heap.size + 1, 0, none⟩)], x.1, .int .i64 (cutLen i (bitsS x.2 i.trims.length)), undef, undef, undef, undef, undef, undef, undef, undef], defers := [] }) ?assign ?body ?done
  case assign =>
    intro l x W K hK
    gi_wp2
    exact hK
  case body =>
    rintro l pre ⟨xv, st⟩ W ⟨⟨v, hv, hrow, _⟩, hu⟩ hx hlt
    have hkp : (pre.map fun x : CutX => cutLen i (bitsS x.2 i.trims.length)).length < 16 := by rw [List.length_map]; exact hlt
    obtain ⟨zs, hzs⟩ : ∃ zs, (pre.map fun x : CutX => cutLen i (bitsS x.2 i.trims.length)) = zs := ⟨_, rfl⟩
    obtain ⟨z, hz⟩ : ∃ z, cutLen i (bitsS st i.trims.length) = z := ⟨_, rfl⟩
    have HE := hide (show ((pre ++ [((xv, st) : CutX)]).map fun x : CutX => cutLen i (bitsS x.2 i.trims.length)) = zs ++ [z] by rw [List.map_append, ← hzs, ← hz]; rfl)
    rw [hzs] at hrow hkp
    dsimp only
    rw [hz]
    clear hzs hlt hz hx
    have HU := hide hu
    have HV := hide hv
    have R1 := hide hrow
    have hc := hv.cell
    have hsW : W0.heap.size ≤ W.heap.size := hu.size
    clear hu hv hrow
    gi_wp2_with (gi_at_builtin; refine wpListIn_append_own _ rfl _ _ 24 rfl W0.heap.size 3 i0 (.int .i64 0) 1 8 Try.underlying24 hi hz0 hz1 hz2 rfl (by decide) _ _ _ rfl (R1.out.alloc _) ⟨W.heap.size, 0, none⟩ 1 1 [.int .i64 z] rfl rfl (cell_one_new _ _ _) (by simp [Value.oneCell']) (by unfold maxLen; omega) (by omega) (by simp; omega) ?_; intro v' w1' hown' hgrow _; obtain ⟨g', cap', rfl⟩ := ownsRow_succ hown'; obtain ⟨hv1, hv2, hr2, hk2, hb2⟩ := HV.out.appended (n₀ := 0) (by decide) (it_own_less R1.out (Nat.zero_le _)) (Nat.zero_le _) (Nat.zero_le _) (it_own_less hown' (Nat.zero_le _)) hgrow; have HG := hide hgrow; have HO := hide hown'; have HK2 := hide hk2; have HV1 := hide hv1; have HV2 := hide hv2; have hc1 := hv1.cell; have hf1 := hv1.frozen; clear hgrow hown' hk2 hv2 hr2 hb2 hv1)
    have u3 : Upd [w1.heap.size] W0 (w1'.setCell ⟨w1.heap.size, 0, none⟩ (.slice (some ⟨g', 0, none⟩) (zs.length + 1) cap')) :=
      ((HU.out.alloc _).grown HG.out (fun k hk => .inr (it_own_block R1.out k hk))).setCell (.inl (by simp)) _
    have hsz3 : W.heap.size ≤ (w1'.setCell ⟨w1.heap.size, 0, none⟩ (.slice (some ⟨g', 0, none⟩) (zs.length + 1) cap')).heap.size := HK2.out.size
    refine ⟨HK2.out.from _, ⟨hsz3, fun k hk hn => (u3.block k hk hn).trans (HU.out.block k hk hn).symm⟩, ⟨_, HV2.out, ?_, trivial⟩, u3⟩
    have e := HE.out
    rw [e]
    have := HO.out.kept (grownBy_setCell' w1' w1.heap.size (.slice (some ⟨g', 0, none⟩) (zs.length + 1) cap')) (.inr (HV1.out.not_row (by decide) HO.out).symm)
    simpa using this
  case done =>
    rintro D ys W hD hys ⟨⟨v, hv, hrow, _⟩, hu⟩ hK
    have hE : (ys.map fun x : CutX => cutLen i (bitsS x.2 i.trims.length)) = allLens i := by
      unfold allLens
      rw [← hys, List.map_map]
      rfl
    rw [hE] at hrow
    have hal : (allLens i).length ≤ 16 := by
      unfold allLens
      rw [List.length_map, List.length_range]
      exact Nat.pow_le_pow_right (n := 2) (by omega) HOK.out.2.1.1.2
    have hob := it_own_block hrow
    have hoD : ∀ k, v.ownBlock = some k → k ≠ D := fun k hk e => by
      subst e
      rcases hrow.2 with ⟨hv0, _⟩ | ⟨g, cap, cur, hv0, _, hg, _⟩
      · rw [hv0] at hk; simp [Value.ownBlock] at hk
      · rw [hv0] at hk
        obtain rfl : g = k := by simpa [Value.ownBlock] using hk
        rw [hg] at hK
        cases hK
    have HOD := hide hoD
    have hoB : ∀ k, v.ownBlock = some k → k ≠ w1.heap.size := fun k hk e => by have := hob k hk; omega
    have HOW := hide hoB
    have SO := (callsIn_wide (n := n - 1)).2 (sort_own (v := v) (zs := allLens i) W (by omega) (it_own_less hrow (Nat.zero_le _)))
    have hc := hv.cell
    have HSO := hide SO
    have HU := hide hu
    have HV := hide hv
    have HK := hide hK
    have HOB := hide hob
    clear SO hu hv hrow hK hys hE hob
    clear hoD hoB
    gi_wp2_with (first | (gi_at_call 62; refine HSO.out.mono ?_; rintro e w3 ⟨rfl, h3, u3⟩; have H3 := hide h3; have U3 := hide u3; have V3 := hide (show Boxed w3 w1.heap.size 24 v from (u3.block _ HV.out.lt (fun hm => HOW.out _ (by simpa using hm) rfl)).trans HV.out); have K3 := hide ((u3.block D (Array.getElem?_eq_some_iff.1 HK.out).1 (fun hm => HOD.out _ (by simpa using hm) rfl)).trans HK.out); have hc3 := V3.out.cell; clear h3 u3) | (gi_at_call 63; refine ((callsIn_wide (n := n - 1)).2 (compact_own w3 H3.out)).mono ?_; rintro e w4 ⟨v', rfl, h4, b4, u4⟩; have H4 := hide h4; have B4 := hide b4; have U4 := hide u4; have K4 := hide ((u4.block D (Array.getElem?_eq_some_iff.1 K3.out).1 (fun hm => HOD.out _ (by simpa using hm) rfl)).trans K3.out); clear h4 b4 u4))
    refine ⟨by simp, .inl ⟨_, _, rfl, run_takeDeferred K4.out, ?_⟩⟩
    have hob : ∀ x ∈ v.ownBlock.toList, x ∈ ([] : List Nat) ∨ w1.heap.size ≤ x := fun x hx => .inr (by have := HOB.out x (by simpa using hx); omega)
    have ua : Upd [] w1 w4 := ((U0.trans HU.out (by simp)).trans U3.out hob).trans U4.out hob
    refine ⟨_, results_tmp2 rfl _ _ _, v', rfl, ownsRow_putObj H4.out (.deferred none) K4.out rfl, ?_⟩
    exact U2.out.trans (ua.grown (grownBy_putObj' w4 D _) (fun k e => by cases e; right; omega)) (by simp)

/-- item.Lengths -/
def LengthsPost (i : It) (w : World) (e : Ending) (w' : World) : Prop :=
  if ItOk i then ∃ v, e = .returned (.tuple #[v, .int .i64 0]) ∧ OwnsInts w' v (lengthsS i) ∧ Upd [] w w'
  else e = .returned (.tuple #[.slice none 0 0, .int .i64 70]) ∧ Upd [] w w'
theorem itemLengths {n₀ : Nat} (i : It) (ta : Option Addr) (tc : Nat) (ka : Option Addr) (kc : Nat) (w : World) (hT : SpsAt n₀ w ta i.trims) (hK : SpsAt n₀ w ka i.talks) (hn : n₀ ≤ w.heap.size) (hm : i.trims.length ≤ maxLen) (hm2 : i.talks.length ≤ maxLen) :
    Calls Try.prog 34 #[.agg #[.int .i64 i.id, .int .i64 i.kind, .int .i64 i.len, .slice ta i.trims.length tc, .slice ka i.talks.length kc, .int .i64 i.artist, .int .i64 i.tempo, .int .i64 i.lang]] w (LengthsPost i w) := by
  by_cases hok : ItOk i
  · refine (callsIn_wide.1 (lengths_in 6 (by omega) i ta tc ka kc w hT hK hn hok)).mono fun e w' h => ?_
    unfold LengthsPost
    rw [if_pos hok]
    exact h
  · refine (lengths_no i ta tc ka kc w hT hK hn hm hm2 hok).mono fun e w' h => ?_
    unfold LengthsPost
    rw [if_neg hok]
    exact h
end Go.Proofs.Yteehjciepccomaa

namespace Go.Proofs.Yteehjciepccomaa

theorem compact_spec (zs : List Int) (h : zs.Pairwise (· ≤ ·)) : (Lib.compact zs).Pairwise (· < ·) ∧ ∀ x, x ∈ Lib.compact zs ↔ x ∈ zs := by
  have hget : ∀ j (hj : j < zs.length), zs.toArray[j]! = zs[j] := fun j hj => by simp [hj]
  have key : ∀ m, m ≤ zs.length → (Lib.compactUpTo zs.toArray m).Pairwise (· < ·) ∧ (∀ x, x ∈ Lib.compactUpTo zs.toArray m ↔ x ∈ zs.take m) := by
    intro m
    induction m with
    | zero => intro _; simp [Lib.compactUpTo]
    | succ m ih =>
      intro hm
      obtain ⟨h1, h2⟩ := ih (by omega)
      have hlt : m < zs.length := by omega
      have hle : ∀ x ∈ zs.take m, x ≤ zs[m] := by
        intro x hx
        obtain ⟨j, hj, rfl⟩ := List.mem_take_iff_getElem.1 hx
        exact List.pairwise_iff_getElem.1 h j m (by omega) hlt (by omega)
      rw [Lib.compactUpTo_succ, hget m hlt, List.take_succ_eq_append_getElem hlt]
      by_cases hk : Lib.keeps zs.toArray m = true
      · rw [if_pos hk]
        refine ⟨List.pairwise_append.2 ⟨h1, by simp, fun a ha b hb => ?_⟩, fun x => ?_⟩
        · obtain rfl := List.mem_singleton.1 hb
          have ha' := (h2 a).1 ha
          have hal := hle a ha'
          rcases Nat.eq_zero_or_pos m with rfl | hpos
          · simp at ha'
          · have hne : zs[m] ≠ zs[m - 1] := by
              have := hk
              unfold Lib.keeps at this
              rw [hget m hlt, hget (m - 1) (by omega)] at this
              have h0 : m ≠ 0 := by omega
              simpa [h0] using this
            obtain ⟨j, hj, rfl⟩ := List.mem_take_iff_getElem.1 ha'
            have h3 : zs[j] ≤ zs[m - 1] := by
              rcases Nat.lt_or_ge j (m - 1) with hjl | hjl
              · exact List.pairwise_iff_getElem.1 h j (m - 1) (by omega) (by omega) hjl
              · have : j = m - 1 := by omega
                subst this
                exact Int.le_refl _
            have h4 := List.pairwise_iff_getElem.1 h (m - 1) m (by omega) hlt (by omega)
            omega
        · rw [List.mem_append, List.mem_append, h2]
      · rw [if_neg hk, List.append_nil]
        refine ⟨h1, fun x => ?_⟩
        rw [h2, List.mem_append]
        constructor
        · exact .inl
        · rintro (hx | hx)
          · exact hx
          · obtain rfl := List.mem_singleton.1 hx
            have hpos : m ≠ 0 := fun e => hk (by subst e; simp [Lib.keeps])
            have he : zs[m] = zs[m - 1] := by
              have := hk
              unfold Lib.keeps at this
              rw [hget m hlt, hget (m - 1) (by omega)] at this
              simpa [hpos] using this
            rw [he]
            exact List.mem_take_iff_getElem.2 ⟨m - 1, by omega, rfl⟩
  have := key zs.length (Nat.le_refl _)
  rw [List.take_length] at this
  exact this

theorem lengthsS_asc (i : It) : (lengthsS i).Pairwise (· < ·) := by
  refine (compact_spec _ ?_).1
  have := List.pairwise_mergeSort (le := fun x y : Int => decide (x ≤ y)) (fun a b c h1 h2 => by simp at *; omega) (fun a b => by simp; omega) (allLens i)
  simpa using this
theorem mem_lengthsS {i : It} {x : Int} : x ∈ lengthsS i ↔ x ∈ allLens i := by
  unfold lengthsS
  rw [(compact_spec _ ?_).2, List.mem_mergeSort]
  have := List.pairwise_mergeSort (le := fun x y : Int => decide (x ≤ y)) (fun a b c h1 h2 => by simp at *; omega) (fun a b => by simp; omega) (allLens i)
  simpa using this
/-- Two ascending lists with the same members are one. -/
theorem asc_ext : ∀ {l m : List Int}, l.Pairwise (· < ·) → m.Pairwise (· < ·) → (∀ x, x ∈ l ↔ x ∈ m) → l = m
  | [], [], _, _, _ => rfl
  | [], y :: m, _, _, h => absurd ((h y).2 (by simp)) (by simp)
  | x :: l, [], _, _, h => absurd ((h x).1 (by simp)) (by simp)
  | x :: l, y :: m, hl, hm, h => by
    obtain ⟨hx, hl'⟩ := List.pairwise_cons.1 hl
    obtain ⟨hy, hm'⟩ := List.pairwise_cons.1 hm
    have e : x = y := by
      have h1 := (h x).1 (by simp)
      have h2 := (h y).2 (by simp)
      rcases List.mem_cons.1 h1 with e | h1
      · exact e
      · rcases List.mem_cons.1 h2 with e | h2
        · exact e.symm
        · have := hx y h2
          have := hy x h1
          omega
    subst e
    rw [asc_ext hl' hm' fun z => ?_]
    have hz := h z
    rw [List.mem_cons, List.mem_cons] at hz
    constructor
    · intro h1
      rcases hz.1 (.inr h1) with e | h2
      · subst e; have := hx z h1; omega
      · exact h2
    · intro h1
      rcases hz.2 (.inr h1) with e | h2
      · subst e; have := hy z h1; omega
      · exact h2
end Go.Proofs.Yteehjciepccomaa
