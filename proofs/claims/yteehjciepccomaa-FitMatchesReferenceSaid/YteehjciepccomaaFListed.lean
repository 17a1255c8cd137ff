/-
  listed: the seconds of a set for which a function says yes.
-/
import Derived.Test.YteehjciepccomaaFNext
namespace Go.Proofs.Yteehjciepccomaa
open Go.RowKit Go.Shelf
attribute [local go_sem] Oper.semAt_some

theorem info_int : (Try.prog.info? 3).map (fun i => (i.zero, i.size, i.bytes)) = some (some (.int .i64 0), 1, 8) := by kernel_rfl
theorem own_less {w : World} {base base' e size n : Nat} {v : Value} {xs : List Value} (h : w.ownsRow base e size v n xs) (hb : base' ≤ base) : w.ownsRow base' e size v n xs := by
  refine ⟨h.1, ?_⟩
  rcases h.2 with h | ⟨g, cap, cur, h1, h2, h3⟩
  · exact .inl h
  · exact .inr ⟨g, cap, cur, h1, Nat.le_trans hb h2, h3⟩
theorem own_ints {w : World} {base : Nat} {v : Value} {zs : List Int} (h : w.ownsRow base 3 1 v zs.length (zs.map (Value.int .i64))) : Ints w.heap.size w v zs := by
  rcases h.2 with ⟨hv, h0⟩ | ⟨g, cap, cur, hv, _, hg, h1, h2, h3, h4⟩
  · exact .inl ⟨none, 0, hv, List.eq_nil_of_length_eq_zero h0⟩
  · refine .inr ⟨g, 0, cap, hv, (Array.getElem?_eq_some_iff.1 hg).1, fun k hk => ?_⟩
    subst hv
    have := World.ownsRow.cells h (g := g) rfl k (.int .i64 (zs[k]?.getD 0)) (by simp [hk])
    have e : (⟨g, 0, none⟩ : Addr).add k = ⟨g, k, none⟩ := by unfold Addr.add; split <;> simp_all
    rw [e] at this
    rw [Nat.zero_add]
    exact this
theorem filter_upto (q : Int → Bool) (l : List Int) (x : Int) : (l ++ [x]).filter q = if q x then l.filter q ++ [x] else l.filter q := by
  rw [List.filter_append]
  cases h : q x <;> simp [h]
theorem every_any (x : Int) (w : World) : Calls Try.prog 44 #[.int .i64 x] w fun e w' => e = .returned (.bool true) ∧ Upd [] w w' := by
  go_enter Try.func44, Try.ntmps44
  go_wp2
  go_ret
  exact ⟨rfl, Upd.refl _ _⟩

set_option maxRecDepth 100000 in
set_option maxHeartbeats 2000000 in
theorem listedE_in (n : Nat) (hn : 6 ≤ n) (g : Nat) (L : List Int) (w : World) (q : Int → Bool) (hS : SetIs w g L)
    (hQ : ∀ x ∈ L, ∀ W, Upd [w.heap.size + 1] w W → Calls Try.prog 44 #[.int .i64 x] W fun e w' => e = .returned (.bool (q x)) ∧ Upd [] W w') :
    CallsIn Fence.wide n Try.prog 43 #[.pointer (some ⟨g, 0, none⟩), .func (.func 44) #[] #[]] w fun e w' => ∃ v, e = .returned v ∧ w'.ownsRow w.heap.size 3 1 v ((memb L 72001).filter q).length (((memb L 72001).filter q).map (Value.int .i64)) ∧ Below w.heap.size w w' := by
  have h1 : 1 ≤ n := by omega
  obtain ⟨i0, hi, hz0, hz1, hz2⟩ := info_parts info_int
  refine callsIn_of_wp_marks Try.func43 rfl trivial ?_ rfl
  simp only [Try.ntmps43, List.size_toArray, List.length_cons, List.length_nil, Nat.reduceAdd, Nat.reduceSub, Array.replicate_succ, Array.replicate_zero, List.push_toArray, List.append_toArray, List.nil_append, List.cons_append]
  have AL := fun (W : World) => (callsIn_wide (n := n - 1)).2 (all_any g W)
  have hfn : Fence.wide.fn 69 := trivial
  have hgl := hS.lt
  have HS := hide hS
  have HQ := hide hQ
  clear hS hQ
  gi_wp2_with (gi_at_call 69; refine (AL _).mono ?_; rintro e w' ⟨rfl, rfl⟩)
  obtain ⟨W0, hW0⟩ : ∃ W0, (((w.alloc (.cells #[.func (.func 44) #[] #[]] 78)).alloc (.cells #[.slice none 0 0] 24)).alloc (.cells #[.pointer (some ⟨g, 0, none⟩)] 72)) = W0 := ⟨_, rfl⟩
  rw [hW0]
  have hsz : W0.heap.size = w.heap.size + 3 := by rw [← hW0]; simp
  have U0 : Upd [] w W0 := by rw [← hW0]; exact (((Upd.refl [] w).alloc _).alloc _).alloc _
  have bBs : W0.cell? ⟨w.heap.size + 1 + 1, 0, none⟩ = some (.pointer (some ⟨g, 0, none⟩)) := by
    have := (Blk.new ((w.alloc (.cells #[.func (.func 44) #[] #[]] 78)).alloc (.cells #[.slice none 0 0] 24)) 72 [.pointer (some ⟨g, 0, none⟩)]).cell 0
    rw [← hW0]
    simpa using this
  have bP : Blk W0 w.heap.size 78 [.func (.func 44) #[] #[]] := by
    rw [← hW0]
    exact ((Blk.new w _ _).alloc _).alloc _
  have bO : Boxed W0 (w.heap.size + 1) 24 (.slice none 0 0) := by
    have := (Blk.new (w.alloc (.cells #[.func (.func 44) #[] #[]] 78)) 24 [.slice none 0 0]).alloc (.cells #[.pointer (some ⟨g, 0, none⟩)] 72)
    rw [← hW0]
    unfold Boxed
    unfold Blk at this
    simpa using this
  clear hW0
  refine wpIn_rangeFunc_ownG rfl h1 (gf := 86) (lb := #[.pointer (some ⟨w.heap.size + 1 + 1, 0, none⟩)]) rfl trivial (enters_of Try.func86 (by kernel_rfl) rfl)
    (all_stops (n - 1) (by omega) (w.heap.size + 1 + 1) g L W0 (by omega) bBs (HS.out.upd U0 (by simp))) Keep2.trans (Keep2.put (by omega) (by omega)) (Below.refl _ _) (fun _ => rfl)
    (fun pre W => (∃ v, Boxed W (w.heap.size + 1) 24 v ∧ W.ownsRow W0.heap.size 3 1 v ((pre.map Subtype.val).filter q).length (((pre.map Subtype.val).filter q).map (Value.int .i64)) ∧ True) ∧ Upd [w.heap.size + 1] W0 W)
    (fun _ _ _ => False)
    (OwnFrom.and (Own.from (holdsRow_own W0.heap.size (w.heap.size + 1) 24 3 1 (fun pre : List (InL L) => ((pre.map Subtype.val).filter q).length) (fun pre : List (InL L) => ((pre.map Subtype.val).filter q).map (Value.int .i64)) (fun _ _ => True)) _) ownFrom_upd)
    (fun _ _ _ _ _ hs _ _ => hs)
    ⟨⟨_, bO, World.ownsRow_nil _ _ _ _, trivial⟩, Upd.refl _ _⟩
    (fun x => { tmps := #[.pointer (some ⟨g, 0, none⟩), .func (.func 44) #[] #[], undef, .pointer (some ⟨w.heap.size, 0, none⟩), .slice none 0 0, .pointer (some ⟨w.heap.size + 1, 0, none⟩), .int .i64 x.1, .pointer (some ⟨g, 0, none⟩),
      .func (.func 86) #[] #[.pointer (some ⟨w.heap.size + 1 + 1, 0, none⟩)], .int .i64 x.1, undef, undef, undef, undef, undef, undef, undef, undef], defers := [] }) ?assign ?body ?done ?stop
  case assign =>
    intro l x W K hK
    gi_wp2
    exact hK
  case body =>
    rintro l pre ⟨x, hx⟩ W ⟨⟨v, hv, hrow, _⟩, hu⟩ hlt
    have hkp : ((pre.map Subtype.val).filter q).length < 72001 := Nat.lt_of_le_of_lt (List.length_filter_le _ _) (by rw [List.length_map]; exact hlt)
    obtain ⟨zs, hzs⟩ : ∃ zs, (pre.map Subtype.val).filter q = zs := ⟨_, rfl⟩
    have HE := hide (show ((pre ++ [(⟨x, hx⟩ : InL L)]).map Subtype.val).filter q = if q x then zs ++ [x] else zs by rw [List.map_append, ← hzs]; exact filter_upto q _ x)
    rw [hzs] at hrow hkp
    clear hzs hlt
    have j0 := (bP.upd hu (by simp)).cell 0
    have M := (callsIn_wide (n := n - 1 - 1 - 1)).2 (HQ.out x hx W ((U0.mono (l' := [w.heap.size + 1]) (by simp)).trans hu (by simp)))
    obtain ⟨m, hm⟩ : ∃ m, q x = m := ⟨_, rfl⟩
    rw [hm] at M HE
    have ME := hide (CallsIn.inRound l M)
    have HU := hide hu
    have hfm : Fence.wide.fn 44 := trivial
    have hd : 1 ≤ n - 1 - 1 := by omega
    have HV := hide hv
    have HROW := hide hrow
    clear M hm hu hv hrow
    cases m with
    | false =>
      gi_wp2_with (gi_at_call 44; refine ME.out.mono ?_; rintro e W1 ⟨rfl, u1⟩; have U1 := hide u1; clear u1)
      have u2 : Upd [w.heap.size + 1] W W1 := U1.out.mono (by simp)
      refine ⟨u2.keepsFrom (by omega), u2.keep2 (by have := HU.out.size; omega) (by have := HU.out.size; omega) (by omega) (by omega), ⟨v, ?_, ?_, trivial⟩, HU.out.trans u2 (by simp)⟩
      · exact (U1.out.block _ HV.out.lt (by simp)).trans HV.out
      · have e := HE.out
        simp only [Bool.false_eq_true, if_false] at e
        rw [e]
        exact own_kept HROW.out U1.out (by simp)
    | true =>
      gi_wp2_with (first | (gi_at_call 44; refine ME.out.mono ?_; rintro e W1 ⟨rfl, u1⟩; have U1 := hide u1; have V1 := hide (show Boxed W1 (w.heap.size + 1) 24 v from (u1.block _ HV.out.lt (by simp)).trans HV.out); have R1 := hide (own_kept HROW.out u1 (by simp)); have hc := V1.out.cell; clear u1) | (gi_at_builtin; refine wpListIn_append_own _ rfl _ _ 24 rfl W0.heap.size 3 i0 (.int .i64 0) 1 8 Try.underlying24 hi hz0 hz1 hz2 rfl (by decide) _ _ _ rfl (R1.out.alloc _) ⟨W1.heap.size, 0, none⟩ 1 1 [.int .i64 x] rfl rfl (cell_one_new _ _ _) (by simp [Value.oneCell']) (by unfold maxLen; omega) (by omega) (by have := HU.out.size; have := U1.out.size; simp; omega) ?_; intro v' w1 hown' hgrow _; obtain ⟨g', cap', rfl⟩ := ownsRow_succ hown'; obtain ⟨hv1, hv2, hr2, hk2, hb2⟩ := V1.out.appended (n₀ := 0) (by decide) (own_less R1.out (Nat.zero_le _)) (Nat.zero_le _) (Nat.zero_le _) (own_less hown' (Nat.zero_le _)) hgrow; have HG := hide hgrow; have HO := hide hown'; have HK2 := hide hk2; have HV1 := hide hv1; have HV2 := hide hv2; have hc1 := hv1.cell; have hf1 := hv1.frozen; clear hgrow hown' hk2 hv2 hr2 hb2 hv1))
      have hrowB : ∀ k, v.ownBlock = some k → W0.heap.size ≤ k := fun k hk => by
        rcases R1.out.2 with ⟨hv, _⟩ | ⟨g, cap, cur, hv, hb, _⟩
        · rw [hv] at hk; simp [Value.ownBlock] at hk
        · rw [hv] at hk
          obtain rfl : g = k := by simpa [Value.ownBlock] using hk
          exact hb
      have hsW : W0.heap.size ≤ W1.heap.size := Nat.le_trans HU.out.size U1.out.size
      have u3 : Upd [w.heap.size + 1] W0 (w1.setCell ⟨w.heap.size + 1, 0, none⟩ (.slice (some ⟨g', 0, none⟩) (zs.length + 1) cap')) :=
        ((((HU.out.trans U1.out (by simp)).alloc _).grown HG.out (fun k hk => .inr (hrowB k hk))).setCell (.inl (by simp)) _)
      have u4 : Keep2 (w.heap.size + 1 + 1) g W (w1.setCell ⟨w.heap.size + 1, 0, none⟩ (.slice (some ⟨g', 0, none⟩) (zs.length + 1) cap')) := by
        have hW := HU.out.size
        have a := HU.out
        exact ⟨(u3.block _ (by omega) (by simp)).trans (a.block _ (by omega) (by simp)).symm, (u3.block _ (by omega) (by simp; omega)).trans (a.block _ (by omega) (by simp; omega)).symm⟩
      have u5 : KeepsFrom W0.heap.size W W1 := (U1.out.mono (l' := [w.heap.size + 1]) (by simp)).keepsFrom (by omega)
      refine ⟨u5.trans (HK2.out.from _), u4, ⟨_, HV2.out, ?_, trivial⟩, u3⟩
      have e := HE.out
      simp only [if_true] at e
      rw [e]
      have := HO.out.kept (grownBy_setCell' w1 (w.heap.size + 1) (.slice (some ⟨g', 0, none⟩) (zs.length + 1) cap')) (.inr (HV1.out.not_row (by decide) HO.out).symm)
      simpa using this
  case done =>
    rintro D ys W hD hys ⟨⟨v, hv, hrow, _⟩, hu⟩ hK
    have hc := hv.cell
    have HU := hide hu
    have HV := hide hv
    have HROW := hide hrow
    have HK := hide hK
    have HYS := hide hys
    clear hu hv hrow hK hys
    gi_wp2
    refine ⟨by simp, .inl ⟨_, _, rfl, run_takeDeferred HK.out, ?_⟩⟩
    have ug : Upd [w.heap.size + 1] W0 (W.putObj D (.deferred none)) := HU.out.grown (grownBy_putObj' W D _) (fun k e => by cases e; right; omega)
    refine ⟨_, results_tmp rfl _ _ _, v, rfl, ?_, ?_⟩
    · have e : ys.map Subtype.val = memb L 72001 := HYS.out
      have h := ownsRow_putObj HROW.out (.deferred none) HK.out rfl
      rw [e] at h
      exact own_less h (by omega)
    · exact (U0.mono (l' := [w.heap.size + 1]) (by simp)).trans ug (by simp) |>.toBelow (Nat.le_refl _) (by simp)
  case stop =>
    rintro D c pre W _ _ h _
    exact h.elim

set_option maxRecDepth 100000 in
set_option maxHeartbeats 2000000 in
theorem listedB_in (n : Nat) (hn : 6 ≤ n) (g : Nat) (L : List Int) (w : World) (bl bn : Nat) (q : Int → Bool) (hS : SetIs w g L)
    (hQ : ∀ x ∈ L, ∀ W, Upd [w.heap.size + 1] w W → Calls Try.prog 45 #[.int .i64 x, .pointer (some ⟨bl, 0, none⟩), .pointer (some ⟨bn, 0, none⟩)] W fun e w' => e = .returned (.bool (q x)) ∧ Upd [] W w') :
    CallsIn Fence.wide n Try.prog 43 #[.pointer (some ⟨g, 0, none⟩), .func (.func 45) #[] #[.pointer (some ⟨bl, 0, none⟩), .pointer (some ⟨bn, 0, none⟩)]] w fun e w' => ∃ v, e = .returned v ∧ w'.ownsRow w.heap.size 3 1 v ((memb L 72001).filter q).length (((memb L 72001).filter q).map (Value.int .i64)) ∧ Below w.heap.size w w' := by
  have h1 : 1 ≤ n := by omega
  obtain ⟨i0, hi, hz0, hz1, hz2⟩ := info_parts info_int
  refine callsIn_of_wp_marks Try.func43 rfl trivial ?_ rfl
  simp only [Try.ntmps43, List.size_toArray, List.length_cons, List.length_nil, Nat.reduceAdd, Nat.reduceSub, Array.replicate_succ, Array.replicate_zero, List.push_toArray, List.append_toArray, List.nil_append, List.cons_append]
  have AL := fun (W : World) => (callsIn_wide (n := n - 1)).2 (all_any g W)
  have hfn : Fence.wide.fn 69 := trivial
  have hgl := hS.lt
  have HS := hide hS
  have HQ := hide hQ
  clear hS hQ
  gi_wp2_with (gi_at_call 69; refine (AL _).mono ?_; rintro e w' ⟨rfl, rfl⟩)
  obtain ⟨W0, hW0⟩ : ∃ W0, (((w.alloc (.cells #[.func (.func 45) #[] #[.pointer (some ⟨bl, 0, none⟩), .pointer (some ⟨bn, 0, none⟩)]] 78)).alloc (.cells #[.slice none 0 0] 24)).alloc (.cells #[.pointer (some ⟨g, 0, none⟩)] 72)) = W0 := ⟨_, rfl⟩
  rw [hW0]
  have hsz : W0.heap.size = w.heap.size + 3 := by rw [← hW0]; simp
  have U0 : Upd [] w W0 := by rw [← hW0]; exact (((Upd.refl [] w).alloc _).alloc _).alloc _
  have bBs : W0.cell? ⟨w.heap.size + 1 + 1, 0, none⟩ = some (.pointer (some ⟨g, 0, none⟩)) := by
    have := (Blk.new ((w.alloc (.cells #[.func (.func 45) #[] #[.pointer (some ⟨bl, 0, none⟩), .pointer (some ⟨bn, 0, none⟩)]] 78)).alloc (.cells #[.slice none 0 0] 24)) 72 [.pointer (some ⟨g, 0, none⟩)]).cell 0
    rw [← hW0]
    simpa using this
  have bP : Blk W0 w.heap.size 78 [.func (.func 45) #[] #[.pointer (some ⟨bl, 0, none⟩), .pointer (some ⟨bn, 0, none⟩)]] := by
    rw [← hW0]
    exact ((Blk.new w _ _).alloc _).alloc _
  have bO : Boxed W0 (w.heap.size + 1) 24 (.slice none 0 0) := by
    have := (Blk.new (w.alloc (.cells #[.func (.func 45) #[] #[.pointer (some ⟨bl, 0, none⟩), .pointer (some ⟨bn, 0, none⟩)]] 78)) 24 [.slice none 0 0]).alloc (.cells #[.pointer (some ⟨g, 0, none⟩)] 72)
    rw [← hW0]
    unfold Boxed
    unfold Blk at this
    simpa using this
  clear hW0
  refine wpIn_rangeFunc_ownG rfl h1 (gf := 86) (lb := #[.pointer (some ⟨w.heap.size + 1 + 1, 0, none⟩)]) rfl trivial (enters_of Try.func86 (by kernel_rfl) rfl)
    (all_stops (n - 1) (by omega) (w.heap.size + 1 + 1) g L W0 (by omega) bBs (HS.out.upd U0 (by simp))) Keep2.trans (Keep2.put (by omega) (by omega)) (Below.refl _ _) (fun _ => rfl)
    (fun pre W => (∃ v, Boxed W (w.heap.size + 1) 24 v ∧ W.ownsRow W0.heap.size 3 1 v ((pre.map Subtype.val).filter q).length (((pre.map Subtype.val).filter q).map (Value.int .i64)) ∧ True) ∧ Upd [w.heap.size + 1] W0 W)
    (fun _ _ _ => False)
    (OwnFrom.and (Own.from (holdsRow_own W0.heap.size (w.heap.size + 1) 24 3 1 (fun pre : List (InL L) => ((pre.map Subtype.val).filter q).length) (fun pre : List (InL L) => ((pre.map Subtype.val).filter q).map (Value.int .i64)) (fun _ _ => True)) _) ownFrom_upd)
    (fun _ _ _ _ _ hs _ _ => hs)
    ⟨⟨_, bO, World.ownsRow_nil _ _ _ _, trivial⟩, Upd.refl _ _⟩
    (fun x => { tmps := #[.pointer (some ⟨g, 0, none⟩), .func (.func 45) #[] #[.pointer (some ⟨bl, 0, none⟩), .pointer (some ⟨bn, 0, none⟩)], undef, .pointer (some ⟨w.heap.size, 0, none⟩), .slice none 0 0, .pointer (some ⟨w.heap.size + 1, 0, none⟩), .int .i64 x.1, .pointer (some ⟨g, 0, none⟩),
      .func (.func 86) #[] #[.pointer (some ⟨w.heap.size + 1 + 1, 0, none⟩)], .int .i64 x.1, undef, undef, undef, undef, undef, undef, undef, undef], defers := [] }) ?assign ?body ?done ?stop
  case assign =>
    intro l x W K hK
    gi_wp2
    exact hK
  case body =>
    rintro l pre ⟨x, hx⟩ W ⟨⟨v, hv, hrow, _⟩, hu⟩ hlt
    have hkp : ((pre.map Subtype.val).filter q).length < 72001 := Nat.lt_of_le_of_lt (List.length_filter_le _ _) (by rw [List.length_map]; exact hlt)
    obtain ⟨zs, hzs⟩ : ∃ zs, (pre.map Subtype.val).filter q = zs := ⟨_, rfl⟩
    have HE := hide (show ((pre ++ [(⟨x, hx⟩ : InL L)]).map Subtype.val).filter q = if q x then zs ++ [x] else zs by rw [List.map_append, ← hzs]; exact filter_upto q _ x)
    rw [hzs] at hrow hkp
    clear hzs hlt
    have j0 := (bP.upd hu (by simp)).cell 0
    have M := (callsIn_wide (n := n - 1 - 1 - 1)).2 (HQ.out x hx W ((U0.mono (l' := [w.heap.size + 1]) (by simp)).trans hu (by simp)))
    obtain ⟨m, hm⟩ : ∃ m, q x = m := ⟨_, rfl⟩
    rw [hm] at M HE
    have ME := hide (CallsIn.inRound l M)
    have HU := hide hu
    have hfm : Fence.wide.fn 45 := trivial
    have hd : 1 ≤ n - 1 - 1 := by omega
    have HV := hide hv
    have HROW := hide hrow
    clear M hm hu hv hrow
    cases m with
    | false =>
      gi_wp2_with (gi_at_call 45; refine ME.out.mono ?_; rintro e W1 ⟨rfl, u1⟩; have U1 := hide u1; clear u1)
      have u2 : Upd [w.heap.size + 1] W W1 := U1.out.mono (by simp)
      refine ⟨u2.keepsFrom (by omega), u2.keep2 (by have := HU.out.size; omega) (by have := HU.out.size; omega) (by omega) (by omega), ⟨v, ?_, ?_, trivial⟩, HU.out.trans u2 (by simp)⟩
      · exact (U1.out.block _ HV.out.lt (by simp)).trans HV.out
      · have e := HE.out
        simp only [Bool.false_eq_true, if_false] at e
        rw [e]
        exact own_kept HROW.out U1.out (by simp)
    | true =>
      gi_wp2_with (first | (gi_at_call 45; refine ME.out.mono ?_; rintro e W1 ⟨rfl, u1⟩; have U1 := hide u1; have V1 := hide (show Boxed W1 (w.heap.size + 1) 24 v from (u1.block _ HV.out.lt (by simp)).trans HV.out); have R1 := hide (own_kept HROW.out u1 (by simp)); have hc := V1.out.cell; clear u1) | (gi_at_builtin; refine wpListIn_append_own _ rfl _ _ 24 rfl W0.heap.size 3 i0 (.int .i64 0) 1 8 Try.underlying24 hi hz0 hz1 hz2 rfl (by decide) _ _ _ rfl (R1.out.alloc _) ⟨W1.heap.size, 0, none⟩ 1 1 [.int .i64 x] rfl rfl (cell_one_new _ _ _) (by simp [Value.oneCell']) (by unfold maxLen; omega) (by omega) (by have := HU.out.size; have := U1.out.size; simp; omega) ?_; intro v' w1 hown' hgrow _; obtain ⟨g', cap', rfl⟩ := ownsRow_succ hown'; obtain ⟨hv1, hv2, hr2, hk2, hb2⟩ := V1.out.appended (n₀ := 0) (by decide) (own_less R1.out (Nat.zero_le _)) (Nat.zero_le _) (Nat.zero_le _) (own_less hown' (Nat.zero_le _)) hgrow; have HG := hide hgrow; have HO := hide hown'; have HK2 := hide hk2; have HV1 := hide hv1; have HV2 := hide hv2; have hc1 := hv1.cell; have hf1 := hv1.frozen; clear hgrow hown' hk2 hv2 hr2 hb2 hv1))
      have hrowB : ∀ k, v.ownBlock = some k → W0.heap.size ≤ k := fun k hk => by
        rcases R1.out.2 with ⟨hv, _⟩ | ⟨g, cap, cur, hv, hb, _⟩
        · rw [hv] at hk; simp [Value.ownBlock] at hk
        · rw [hv] at hk
          obtain rfl : g = k := by simpa [Value.ownBlock] using hk
          exact hb
      have hsW : W0.heap.size ≤ W1.heap.size := Nat.le_trans HU.out.size U1.out.size
      have u3 : Upd [w.heap.size + 1] W0 (w1.setCell ⟨w.heap.size + 1, 0, none⟩ (.slice (some ⟨g', 0, none⟩) (zs.length + 1) cap')) :=
        ((((HU.out.trans U1.out (by simp)).alloc _).grown HG.out (fun k hk => .inr (hrowB k hk))).setCell (.inl (by simp)) _)
      have u4 : Keep2 (w.heap.size + 1 + 1) g W (w1.setCell ⟨w.heap.size + 1, 0, none⟩ (.slice (some ⟨g', 0, none⟩) (zs.length + 1) cap')) := by
        have hW := HU.out.size
        have a := HU.out
        exact ⟨(u3.block _ (by omega) (by simp)).trans (a.block _ (by omega) (by simp)).symm, (u3.block _ (by omega) (by simp; omega)).trans (a.block _ (by omega) (by simp; omega)).symm⟩
      have u5 : KeepsFrom W0.heap.size W W1 := (U1.out.mono (l' := [w.heap.size + 1]) (by simp)).keepsFrom (by omega)
      refine ⟨u5.trans (HK2.out.from _), u4, ⟨_, HV2.out, ?_, trivial⟩, u3⟩
      have e := HE.out
      simp only [if_true] at e
      rw [e]
      have := HO.out.kept (grownBy_setCell' w1 (w.heap.size + 1) (.slice (some ⟨g', 0, none⟩) (zs.length + 1) cap')) (.inr (HV1.out.not_row (by decide) HO.out).symm)
      simpa using this
  case done =>
    rintro D ys W hD hys ⟨⟨v, hv, hrow, _⟩, hu⟩ hK
    have hc := hv.cell
    have HU := hide hu
    have HV := hide hv
    have HROW := hide hrow
    have HK := hide hK
    have HYS := hide hys
    clear hu hv hrow hK hys
    gi_wp2
    refine ⟨by simp, .inl ⟨_, _, rfl, run_takeDeferred HK.out, ?_⟩⟩
    have ug : Upd [w.heap.size + 1] W0 (W.putObj D (.deferred none)) := HU.out.grown (grownBy_putObj' W D _) (fun k e => by cases e; right; omega)
    refine ⟨_, results_tmp rfl _ _ _, v, rfl, ?_, ?_⟩
    · have e : ys.map Subtype.val = memb L 72001 := HYS.out
      have h := ownsRow_putObj HROW.out (.deferred none) HK.out rfl
      rw [e] at h
      exact own_less h (by omega)
    · exact (U0.mono (l' := [w.heap.size + 1]) (by simp)).trans ug (by simp) |>.toBelow (Nat.le_refl _) (by simp)
  case stop =>
    rintro D c pre W _ _ h _
    exact h.elim

/-- listed(now, every) -/
theorem listed_every (g : Nat) (L : List Int) (w : World) (hS : SetIs w g L) :
    Calls Try.prog 43 #[.pointer (some ⟨g, 0, none⟩), .func (.func 44) #[] #[]] w fun e w' => ∃ v, e = .returned v ∧ w'.ownsRow w.heap.size 3 1 v (memb L 72001).length ((memb L 72001).map (Value.int .i64)) ∧ Below w.heap.size w w' := by
  have h := callsIn_wide.1 (listedE_in 6 (by omega) g L w (fun _ => true) hS (fun x _ W _ => every_any x W))
  rwa [List.filter_eq_self.2 (fun _ _ => rfl)] at h
end Go.Proofs.Yteehjciepccomaa
