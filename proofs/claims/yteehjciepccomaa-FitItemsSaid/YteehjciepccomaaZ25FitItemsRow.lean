/-
  item.Cut.
-/
import Derived.Test.YteehjciepccomaaZ17FitItemsRow
import Derived.Test.YteehjciepccomaaZ15FitItemsRow
import Derived.Test.YteehjciepccomaaZ19FitItemsRow

namespace Go.Proofs.Yteehjciepccomaa
open Go.RowKit Go.Shelf
set_option maxRecDepth 100000
attribute [local go_sem] Oper.semAt_some

/-- How two cuts compare: by how many indices they have, then by the indices. -/
def cutCmp (a b : List Int) : Int := if Lib.compareInt a.length b.length = 0 then cmpL a b else Lib.compareInt a.length b.length
def bestStep (i : It) (wanted : Int) (o : Option (List Int)) (c : List Int) : Option (List Int) :=
  if cutLen i c = wanted then (match o with | none => some c | some b => if cutCmp c b < 0 then some c else some b) else o
def bestOf (i : It) (wanted : Int) (l : List Nat) : Option (List Int) := l.foldl (fun o s => bestStep i wanted o (bitsS s i.trims.length)) none
theorem bestOf_snoc (i : It) (wanted : Int) (l : List Nat) (s : Nat) : bestOf i wanted (l ++ [s]) = bestStep i wanted (bestOf i wanted l) (bitsS s i.trims.length) := by
  unfold bestOf
  rw [List.foldl_append]
  rfl
theorem it_keepsFrom {l : List Nat} {B : Nat} {W W' : World} (h : Upd l W W') (hl : ∀ x ∈ l, x < B) : KeepsFrom B W W' :=
  ⟨h.size, fun k o hk ho _ => (h.block k (Array.getElem?_eq_some_iff.1 ho).1 (fun hm => by have := hl k hm; omega)).trans ho⟩
def OwnsCut (w : World) (v : Value) (zs : List Int) : Prop := w.ownsRow 0 3 1 v zs.length (zs.map (Value.int .i64))
def CutPost (i : It) (wanted : Int) (w : World) (e : Ending) (w' : World) : Prop :=
  Upd [] w w' ∧ match (if ItOk i then bestOf i wanted (List.range (2 ^ i.trims.length)) else none) with
    | some c => ∃ v, e = .returned (.tuple #[v, .int .i64 0]) ∧ OwnsCut w' v c
    | none => e = .returned (.tuple #[.slice none 0 0, .int .i64 70])

set_option maxHeartbeats 20000000 in
theorem cut_no {n₀ : Nat} (i : It) (ta : Option Addr) (tc : Nat) (ka : Option Addr) (kc : Nat) (wanted : Int) (w : World) (hT : SpsAt n₀ w ta i.trims) (hK : SpsAt n₀ w ka i.talks) (hn : n₀ ≤ w.heap.size) (hm : i.trims.length ≤ maxLen) (hm2 : i.talks.length ≤ maxLen) (hok : ¬ ItOk i) :
    Calls Try.prog 37 #[.agg #[.int .i64 i.id, .int .i64 i.kind, .int .i64 i.len, .slice ta i.trims.length tc, .slice ka i.talks.length kc, .int .i64 i.artist, .int .i64 i.tempo, .int .i64 i.lang], .int .i64 wanted] w fun e w' => e = .returned (.tuple #[.slice none 0 0, .int .i64 70]) ∧ Upd [] w w' := by
  obtain ⟨tn, htn⟩ : ∃ n, i.trims.length = n := ⟨_, rfl⟩
  obtain ⟨kn, hkn⟩ : ∃ n, i.talks.length = n := ⟨_, rfl⟩
  have L1 := Blk.new w 61 [.int .i64 i.id, .int .i64 i.kind, .int .i64 i.len, .slice ta i.trims.length tc, .slice ka i.talks.length kc, .int .i64 i.artist, .int .i64 i.tempo, .int .i64 i.lang]
  have u1 := ((Upd.refl [] w).alloc (.cells #[.int .i64 i.id, .int .i64 i.kind, .int .i64 i.len, .slice ta i.trims.length tc, .slice ka i.talks.length kc, .int .i64 i.artist, .int .i64 i.tempo, .int .i64 i.lang] 61)).alloc (.cells #[.int .i64 wanted] 3)
  have VA := valid_it i ta tc ka kc _ (hT.upd u1 hn (by simp)) (hK.upd u1 hn (by simp)) (Nat.le_trans hn u1.size) hm hm2
  rw [decide_eq_false hok] at VA
  rw [htn, hkn] at VA u1 L1 ⊢
  have L2 := L1.alloc (.cells #[.int .i64 wanted] 3)
  have k0 := L2.cell 0
  have k1 := L2.cell 1
  have k2 := L2.cell 2
  have k3 := L2.cell 3
  have k4 := L2.cell 4
  have k5 := L2.cell 5
  have k6 := L2.cell 6
  have k7 := L2.cell 7
  have HV := hide VA
  have U1 := hide u1
  clear hT hK hm hm2 VA u1 L1 L2 htn hkn hok
  go_enter Try.func37, Try.ntmps37
  go_wp2_with fail
  refine HV.out.mono ?_
  rintro e w1 ⟨rfl, u⟩
  have U2 := hide (U1.out.trans u (by simp))
  clear u
  go_wp2_with fail
  go_ret2
  exact ⟨rfl, U2.out⟩

set_option maxHeartbeats 20000000 in
theorem cut_in {n₀ : Nat} (n : Nat) (hn6 : 6 ≤ n) (i : It) (ta : Option Addr) (tc : Nat) (ka : Option Addr) (kc : Nat) (wanted : Int) (w : World) (hT : SpsAt n₀ w ta i.trims) (hK : SpsAt n₀ w ka i.talks) (hn : n₀ ≤ w.heap.size) (hok : ItOk i) :
    CallsIn Fence.wide n Try.prog 37 #[.agg #[.int .i64 i.id, .int .i64 i.kind, .int .i64 i.len, .slice ta i.trims.length tc, .slice ka i.talks.length kc, .int .i64 i.artist, .int .i64 i.tempo, .int .i64 i.lang], .int .i64 wanted] w (CutPost i wanted w) := by
  have hm : i.trims.length ≤ maxLen := by have := hok.2.1.1.2; unfold maxLen; omega
  have hm2 : i.talks.length ≤ maxLen := by have := hok.2.1.2.2; unfold maxLen; omega
  obtain ⟨i0, hi, hz0, hz1, hz2⟩ := info_parts it_info_int
  obtain ⟨tn, htn⟩ : ∃ n, i.trims.length = n := ⟨_, rfl⟩
  obtain ⟨kn, hkn⟩ : ∃ n, i.talks.length = n := ⟨_, rfl⟩
  have L1 := Blk.new w 61 [.int .i64 i.id, .int .i64 i.kind, .int .i64 i.len, .slice ta i.trims.length tc, .slice ka i.talks.length kc, .int .i64 i.artist, .int .i64 i.tempo, .int .i64 i.lang]
  have u1 := ((Upd.refl [] w).alloc (.cells #[.int .i64 i.id, .int .i64 i.kind, .int .i64 i.len, .slice ta i.trims.length tc, .slice ka i.talks.length kc, .int .i64 i.artist, .int .i64 i.tempo, .int .i64 i.lang] 61)).alloc (.cells #[.int .i64 wanted] 3)
  have VA := valid_it i ta tc ka kc _ (hT.upd u1 hn (by simp)) (hK.upd u1 hn (by simp)) (Nat.le_trans hn u1.size) hm hm2
  rw [decide_eq_true hok] at VA
  rw [htn, hkn] at VA u1 L1 ⊢
  have HV := hide ((callsIn_wide (n := n - 1)).2 VA)
  have HC := hide (show ∀ W, CallsIn Fence.wide (n - 1) Try.prog 61 _ W _ from fun W => (callsIn_wide (n := n - 1)).2 (cuts_any i ta tn tc ka kn kc W))
  have L2 := L1.alloc (.cells #[.int .i64 wanted] 3)
  have L3 := Blk.new (w.alloc (.cells #[.int .i64 i.id, .int .i64 i.kind, .int .i64 i.len, .slice ta tn tc, .slice ka kn kc, .int .i64 i.artist, .int .i64 i.tempo, .int .i64 i.lang] 61)) 3 [.int .i64 wanted]
  rw [World.size_alloc] at L3
  have k0 := L2.cell 0
  have k1 := L2.cell 1
  have k2 := L2.cell 2
  have k3 := L2.cell 3
  have k4 := L2.cell 4
  have k5 := L2.cell 5
  have k6 := L2.cell 6
  have k7 := L2.cell 7
  have BL := hide L2
  have BW := hide L3
  have U1 := hide u1
  have HT := hide hT
  have HTN := hide htn
  have HOK := hide hok
  have h1 : 1 ≤ n := by omega
  have hf1 : Fence.wide.fn 60 := trivial
  have hf2 : Fence.wide.fn 61 := trivial
  have hf3 : Fence.wide.fn 68 := trivial
  have hf4 : Fence.wide.fn 67 := trivial
  have hf5 : Fence.wide.fn 66 := trivial
  clear hT hK hm hm2 VA u1 L1 L2 L3 htn hkn hok
  refine callsIn_of_wp_marks Try.func37 rfl trivial ?_ rfl
  simp only [Try.ntmps37, List.size_toArray, List.length_cons, List.length_nil, Nat.reduceAdd, Nat.reduceSub, Array.replicate_succ, Array.replicate_zero, List.push_toArray, List.append_toArray, List.nil_append, List.cons_append]
  gi_wp2_with (first | (gi_at_call 60; refine HV.out.mono ?_; rintro e w1 ⟨rfl, u⟩; have U2 := hide (U1.out.trans u (by simp)); have BL1 := hide (BL.out.upd u (by simp)); have BW1 := hide (BW.out.upd u (by simp)); have kw0 := BW1.out.cell 0; clear u k0 k1 k2 k3 k4 k5 k6 k7; have k0 := BL1.out.cell 0; have k1 := BL1.out.cell 1; have k2 := BL1.out.cell 2; have k3 := BL1.out.cell 3; have k4 := BL1.out.cell 4; have k5 := BL1.out.cell 5; have k6 := BL1.out.cell 6; have k7 := BL1.out.cell 7; have hsz := BL1.out.lt; have hsz2 := BW1.out.lt) | (gi_at_call 61; refine (HC.out _).mono ?_; rintro e w2 ⟨rfl, rfl⟩))
  obtain ⟨W0, hW0⟩ : ∃ W0, (((w1.alloc (.cells #[.slice none 0 0] 24)).alloc (.cells #[.bool false] 4)).alloc (.cells #[.int .i64 i.id, .int .i64 i.kind, .int .i64 i.len, .slice ta tn tc, .slice ka kn kc, .int .i64 i.artist, .int .i64 i.tempo, .int .i64 i.lang] 61)) = W0 := ⟨_, rfl⟩
  rw [hW0]
  have hs0 : W0.heap.size = w1.heap.size + 3 := by rw [← hW0]; simp
  have U0 : Upd [] w1 W0 := by rw [← hW0]; exact (((Upd.refl [] w1).alloc _).alloc _).alloc _
  have bI : Blk W0 (w1.heap.size + 1 + 1) 61 [.int .i64 i.id, .int .i64 i.kind, .int .i64 i.len, .slice ta tn tc, .slice ka kn kc, .int .i64 i.artist, .int .i64 i.tempo, .int .i64 i.lang] := by
    have := Blk.new ((w1.alloc (.cells #[.slice none 0 0] 24)).alloc (.cells #[.bool false] 4)) 61 [.int .i64 i.id, .int .i64 i.kind, .int .i64 i.len, .slice ta tn tc, .slice ka kn kc, .int .i64 i.artist, .int .i64 i.tempo, .int .i64 i.lang]
    rw [← hW0]
    simpa using this
  have bO : Boxed W0 w1.heap.size 24 (.slice none 0 0) := by
    have := ((Blk.new w1 24 [.slice none 0 0]).alloc (.cells #[.bool false] 4)).alloc (.cells #[.int .i64 i.id, .int .i64 i.kind, .int .i64 i.len, .slice ta tn tc, .slice ka kn kc, .int .i64 i.artist, .int .i64 i.tempo, .int .i64 i.lang] 61)
    rw [← hW0]
    exact this
  have bF : Boxed W0 (w1.heap.size + 1) 4 (.bool false) := by
    have := (Blk.new (w1.alloc (.cells #[.slice none 0 0] 24)) 4 [.bool false]).alloc (.cells #[.int .i64 i.id, .int .i64 i.kind, .int .i64 i.len, .slice ta tn tc, .slice ka kn kc, .int .i64 i.artist, .int .i64 i.tempo, .int .i64 i.lang] 61)
    rw [← hW0]
    rw [World.size_alloc] at this
    exact this
  have bW : Blk W0 (w.heap.size + 1) 3 [.int .i64 wanted] := BW1.out.upd U0 (by simp)
  have hn1 : n₀ ≤ w1.heap.size := Nat.le_trans hn U2.out.size
  have hT0 : SpsAt n₀ W0 ta i.trims := HT.out.upd (U2.out.trans U0 (by simp)) hn (by simp)
  have hC3 : W0.cell? ⟨w1.heap.size + 1 + 1, 3, none⟩ = some (.slice ta i.trims.length tc) := by rw [HTN.out]; exact bI.cell 3
  clear hW0
  refine wpIn_range_told rfl h1 (gf := 79) (lb := #[.pointer (some ⟨w1.heap.size + 1 + 1, 0, none⟩)]) rfl trivial (enters_of Try.func79 (by kernel_rfl) rfl)
    (cuts_told (n₀ := n₀) (n - 1) (by omega) (w1.heap.size + 1 + 1) W0.heap.size i HOK.out ta tc [w1.heap.size, w1.heap.size + 1] W0 (bI.cell 2) hC3 (by omega) (by simp; omega) hT0 (by omega) (by simp; omega) (Nat.le_refl _)) (by simp) KeepX.trans (KeepX.put (Nat.le_refl _)) (Below.refl _ _) (fun _ => rfl)
    (fun x => cutIs_own x)
    (fun pre W => ((∃ v, Boxed W w1.heap.size 24 v ∧ W.ownsRow 0 3 1 v ((bestOf i wanted (pre.map Prod.snd)).getD []).length (((bestOf i wanted (pre.map Prod.snd)).getD []).map (Value.int .i64)) ∧ True) ∧ Boxed W (w1.heap.size + 1) 4 (.bool (bestOf i wanted (pre.map Prod.snd)).isSome)) ∧ Upd [w1.heap.size, w1.heap.size + 1] W0 W)
    (OwnFrom.and (OwnFrom.and (Own.from (holdsRow_own 0 w1.heap.size 24 3 1 (fun pre : List CutX => ((bestOf i wanted (pre.map Prod.snd)).getD []).length) (fun pre : List CutX => ((bestOf i wanted (pre.map Prod.snd)).getD []).map (Value.int .i64)) (fun _ _ => True)) _) (Own.from (boxed_own (w1.heap.size + 1) 4 (fun pre : List CutX => .bool (bestOf i wanted (pre.map Prod.snd)).isSome)) _)) it_ownFrom_upd)
    (fun pre A B hI hu => by
      obtain ⟨⟨⟨v, hv, hr, _⟩, hf⟩, hu0⟩ := hI
      exact ⟨⟨⟨v, (hu.block _ hv.lt (by simp)).trans hv, own_kept hr hu (by simp), trivial⟩, (hu.block _ hf.lt (by simp)).trans hf⟩, hu0.trans hu (by simp)⟩)
    ⟨⟨⟨_, bO, World.ownsRow_nil _ _ _ _, trivial⟩, bF⟩, Upd.refl _ _⟩
    (fun x => { tmps := #[.agg #[.int .i64 i.id, .int .i64 i.kind, .int .i64 i.len, .slice ta tn tc, .slice ka kn kc, .int .i64 i.artist, .int .i64 i.tempo, .int .i64 i.lang], .int .i64 wanted, .pointer (some ⟨w.heap.size, 0, none⟩), .pointer (some ⟨w.heap.size + 1, 0, none⟩), .slice none 0 0, .int .i64 0, .pointer (some ⟨w1.heap.size, 0, none⟩), .pointer (some ⟨w1.heap.size + 1, 0, none⟩), x.1, .int .i64 (cutLen i (bitsS x.2 i.trims.length)),
      .agg #[.int .i64 i.id, .int .i64 i.kind, .int .i64 i.len, .slice ta tn tc, .slice ka kn kc, .int .i64 i.artist, .int .i64 i.tempo, .int .i64 i.lang], .bool true, .bool false, .agg #[.int .i64 i.id, .int .i64 i.kind, .int .i64 i.len, .slice ta tn tc, .slice ka kn kc, .int .i64 i.artist, .int .i64 i.tempo, .int .i64 i.lang], .func (.func 79) #[] #[.pointer (some ⟨w1.heap.size + 1 + 1, 0, none⟩)], x.1, .int .i64 (cutLen i (bitsS x.2 i.trims.length)), undef, undef, undef, undef, undef, undef, undef, undef, undef, undef, undef, undef, undef, undef, undef, undef, undef, undef, undef, undef, undef, undef, undef, undef], defers := [] }) ?assign ?body ?done
  case assign =>
    intro l x W K hK
    gi_wp2
    exact hK
  case body =>
    rintro l pre ⟨xv, st⟩ W ⟨⟨⟨v, hv, hrow, _⟩, hf⟩, hu⟩ hx hlt
    obtain ⟨o, ho⟩ : ∃ o, bestOf i wanted (pre.map Prod.snd) = o := ⟨_, rfl⟩
    obtain ⟨zs, hzs⟩ : ∃ zs, bitsS st i.trims.length = zs := ⟨_, rfl⟩
    obtain ⟨z, hz⟩ : ∃ z, cutLen i zs = z := ⟨_, rfl⟩
    have HE := hide (show bestOf i wanted ((pre ++ [((xv, st) : CutX)]).map Prod.snd) = bestStep i wanted o zs by
      rw [List.map_append, ← ho, ← hzs]
      exact bestOf_snoc i wanted _ st)
    have hx1 : OwnsCut W xv zs := by have := hx.1; dsimp only at this; rw [hzs] at this; exact this
    obtain ⟨xa, xc, rfl⟩ := own_form hx1
    obtain ⟨va, vc, rfl⟩ := own_form hrow
    have hzl : zs.length ≤ 4 := by rw [← hzs]; exact Nat.le_trans (bitsS_length _ _) HOK.out.2.1.1.2
    rw [ho] at hrow hf hv
    dsimp only
    rw [hzs, hz]
    clear hzs hlt hx ho
    have HZ := hide hz
    have HU := hide hu
    have HV := hide hv
    have HF := hide hf
    have R1 := hide hrow
    have X1 := hide hx1
    have hc := hv.cell
    have hcf := hf.cell
    have hcw := (bW.upd hu (by simp; omega)).cell 0
    have hsW : W0.heap.size ≤ W.heap.size := hu.size
    have hff := hf.frozen
    have hvf := hv.frozen
    have FIN := hide (show ∀ W' v', Upd [w1.heap.size, w1.heap.size + 1] W W' → Boxed W' w1.heap.size 24 v' → W'.ownsRow 0 3 1 v' ((bestStep i wanted o zs).getD []).length (((bestStep i wanted o zs).getD []).map (Value.int .i64)) → Boxed W' (w1.heap.size + 1) 4 (.bool (bestStep i wanted o zs).isSome) →
        KeepsFrom W0.heap.size W W' ∧ KeepX W0.heap.size [w1.heap.size, w1.heap.size + 1] W W' ∧ ((∃ v, Boxed W' w1.heap.size 24 v ∧ W'.ownsRow 0 3 1 v ((bestOf i wanted ((pre ++ [((.slice xa zs.length xc, st) : CutX)]).map Prod.snd)).getD []).length (((bestOf i wanted ((pre ++ [((.slice xa zs.length xc, st) : CutX)]).map Prod.snd)).getD []).map (Value.int .i64)) ∧ True) ∧ Boxed W' (w1.heap.size + 1) 4 (.bool (bestOf i wanted ((pre ++ [((.slice xa zs.length xc, st) : CutX)]).map Prod.snd)).isSome)) ∧ Upd [w1.heap.size, w1.heap.size + 1] W0 W' from fun W' v' hu hb ho hf => by
      rw [HE.out]
      exact ⟨it_keepsFrom hu (by simp; omega), KeepX.of_upd hu hsW, ⟨⟨v', hb, ho, trivial⟩, hf⟩, HU.out.trans hu (by simp)⟩)
    -- what the two stores leave
    have STO := hide (show ∀ X, Upd [] W X → Upd [w1.heap.size, w1.heap.size + 1] W ((X.setCell ⟨w1.heap.size, 0, none⟩ (.slice xa zs.length xc)).setCell ⟨w1.heap.size + 1, 0, none⟩ (.bool true)) ∧ Boxed ((X.setCell ⟨w1.heap.size, 0, none⟩ (.slice xa zs.length xc)).setCell ⟨w1.heap.size + 1, 0, none⟩ (.bool true)) w1.heap.size 24 (.slice xa zs.length xc) ∧ OwnsCut ((X.setCell ⟨w1.heap.size, 0, none⟩ (.slice xa zs.length xc)).setCell ⟨w1.heap.size + 1, 0, none⟩ (.bool true)) (.slice xa zs.length xc) zs ∧ Boxed ((X.setCell ⟨w1.heap.size, 0, none⟩ (.slice xa zs.length xc)).setCell ⟨w1.heap.size + 1, 0, none⟩ (.bool true)) (w1.heap.size + 1) 4 (.bool true) from fun X hX => by
      have hV : Boxed X w1.heap.size 24 _ := (hX.block _ HV.out.lt (by simp)).trans HV.out
      have hF : Boxed X (w1.heap.size + 1) 4 _ := (hX.block _ HF.out.lt (by simp)).trans HF.out
      have h1 := hV.set (.slice xa zs.length xc)
      have h2 := hF.other (B' := w1.heap.size) (by omega) (.slice xa zs.length xc)
      have hO : OwnsCut X (.slice xa zs.length xc) zs := own_kept X1.out hX (by simp)
      have e1 := hV.not_row (by decide) hO
      have e2 := hF.not_row (by decide) hO
      have uu : Upd [w1.heap.size, w1.heap.size + 1] X ((X.setCell ⟨w1.heap.size, 0, none⟩ (.slice xa zs.length xc)).setCell ⟨w1.heap.size + 1, 0, none⟩ (.bool true)) := ((Upd.refl _ X).setCell (.inl (by simp)) _).setCell (.inl (by simp)) _
      exact ⟨hX.mono (by simp) |>.trans uu (by simp), h1.other (by omega) _, own_kept hO uu (fun k hk hm => by
        rcases List.mem_cons.1 hm with rfl | hm
        · exact e1 hk.symm
        · obtain rfl := List.mem_singleton.1 hm
          exact e2 hk.symm), h2.set _⟩)
    have ST1 := hide (show ∀ X, Upd [] W X → (X.setCell ⟨w1.heap.size, 0, none⟩ (.slice xa zs.length xc)).cell? ⟨w1.heap.size + 1, 0, none⟩ = some (.bool o.isSome) ∧ (X.setCell ⟨w1.heap.size, 0, none⟩ (.slice xa zs.length xc)).frozen? ⟨w1.heap.size + 1, 0, none⟩ = false ∧ X.cell? ⟨w1.heap.size, 0, none⟩ = some (.slice va _ vc) ∧ X.frozen? ⟨w1.heap.size, 0, none⟩ = false from fun X hX => by
      have hV : Boxed X w1.heap.size 24 _ := (hX.block _ HV.out.lt (by simp)).trans HV.out
      have hF : Boxed X (w1.heap.size + 1) 4 _ := (hX.block _ HF.out.lt (by simp)).trans HF.out
      have h2 := hF.other (B' := w1.heap.size) (by omega) (.slice xa zs.length xc)
      exact ⟨h2.cell, h2.frozen, hV.cell, hV.frozen⟩)
    have hmx : Try.prog.follows .mixedOrders = true := by kernel_rfl
    clear hu hv hrow hf hx1 hz
    have hFz := hide (show ∀ X, Upd [] W X → X.frozen? ⟨w1.heap.size + 1, 0, none⟩ = false from fun X hX => by
      have hF : Boxed X (w1.heap.size + 1) 4 _ := (hX.block _ HF.out.lt (by simp)).trans HF.out
      exact hF.frozen)
    have SX := hide (show ∀ X, Upd [] W X → X.cell? ⟨w.heap.size + 1, 0, none⟩ = some (.int .i64 wanted) ∧ X.cell? ⟨w1.heap.size + 1, 0, none⟩ = some (.bool o.isSome) ∧ X.cell? ⟨w1.heap.size, 0, none⟩ = some (.slice va (o.getD []).length vc) ∧ Upd [] W X from fun X hX => ⟨keepc _ _ _ _ hX hcw, keepc _ _ _ _ hX hcf, keepc _ _ _ _ hX hc, hX⟩)
    have UD := hide ((Upd.refl [] W).drew)
    by_cases e1 : z = wanted
    · have e1b : (z == wanted) = true := by simpa using e1
      cases o with
      | none =>
        have HB := hide (show bestStep i wanted none zs = some zs by unfold bestStep; rw [HZ.out, if_pos e1])
        clear e1
        simp only [Option.isSome_none, Option.getD_none, List.length_nil] at hc hcf SX
        gi_wp2
        refine wpIn_round_held (S := (fun w' => w'.cell? ⟨w.heap.size + 1, 0, none⟩ = some (.int .i64 wanted) ∧ w'.cell? ⟨w1.heap.size + 1, 0, none⟩ = some (.bool false) ∧ w'.cell? ⟨w1.heap.size, 0, none⟩ = some (.slice va 0 vc) ∧ Upd [] W w')) hmx (by kernel_rfl) (by rintro ⟨_, _, h⟩; exact h) (SX.out _ UD.out) (fun hHeld => ?_)
        obtain ⟨wD, hwD⟩ : ∃ wD, W.drew = wD := ⟨_, rfl⟩
        rw [hwD] at UD hHeld ⊢
        clear hwD
        refine wpAnyH_take (i := 0) (oi := ?oi0R2) (v := ?v0R2) ?oi0_0R2 (by kernel_rfl) ?ff0R2 ?rr0R2 ?hq0R2 (Or.inl ⟨?hw0R2, ?hy0R2⟩) (by assumption) ?rest0R2
        case oi0_0R2 =>
          conv =>
            lhs
            whnf
            arg 1
            whnf
        case hq0R2 => exact fun _ _ _ h => h
        case ff0R2 => kernel_rfl
        case rr0R2 => kernel_rfl
        case hw0R2 => rfl
        case hy0R2 =>
          intro w hSw
          (try dsimp only at hSw)
          first
          | (go_simp; done)
          | (go_simp; with_reducible rfl)
        try simp only [Act.put, List.setIfInBounds_toArray, List.set_cons_zero, List.set_cons_succ]
        refine wpAnyH_take (i := 1) (oi := ?oi1R2) (v := ?v1R2) ?oi0_1R2 (by kernel_rfl) ?ff1R2 ?rr1R2 ?hq1R2 (Or.inl ⟨?hw1R2, ?hy1R2⟩) (by assumption) ?rest1R2
        case oi0_1R2 =>
          conv =>
            lhs
            whnf
            arg 1
            whnf
        case hq1R2 => exact fun _ _ _ h => h
        case ff1R2 => kernel_rfl
        case rr1R2 => kernel_rfl
        case hw1R2 => rfl
        case hy1R2 =>
          intro w hSw
          (try dsimp only at hSw)
          first
          | (go_simp; done)
          | (go_simp; with_reducible rfl)
        try simp only [Act.put, List.setIfInBounds_toArray, List.set_cons_zero, List.set_cons_succ]
        refine wpAnyH_take (i := 2) (oi := ?oi2R2) (v := ?v2R2) ?oi0_2R2 (by kernel_rfl) ?ff2R2 ?rr2R2 ?hq2R2 (Or.inl ⟨?hw2R2, ?hy2R2⟩) (by assumption) ?rest2R2
        case oi0_2R2 =>
          conv =>
            lhs
            whnf
            arg 1
            whnf
        case hq2R2 => exact fun _ _ _ h => h
        case ff2R2 => kernel_rfl
        case rr2R2 => kernel_rfl
        case hw2R2 => rfl
        case hy2R2 =>
          intro w hSw
          (try dsimp only at hSw)
          first
          | (go_simp; done)
          | (go_simp; with_reducible rfl)
        try simp only [Act.put, List.setIfInBounds_toArray, List.set_cons_zero, List.set_cons_succ]
        refine wpAnyH_take (i := 3) (oi := ?oi3R2) (v := ?v3R2) ?oi0_3R2 (by kernel_rfl) ?ff3R2 ?rr3R2 ?hq3R2 (Or.inl ⟨?hw3R2, ?hy3R2⟩) (by assumption) ?rest3R2
        case oi0_3R2 =>
          conv =>
            lhs
            whnf
            arg 1
            whnf
        case hq3R2 => exact fun _ _ _ h => h
        case ff3R2 => kernel_rfl
        case rr3R2 => kernel_rfl
        case hw3R2 => rfl
        case hy3R2 =>
          intro w hSw
          (try dsimp only at hSw)
          first
          | (go_simp; done)
          | (go_simp; with_reducible rfl)
        try simp only [Act.put, List.setIfInBounds_toArray, List.set_cons_zero, List.set_cons_succ]
        refine wpAnyH_take (i := 4) (oi := ?oi4R2) (v := ?v4R2) ?oi0_4R2 (by kernel_rfl) ?ff4R2 ?rr4R2 ?hq4R2 (Or.inl ⟨?hw4R2, ?hy4R2⟩) (by assumption) ?rest4R2
        case oi0_4R2 =>
          conv =>
            lhs
            whnf
            arg 1
            whnf
        case hq4R2 => exact fun _ _ _ h => h
        case ff4R2 => kernel_rfl
        case rr4R2 => kernel_rfl
        case hw4R2 => rfl
        case hy4R2 =>
          intro w hSw
          (try dsimp only at hSw)
          first
          | (go_simp; done)
          | (go_simp; with_reducible rfl)
        try simp only [Act.put, List.setIfInBounds_toArray, List.set_cons_zero, List.set_cons_succ]
        refine wpAnyH_take (i := 5) (oi := ?oi5R2) (v := ?v5R2) ?oi0_5R2 (by kernel_rfl) ?ff5R2 ?rr5R2 ?hq5R2 (Or.inl ⟨?hw5R2, ?hy5R2⟩) (by assumption) ?rest5R2
        case oi0_5R2 =>
          conv =>
            lhs
            whnf
            arg 1
            whnf
        case hq5R2 => exact fun _ _ _ h => h
        case ff5R2 => kernel_rfl
        case rr5R2 => kernel_rfl
        case hw5R2 => rfl
        case hy5R2 =>
          intro w hSw
          (try dsimp only at hSw)
          first
          | (go_simp; done)
          | (go_simp; with_reducible rfl)
        try simp only [Act.put, List.setIfInBounds_toArray, List.set_cons_zero, List.set_cons_succ]
        refine wpAnyH_take (i := 6) (oi := ?oi6R2) (v := ?v6R2) ?oi0_6R2 (by kernel_rfl) ?ff6R2 ?rr6R2 ?hq6R2 (Or.inl ⟨?hw6R2, ?hy6R2⟩) (by assumption) ?rest6R2
        case oi0_6R2 =>
          conv =>
            lhs
            whnf
            arg 1
            whnf
        case hq6R2 => exact fun _ _ _ h => h
        case ff6R2 => kernel_rfl
        case rr6R2 => kernel_rfl
        case hw6R2 => rfl
        case hy6R2 =>
          intro w hSw
          (try dsimp only at hSw)
          first
          | (go_simp; done)
          | (go_simp; with_reducible rfl)
        try simp only [Act.put, List.setIfInBounds_toArray, List.set_cons_zero, List.set_cons_succ]
        refine wpAnyH_take (i := 7) (oi := ?oi7R2) (v := undef) ?oi0_7R2 (by kernel_rfl) ?ff7R2 ?rr7R2 ?hq7R2 (Or.inr ⟨?hw7R2, rfl⟩) (by assumption) ?rest7R2
        case oi0_7R2 =>
          conv =>
            lhs
            whnf
            arg 1
            whnf
        case hq7R2 => exact fun _ _ _ h => h
        case ff7R2 => kernel_rfl
        case rr7R2 => kernel_rfl
        case hw7R2 => rfl
        try simp only [Act.put, List.setIfInBounds_toArray, List.set_cons_zero, List.set_cons_succ]
        refine wpAnyH_take (i := 8) (oi := ?oi8R2) (v := undef) ?oi0_8R2 (by kernel_rfl) ?ff8R2 ?rr8R2 ?hq8R2 (Or.inr ⟨?hw8R2, rfl⟩) (by assumption) ?rest8R2
        case oi0_8R2 =>
          conv =>
            lhs
            whnf
            arg 1
            whnf
        case hq8R2 => exact fun _ _ _ h => h
        case ff8R2 => kernel_rfl
        case rr8R2 => kernel_rfl
        case hw8R2 => rfl
        try simp only [Act.put, List.setIfInBounds_toArray, List.set_cons_zero, List.set_cons_succ]
        refine wpAnyH_take (i := 9) (oi := ?oi9R2) (v := undef) ?oi0_9R2 (by kernel_rfl) ?ff9R2 ?rr9R2 ?hq9R2 (Or.inr ⟨?hw9R2, rfl⟩) (by assumption) ?rest9R2
        case oi0_9R2 =>
          conv =>
            lhs
            whnf
            arg 1
            whnf
        case hq9R2 => exact fun _ _ _ h => h
        case ff9R2 => kernel_rfl
        case rr9R2 => kernel_rfl
        case hw9R2 => rfl
        try simp only [Act.put, List.setIfInBounds_toArray, List.set_cons_zero, List.set_cons_succ]
        refine wpAnyH_take (i := 10) (oi := ?oi10R2) (v := undef) ?oi0_10R2 (by kernel_rfl) ?ff10R2 ?rr10R2 ?hq10R2 (Or.inr ⟨?hw10R2, rfl⟩) (by assumption) ?rest10R2
        case oi0_10R2 =>
          conv =>
            lhs
            whnf
            arg 1
            whnf
        case hq10R2 => exact fun _ _ _ h => h
        case ff10R2 => kernel_rfl
        case rr10R2 => kernel_rfl
        case hw10R2 => rfl
        try simp only [Act.put, List.setIfInBounds_toArray, List.set_cons_zero, List.set_cons_succ]
        refine wpAnyH_take (i := 12) (oi := ?oi12R2) (v := undef) ?oi0_12R2 (by kernel_rfl) ?ff12R2 ?rr12R2 ?hq12R2 (Or.inr ⟨?hw12R2, rfl⟩) (by assumption) ?rest12R2
        case oi0_12R2 =>
          conv =>
            lhs
            whnf
            arg 1
            whnf
        case hq12R2 => exact fun _ _ _ h => h
        case ff12R2 => kernel_rfl
        case rr12R2 => kernel_rfl
        case hw12R2 => rfl
        try simp only [Act.put, List.setIfInBounds_toArray, List.set_cons_zero, List.set_cons_succ]
        refine wpAnyH_take (i := 13) (oi := ?oi13R2) (v := undef) ?oi0_13R2 (by kernel_rfl) ?ff13R2 ?rr13R2 ?hq13R2 (Or.inr ⟨?hw13R2, rfl⟩) (by assumption) ?rest13R2
        case oi0_13R2 =>
          conv =>
            lhs
            whnf
            arg 1
            whnf
        case hq13R2 => exact fun _ _ _ h => h
        case ff13R2 => kernel_rfl
        case rr13R2 => kernel_rfl
        case hw13R2 => rfl
        try simp only [Act.put, List.setIfInBounds_toArray, List.set_cons_zero, List.set_cons_succ]
        refine wpAnyH_ready (rs := [11]) (by kernel_rfl) (by simp) (AllReadyH.cons (o := ?oi11R2) ?oi0_11R2 (fun K hK => ?_) AllReadyH.nil)
        case oi0_11R2 =>
          conv =>
            lhs
            whnf
            arg 1
            whnf
        rw [if_neg (by first | (simp [Region.wanted, yielded]; done) | (simp [Region.wanted, yielded]; exact fun h => nomatch (show (none : Option Bool) = some true from h)) | (simp [Region.wanted, yielded]; exact fun h => nomatch (show (none : Option Bool) = some false from h)))]
        refine hK.out _ _ (by assumption) (fun _ => ?_)
        clear hK K
        try simp only [Act.put, List.setIfInBounds_toArray, List.set_cons_zero, List.set_cons_succ]
        refine wpAnyH_ready (rs := [14]) (by kernel_rfl) (by simp) (AllReadyH.cons (o := ?oi14R2) ?oi0_14R2 (fun K hK => ?_) AllReadyH.nil)
        case oi0_14R2 =>
          conv =>
            lhs
            whnf
            arg 1
            whnf
        rw [if_neg (by first | (simp [Region.wanted, yielded]; done) | (simp [Region.wanted, yielded]; exact fun h => nomatch (show (none : Option Bool) = some true from h)) | (simp [Region.wanted, yielded]; exact fun h => nomatch (show (none : Option Bool) = some false from h)))]
        refine hK.out _ _ (by assumption) (fun _ => ?_)
        clear hK K
        try simp only [Act.put, List.setIfInBounds_toArray, List.set_cons_zero, List.set_cons_succ]
        refine wpAnyH_ready (rs := [15]) (by kernel_rfl) (by simp) (AllReadyH.cons (o := ?oi15R2) ?oi0_15R2 (fun K hK => ?_) AllReadyH.nil)
        case oi0_15R2 =>
          conv =>
            lhs
            whnf
            arg 1
            whnf
        rw [if_neg (by first | (simp [Region.wanted, yielded]; done) | (simp [Region.wanted, yielded]; exact fun h => nomatch (show (none : Option Bool) = some true from h)) | (simp [Region.wanted, yielded]; exact fun h => nomatch (show (none : Option Bool) = some false from h)))]
        refine hK.out _ _ (by assumption) (fun _ => ?_)
        clear hK K
        try simp only [Act.put, List.setIfInBounds_toArray, List.set_cons_zero, List.set_cons_succ]
        refine wpAnyH_ready (rs := [16]) (by kernel_rfl) (by simp) (AllReadyH.cons (o := ?oi16R2) ?oi0_16R2 (fun K hK => ?_) AllReadyH.nil)
        case oi0_16R2 =>
          conv =>
            lhs
            whnf
            arg 1
            whnf
        rw [if_neg (by first | (simp [Region.wanted, yielded]; done) | (simp [Region.wanted, yielded]; exact fun h => nomatch (show (none : Option Bool) = some true from h)) | (simp [Region.wanted, yielded]; exact fun h => nomatch (show (none : Option Bool) = some false from h)))]
        refine hK.out _ _ (by assumption) (fun _ => ?_)
        clear hK K
        try simp only [Act.put, List.setIfInBounds_toArray, List.set_cons_zero, List.set_cons_succ]
        refine wpAnyH_take (i := 17) (oi := ?oi17R2) (v := undef) ?oi0_17R2 (by kernel_rfl) ?ff17R2 ?rr17R2 ?hq17R2 (Or.inr ⟨?hw17R2, rfl⟩) (by assumption) ?rest17R2
        case oi0_17R2 =>
          conv =>
            lhs
            whnf
            arg 1
            whnf
        case hq17R2 => exact fun _ _ _ h => h
        case ff17R2 => kernel_rfl
        case rr17R2 => kernel_rfl
        case hw17R2 => rfl
        try simp only [Act.put, List.setIfInBounds_toArray, List.set_cons_zero, List.set_cons_succ]
        refine wpAnyH_take (i := 18) (oi := ?oi18R2) (v := ?v18R2) ?oi0_18R2 (by kernel_rfl) ?ff18R2 ?rr18R2 ?hq18R2 (Or.inl ⟨?hw18R2, ?hy18R2⟩) (by assumption) ?rest18R2
        case oi0_18R2 =>
          conv =>
            lhs
            whnf
            arg 1
            whnf
        case hq18R2 => exact fun _ _ _ h => h
        case ff18R2 => kernel_rfl
        case rr18R2 => kernel_rfl
        case hw18R2 => rfl
        case hy18R2 =>
          intro w hSw
          (try dsimp only at hSw)
          first
          | (go_simp; done)
          | (go_simp; with_reducible rfl)
        try simp only [Act.put, List.setIfInBounds_toArray, List.set_cons_zero, List.set_cons_succ]
        refine wpAnyH_take (i := 19) (oi := ?oi19R2) (v := ?v19R2) ?oi0_19R2 (by kernel_rfl) ?ff19R2 ?rr19R2 ?hq19R2 (Or.inl ⟨?hw19R2, ?hy19R2⟩) (by assumption) ?rest19R2
        case oi0_19R2 =>
          conv =>
            lhs
            whnf
            arg 1
            whnf
        case hq19R2 => exact fun _ _ _ h => h
        case ff19R2 => kernel_rfl
        case rr19R2 => kernel_rfl
        case hw19R2 => rfl
        case hy19R2 =>
          intro w hSw
          (try dsimp only at hSw)
          first
          | (go_simp; done)
          | (go_simp; with_reducible rfl)
        try simp only [Act.put, List.setIfInBounds_toArray, List.set_cons_zero, List.set_cons_succ]
        refine wpAnyH_done (by kernel_rfl) ?_ _
        have HV2 := hide (ST1.out _ UD.out)
        have HS2 := hide (STO.out _ UD.out)
        simp only [Option.isSome_none, Option.getD_none, List.length_nil] at HV2
        obtain ⟨t1, t2, t3, t4⟩ := HV2.out
        have t5 := (SX.out _ UD.out).2.1
        have t6 := hFz.out _ UD.out
        gi_wp2
        have h9 := FIN.out _ _ HS2.out.1 HS2.out.2.1
        rw [HB.out] at h9
        exact h9 HS2.out.2.2.1 HS2.out.2.2.2
      | some b =>
        simp only [Option.isSome_some, Option.getD_some] at hc hcf SX R1
        obtain ⟨q1, hq1⟩ : ∃ q, Lib.compareInt zs.length b.length = q := ⟨_, rfl⟩
        obtain ⟨q2, hq2⟩ : ∃ q, cmpL zs b = q := ⟨_, rfl⟩
        obtain ⟨q, hq⟩ : ∃ q, (if q1 = 0 then q2 else q1) = q := ⟨_, rfl⟩
        have hbl : b.length ≤ maxLen := it_own_le R1.out
        have hbl2 : b.length ≤ 9223372036854775807 := by unfold maxLen at hbl; omega
        have C55 := hide (show ∀ X : World, Calls Try.prog 67 #[.int .i64 zs.length, .int .i64 b.length] X fun e w' => e = .returned (.int .i64 q1) ∧ X = w' from fun X => (Try.cmp_Compare_int zs.length b.length X).mono fun e w' h => ⟨by rw [h.1, hq1], h.2.symm⟩)
        have C56 := hide (show ∀ X, Upd [] W X → Calls Try.prog 68 #[.slice xa zs.length xc, .slice va b.length vc] X fun e w' => e = .returned (.int .i64 q2) ∧ X = w' from fun X hX => by
          rw [← hq2]
          exact slicesCompare xa zs.length xc zs va b.length vc b X (it_own_ints (own_kept X1.out hX (by simp))) (it_own_ints (own_kept R1.out hX (by simp))) (by unfold maxLen; omega) hbl)
        have C54 := hide (show ∀ X : World, Calls Try.prog 66 #[.slice (some ⟨X.heap.size, 0, none⟩) 2 2] (X.alloc (.cells #[.int .i64 q1, .int .i64 q2] 3)) fun e w' => e = .returned (.int .i64 q) ∧ (X.alloc (.cells #[.int .i64 q1, .int .i64 q2] 3)) = w' from fun X => cmpOr_new q1 q2 q hq X)
        have HB := hide (show bestStep i wanted (some b) zs = if q < 0 then some zs else some b by
          unfold bestStep cutCmp
          rw [HZ.out, if_pos e1]
          show (if (if Lib.compareInt zs.length b.length = 0 then cmpL zs b else Lib.compareInt zs.length b.length) < 0 then some zs else some b) = _
          rw [hq1, hq2, hq])
        clear e1 hq1 hq2 hq hbl
        by_cases hq0 : q < 0
        · have hqd : decide (q < 0) = true := decide_eq_true hq0
          have HB2 := hide (HB.out.trans (if_pos hq0))
          clear HB
          gi_wp2
          refine wpIn_round_held (S := (fun w' => w'.cell? ⟨w.heap.size + 1, 0, none⟩ = some (.int .i64 wanted) ∧ w'.cell? ⟨w1.heap.size + 1, 0, none⟩ = some (.bool true) ∧ w'.cell? ⟨w1.heap.size, 0, none⟩ = some (.slice va b.length vc) ∧ Upd [] W w')) hmx (by kernel_rfl) (by rintro ⟨_, _, h⟩; exact h) (SX.out _ UD.out) (fun hHeld => ?_)
          obtain ⟨wD, hwD⟩ : ∃ wD, W.drew = wD := ⟨_, rfl⟩
          rw [hwD] at UD hHeld ⊢
          clear hwD
          refine wpAnyH_take (i := 0) (oi := ?oi0R3) (v := ?v0R3) ?oi0_0R3 (by kernel_rfl) ?ff0R3 ?rr0R3 ?hq0R3 (Or.inl ⟨?hw0R3, ?hy0R3⟩) (by assumption) ?rest0R3
          case oi0_0R3 =>
            conv =>
              lhs
              whnf
              arg 1
              whnf
          case hq0R3 => exact fun _ _ _ h => h
          case ff0R3 => kernel_rfl
          case rr0R3 => kernel_rfl
          case hw0R3 => rfl
          case hy0R3 =>
            intro w hSw
            (try dsimp only at hSw)
            first
            | (go_simp; done)
            | (go_simp; with_reducible rfl)
          try simp only [Act.put, List.setIfInBounds_toArray, List.set_cons_zero, List.set_cons_succ]
          refine wpAnyH_take (i := 1) (oi := ?oi1R3) (v := ?v1R3) ?oi0_1R3 (by kernel_rfl) ?ff1R3 ?rr1R3 ?hq1R3 (Or.inl ⟨?hw1R3, ?hy1R3⟩) (by assumption) ?rest1R3
          case oi0_1R3 =>
            conv =>
              lhs
              whnf
              arg 1
              whnf
          case hq1R3 => exact fun _ _ _ h => h
          case ff1R3 => kernel_rfl
          case rr1R3 => kernel_rfl
          case hw1R3 => rfl
          case hy1R3 =>
            intro w hSw
            (try dsimp only at hSw)
            first
            | (go_simp; done)
            | (go_simp; with_reducible rfl)
          try simp only [Act.put, List.setIfInBounds_toArray, List.set_cons_zero, List.set_cons_succ]
          refine wpAnyH_take (i := 2) (oi := ?oi2R3) (v := ?v2R3) ?oi0_2R3 (by kernel_rfl) ?ff2R3 ?rr2R3 ?hq2R3 (Or.inl ⟨?hw2R3, ?hy2R3⟩) (by assumption) ?rest2R3
          case oi0_2R3 =>
            conv =>
              lhs
              whnf
              arg 1
              whnf
          case hq2R3 => exact fun _ _ _ h => h
          case ff2R3 => kernel_rfl
          case rr2R3 => kernel_rfl
          case hw2R3 => rfl
          case hy2R3 =>
            intro w hSw
            (try dsimp only at hSw)
            first
            | (go_simp; done)
            | (go_simp; with_reducible rfl)
          try simp only [Act.put, List.setIfInBounds_toArray, List.set_cons_zero, List.set_cons_succ]
          refine wpAnyH_take (i := 3) (oi := ?oi3R3) (v := ?v3R3) ?oi0_3R3 (by kernel_rfl) ?ff3R3 ?rr3R3 ?hq3R3 (Or.inl ⟨?hw3R3, ?hy3R3⟩) (by assumption) ?rest3R3
          case oi0_3R3 =>
            conv =>
              lhs
              whnf
              arg 1
              whnf
          case hq3R3 => exact fun _ _ _ h => h
          case ff3R3 => kernel_rfl
          case rr3R3 => kernel_rfl
          case hw3R3 => rfl
          case hy3R3 =>
            intro w hSw
            (try dsimp only at hSw)
            first
            | (go_simp; done)
            | (go_simp; with_reducible rfl)
          try simp only [Act.put, List.setIfInBounds_toArray, List.set_cons_zero, List.set_cons_succ]
          refine wpAnyH_take (i := 4) (oi := ?oi4R3) (v := ?v4R3) ?oi0_4R3 (by kernel_rfl) ?ff4R3 ?rr4R3 ?hq4R3 (Or.inl ⟨?hw4R3, ?hy4R3⟩) (by assumption) ?rest4R3
          case oi0_4R3 =>
            conv =>
              lhs
              whnf
              arg 1
              whnf
          case hq4R3 => exact fun _ _ _ h => h
          case ff4R3 => kernel_rfl
          case rr4R3 => kernel_rfl
          case hw4R3 => rfl
          case hy4R3 =>
            intro w hSw
            (try dsimp only at hSw)
            first
            | (go_simp; done)
            | (go_simp; with_reducible rfl)
          try simp only [Act.put, List.setIfInBounds_toArray, List.set_cons_zero, List.set_cons_succ]
          refine wpAnyH_take (i := 5) (oi := ?oi5R3) (v := ?v5R3) ?oi0_5R3 (by kernel_rfl) ?ff5R3 ?rr5R3 ?hq5R3 (Or.inl ⟨?hw5R3, ?hy5R3⟩) (by assumption) ?rest5R3
          case oi0_5R3 =>
            conv =>
              lhs
              whnf
              arg 1
              whnf
          case hq5R3 => exact fun _ _ _ h => h
          case ff5R3 => kernel_rfl
          case rr5R3 => kernel_rfl
          case hw5R3 => rfl
          case hy5R3 =>
            intro w hSw
            (try dsimp only at hSw)
            first
            | (go_simp; done)
            | (go_simp; with_reducible rfl)
          try simp only [Act.put, List.setIfInBounds_toArray, List.set_cons_zero, List.set_cons_succ]
          refine wpAnyH_take (i := 6) (oi := ?oi6R3) (v := ?v6R3) ?oi0_6R3 (by kernel_rfl) ?ff6R3 ?rr6R3 ?hq6R3 (Or.inl ⟨?hw6R3, ?hy6R3⟩) (by assumption) ?rest6R3
          case oi0_6R3 =>
            conv =>
              lhs
              whnf
              arg 1
              whnf
          case hq6R3 => exact fun _ _ _ h => h
          case ff6R3 => kernel_rfl
          case rr6R3 => kernel_rfl
          case hw6R3 => rfl
          case hy6R3 =>
            intro w hSw
            (try dsimp only at hSw)
            first
            | (go_simp; done)
            | (go_simp; with_reducible rfl)
          try simp only [Act.put, List.setIfInBounds_toArray, List.set_cons_zero, List.set_cons_succ]
          refine wpAnyH_take (i := 7) (oi := ?oi7R3) (v := ?v7R3) ?oi0_7R3 (by kernel_rfl) ?ff7R3 ?rr7R3 ?hq7R3 (Or.inl ⟨?hw7R3, ?hy7R3⟩) (by assumption) ?rest7R3
          case oi0_7R3 =>
            conv =>
              lhs
              whnf
              arg 1
              whnf
          case hq7R3 => exact fun _ _ _ h => h
          case ff7R3 => kernel_rfl
          case rr7R3 => kernel_rfl
          case hw7R3 => rfl
          case hy7R3 =>
            intro w hSw
            (try dsimp only at hSw)
            first
            | (go_simp; done)
            | (go_simp; with_reducible rfl)
          try simp only [Act.put, List.setIfInBounds_toArray, List.set_cons_zero, List.set_cons_succ]
          refine wpAnyH_take (i := 8) (oi := ?oi8R3) (v := ?v8R3) ?oi0_8R3 (by kernel_rfl) ?ff8R3 ?rr8R3 ?hq8R3 (Or.inl ⟨?hw8R3, ?hy8R3⟩) (by assumption) ?rest8R3
          case oi0_8R3 =>
            conv =>
              lhs
              whnf
              arg 1
              whnf
          case hq8R3 => exact fun _ _ _ h => h
          case ff8R3 => kernel_rfl
          case rr8R3 => kernel_rfl
          case hw8R3 => rfl
          case hy8R3 =>
            intro w hSw
            (try dsimp only at hSw)
            first
            | (go_simp; done)
            | (go_simp; with_reducible rfl)
          try simp only [Act.put, List.setIfInBounds_toArray, List.set_cons_zero, List.set_cons_succ]
          refine wpAnyH_take (i := 9) (oi := ?oi9R3) (v := ?v9R3) ?oi0_9R3 (by kernel_rfl) ?ff9R3 ?rr9R3 ?hq9R3 (Or.inl ⟨?hw9R3, ?hy9R3⟩) (by assumption) ?rest9R3
          case oi0_9R3 =>
            conv =>
              lhs
              whnf
              arg 1
              whnf
          case hq9R3 => exact fun _ _ _ h => h
          case ff9R3 => kernel_rfl
          case rr9R3 => kernel_rfl
          case hw9R3 => rfl
          case hy9R3 =>
            intro w hSw
            (try dsimp only at hSw)
            first
            | (go_simp; done)
            | (go_simp; with_reducible rfl)
          try simp only [Act.put, List.setIfInBounds_toArray, List.set_cons_zero, List.set_cons_succ]
          refine wpAnyH_take (i := 10) (oi := ?oi10R3) (v := ?v10R3) ?oi0_10R3 (by kernel_rfl) ?ff10R3 ?rr10R3 ?hq10R3 (Or.inl ⟨?hw10R3, ?hy10R3⟩) (by assumption) ?rest10R3
          case oi0_10R3 =>
            conv =>
              lhs
              whnf
              arg 1
              whnf
          case hq10R3 => exact fun _ _ _ h => h
          case ff10R3 => kernel_rfl
          case rr10R3 => kernel_rfl
          case hw10R3 => rfl
          case hy10R3 =>
            intro w hSw
            (try dsimp only at hSw)
            first
            | (go_simp; done)
            | (go_simp; with_reducible rfl)
          try simp only [Act.put, List.setIfInBounds_toArray, List.set_cons_zero, List.set_cons_succ]
          refine wpAnyH_take (i := 12) (oi := ?oi12R3) (v := ?v12R3) ?oi0_12R3 (by kernel_rfl) ?ff12R3 ?rr12R3 ?hq12R3 (Or.inl ⟨?hw12R3, ?hy12R3⟩) (by assumption) ?rest12R3
          case oi0_12R3 =>
            conv =>
              lhs
              whnf
              arg 1
              whnf
          case hq12R3 => exact fun _ _ _ h => h
          case ff12R3 => kernel_rfl
          case rr12R3 => kernel_rfl
          case hw12R3 => rfl
          case hy12R3 =>
            intro w hSw
            (try dsimp only at hSw)
            first
            | (go_simp; done)
            | (go_simp; with_reducible rfl)
          try simp only [Act.put, List.setIfInBounds_toArray, List.set_cons_zero, List.set_cons_succ]
          refine wpAnyH_take (i := 13) (oi := ?oi13R3) (v := ?v13R3) ?oi0_13R3 (by kernel_rfl) ?ff13R3 ?rr13R3 ?hq13R3 (Or.inl ⟨?hw13R3, ?hy13R3⟩) (by assumption) ?rest13R3
          case oi0_13R3 =>
            conv =>
              lhs
              whnf
              arg 1
              whnf
          case hq13R3 => exact fun _ _ _ h => h
          case ff13R3 => kernel_rfl
          case rr13R3 => kernel_rfl
          case hw13R3 => rfl
          case hy13R3 =>
            intro w hSw
            (try dsimp only at hSw)
            first
            | (go_simp; done)
            | (go_simp; with_reducible rfl)
          try simp only [Act.put, List.setIfInBounds_toArray, List.set_cons_zero, List.set_cons_succ]
          refine wpAnyH_ready (rs := [11]) (by kernel_rfl) (by simp) (AllReadyH.cons (o := ?oi11R3) ?oi0_11R3 (fun K hK => ?_) AllReadyH.nil)
          case oi0_11R3 =>
            conv =>
              lhs
              whnf
              arg 1
              whnf
          go_simp
          go_at_call 67
          have TT := C55.out wD
          with_reducible (refine TT.mono ?_)
          clear TT
          rintro e w9 ⟨rfl, rfl⟩
          (try dsimp only)
          refine hK.out _ _ (SX.out _ UD.out) (fun hHeld => ?_)
          clear hK K
          try simp only [Act.put, List.setIfInBounds_toArray, List.set_cons_zero, List.set_cons_succ]
          refine wpAnyH_ready (rs := [14]) (by kernel_rfl) (by simp) (AllReadyH.cons (o := ?oi14R3) ?oi0_14R3 (fun K hK => ?_) AllReadyH.nil)
          case oi0_14R3 =>
            conv =>
              lhs
              whnf
              arg 1
              whnf
          go_simp
          go_at_call 68
          have TT := C56.out wD UD.out
          with_reducible (refine TT.mono ?_)
          clear TT
          rintro e w9 ⟨rfl, rfl⟩
          (try dsimp only)
          refine hK.out _ _ (SX.out _ UD.out) (fun hHeld => ?_)
          clear hK K
          try simp only [Act.put, List.setIfInBounds_toArray, List.set_cons_zero, List.set_cons_succ]
          refine wpAnyH_ready (rs := [15]) (by kernel_rfl) (by simp) (AllReadyH.cons (o := ?oi15R3) ?oi0_15R3 (fun K hK => ?_) AllReadyH.nil)
          case oi0_15R3 =>
            conv =>
              lhs
              whnf
              arg 1
              whnf
          go_simp
          (try dsimp only)
          refine hK.out _ _ (SX.out _ (UD.out.alloc _)) (fun hHeld => ?_)
          clear hK K
          try simp only [Act.put, List.setIfInBounds_toArray, List.set_cons_zero, List.set_cons_succ]
          refine wpAnyH_ready (rs := [16]) (by kernel_rfl) (by simp) (AllReadyH.cons (o := ?oi16R3) ?oi0_16R3 (fun K hK => ?_) AllReadyH.nil)
          case oi0_16R3 =>
            conv =>
              lhs
              whnf
              arg 1
              whnf
          go_simp
          go_at_call 66
          have TT := C54.out wD
          with_reducible (refine TT.mono ?_)
          clear TT
          rintro e w9 ⟨rfl, rfl⟩
          (try dsimp only)
          refine hK.out _ _ (SX.out _ (UD.out.alloc _)) (fun hHeld => ?_)
          clear hK K
          try simp only [Act.put, List.setIfInBounds_toArray, List.set_cons_zero, List.set_cons_succ]
          refine wpAnyH_take (i := 17) (oi := ?oi17R3) (v := ?v17R3) ?oi0_17R3 (by kernel_rfl) ?ff17R3 ?rr17R3 ?hq17R3 (Or.inl ⟨?hw17R3, ?hy17R3⟩) (by assumption) ?rest17R3
          case oi0_17R3 =>
            conv =>
              lhs
              whnf
              arg 1
              whnf
          case hq17R3 => exact fun _ _ _ h => h
          case ff17R3 => kernel_rfl
          case rr17R3 => kernel_rfl
          case hw17R3 => rfl
          case hy17R3 =>
            intro w hSw
            (try dsimp only at hSw)
            first
            | (go_simp; done)
            | (go_simp; with_reducible rfl)
          try simp only [Act.put, List.setIfInBounds_toArray, List.set_cons_zero, List.set_cons_succ]
          refine wpAnyH_take (i := 18) (oi := ?oi18R3) (v := ?v18R3) ?oi0_18R3 (by kernel_rfl) ?ff18R3 ?rr18R3 ?hq18R3 (Or.inl ⟨?hw18R3, ?hy18R3⟩) (by assumption) ?rest18R3
          case oi0_18R3 =>
            conv =>
              lhs
              whnf
              arg 1
              whnf
          case hq18R3 => exact fun _ _ _ h => h
          case ff18R3 => kernel_rfl
          case rr18R3 => kernel_rfl
          case hw18R3 => rfl
          case hy18R3 =>
            intro w hSw
            (try dsimp only at hSw)
            first
            | (go_simp; done)
            | (go_simp; with_reducible rfl)
          try simp only [Act.put, List.setIfInBounds_toArray, List.set_cons_zero, List.set_cons_succ]
          refine wpAnyH_take (i := 19) (oi := ?oi19R3) (v := ?v19R3) ?oi0_19R3 (by kernel_rfl) ?ff19R3 ?rr19R3 ?hq19R3 (Or.inl ⟨?hw19R3, ?hy19R3⟩) (by assumption) ?rest19R3
          case oi0_19R3 =>
            conv =>
              lhs
              whnf
              arg 1
              whnf
          case hq19R3 => exact fun _ _ _ h => h
          case ff19R3 => kernel_rfl
          case rr19R3 => kernel_rfl
          case hw19R3 => rfl
          case hy19R3 =>
            intro w hSw
            (try dsimp only at hSw)
            first
            | (go_simp; done)
            | (go_simp; with_reducible rfl)
          try simp only [Act.put, List.setIfInBounds_toArray, List.set_cons_zero, List.set_cons_succ]
          refine wpAnyH_done (by kernel_rfl) ?_ _
          have UD2 := hide (UD.out.alloc (.cells #[.int .i64 q1, .int .i64 q2] 3))
          obtain ⟨wE, hwE⟩ : ∃ wE, wD.alloc (.cells #[.int .i64 q1, .int .i64 q2] 3) = wE := ⟨_, rfl⟩
          rw [hwE] at UD2 ⊢
          clear hwE
          have HV2 := hide (ST1.out _ UD2.out)
          have HS2 := hide (STO.out _ UD2.out)
          simp only [Option.isSome_some, Option.getD_some] at HV2
          obtain ⟨t1, t2, t3, t4⟩ := HV2.out
          have t5 := (SX.out _ UD2.out).2.1
          have t6 := hFz.out _ UD2.out
          gi_wp2
          have h9 := FIN.out _ _ HS2.out.1 HS2.out.2.1
          rw [HB2.out] at h9
          exact h9 HS2.out.2.2.1 HS2.out.2.2.2
        · have hqd : decide (q < 0) = false := decide_eq_false hq0
          have HB2 := hide (HB.out.trans (if_neg hq0))
          have hq1 : 0 ≤ q := by omega
          clear HB hq0
          gi_wp2
          refine wpIn_round_held (S := (fun w' => w'.cell? ⟨w.heap.size + 1, 0, none⟩ = some (.int .i64 wanted) ∧ w'.cell? ⟨w1.heap.size + 1, 0, none⟩ = some (.bool true) ∧ w'.cell? ⟨w1.heap.size, 0, none⟩ = some (.slice va b.length vc) ∧ Upd [] W w')) hmx (by kernel_rfl) (by rintro ⟨_, _, h⟩; exact h) (SX.out _ UD.out) (fun hHeld => ?_)
          obtain ⟨wD, hwD⟩ : ∃ wD, W.drew = wD := ⟨_, rfl⟩
          rw [hwD] at UD hHeld ⊢
          clear hwD
          refine wpAnyH_take (i := 0) (oi := ?oi0R4) (v := ?v0R4) ?oi0_0R4 (by kernel_rfl) ?ff0R4 ?rr0R4 ?hq0R4 (Or.inl ⟨?hw0R4, ?hy0R4⟩) (by assumption) ?rest0R4
          case oi0_0R4 =>
            conv =>
              lhs
              whnf
              arg 1
              whnf
          case hq0R4 => exact fun _ _ _ h => h
          case ff0R4 => kernel_rfl
          case rr0R4 => kernel_rfl
          case hw0R4 => rfl
          case hy0R4 =>
            intro w hSw
            (try dsimp only at hSw)
            first
            | (go_simp; done)
            | (go_simp; with_reducible rfl)
          try simp only [Act.put, List.setIfInBounds_toArray, List.set_cons_zero, List.set_cons_succ]
          refine wpAnyH_take (i := 1) (oi := ?oi1R4) (v := ?v1R4) ?oi0_1R4 (by kernel_rfl) ?ff1R4 ?rr1R4 ?hq1R4 (Or.inl ⟨?hw1R4, ?hy1R4⟩) (by assumption) ?rest1R4
          case oi0_1R4 =>
            conv =>
              lhs
              whnf
              arg 1
              whnf
          case hq1R4 => exact fun _ _ _ h => h
          case ff1R4 => kernel_rfl
          case rr1R4 => kernel_rfl
          case hw1R4 => rfl
          case hy1R4 =>
            intro w hSw
            (try dsimp only at hSw)
            first
            | (go_simp; done)
            | (go_simp; with_reducible rfl)
          try simp only [Act.put, List.setIfInBounds_toArray, List.set_cons_zero, List.set_cons_succ]
          refine wpAnyH_take (i := 2) (oi := ?oi2R4) (v := ?v2R4) ?oi0_2R4 (by kernel_rfl) ?ff2R4 ?rr2R4 ?hq2R4 (Or.inl ⟨?hw2R4, ?hy2R4⟩) (by assumption) ?rest2R4
          case oi0_2R4 =>
            conv =>
              lhs
              whnf
              arg 1
              whnf
          case hq2R4 => exact fun _ _ _ h => h
          case ff2R4 => kernel_rfl
          case rr2R4 => kernel_rfl
          case hw2R4 => rfl
          case hy2R4 =>
            intro w hSw
            (try dsimp only at hSw)
            first
            | (go_simp; done)
            | (go_simp; with_reducible rfl)
          try simp only [Act.put, List.setIfInBounds_toArray, List.set_cons_zero, List.set_cons_succ]
          refine wpAnyH_take (i := 3) (oi := ?oi3R4) (v := ?v3R4) ?oi0_3R4 (by kernel_rfl) ?ff3R4 ?rr3R4 ?hq3R4 (Or.inl ⟨?hw3R4, ?hy3R4⟩) (by assumption) ?rest3R4
          case oi0_3R4 =>
            conv =>
              lhs
              whnf
              arg 1
              whnf
          case hq3R4 => exact fun _ _ _ h => h
          case ff3R4 => kernel_rfl
          case rr3R4 => kernel_rfl
          case hw3R4 => rfl
          case hy3R4 =>
            intro w hSw
            (try dsimp only at hSw)
            first
            | (go_simp; done)
            | (go_simp; with_reducible rfl)
          try simp only [Act.put, List.setIfInBounds_toArray, List.set_cons_zero, List.set_cons_succ]
          refine wpAnyH_take (i := 4) (oi := ?oi4R4) (v := ?v4R4) ?oi0_4R4 (by kernel_rfl) ?ff4R4 ?rr4R4 ?hq4R4 (Or.inl ⟨?hw4R4, ?hy4R4⟩) (by assumption) ?rest4R4
          case oi0_4R4 =>
            conv =>
              lhs
              whnf
              arg 1
              whnf
          case hq4R4 => exact fun _ _ _ h => h
          case ff4R4 => kernel_rfl
          case rr4R4 => kernel_rfl
          case hw4R4 => rfl
          case hy4R4 =>
            intro w hSw
            (try dsimp only at hSw)
            first
            | (go_simp; done)
            | (go_simp; with_reducible rfl)
          try simp only [Act.put, List.setIfInBounds_toArray, List.set_cons_zero, List.set_cons_succ]
          refine wpAnyH_take (i := 5) (oi := ?oi5R4) (v := ?v5R4) ?oi0_5R4 (by kernel_rfl) ?ff5R4 ?rr5R4 ?hq5R4 (Or.inl ⟨?hw5R4, ?hy5R4⟩) (by assumption) ?rest5R4
          case oi0_5R4 =>
            conv =>
              lhs
              whnf
              arg 1
              whnf
          case hq5R4 => exact fun _ _ _ h => h
          case ff5R4 => kernel_rfl
          case rr5R4 => kernel_rfl
          case hw5R4 => rfl
          case hy5R4 =>
            intro w hSw
            (try dsimp only at hSw)
            first
            | (go_simp; done)
            | (go_simp; with_reducible rfl)
          try simp only [Act.put, List.setIfInBounds_toArray, List.set_cons_zero, List.set_cons_succ]
          refine wpAnyH_take (i := 6) (oi := ?oi6R4) (v := ?v6R4) ?oi0_6R4 (by kernel_rfl) ?ff6R4 ?rr6R4 ?hq6R4 (Or.inl ⟨?hw6R4, ?hy6R4⟩) (by assumption) ?rest6R4
          case oi0_6R4 =>
            conv =>
              lhs
              whnf
              arg 1
              whnf
          case hq6R4 => exact fun _ _ _ h => h
          case ff6R4 => kernel_rfl
          case rr6R4 => kernel_rfl
          case hw6R4 => rfl
          case hy6R4 =>
            intro w hSw
            (try dsimp only at hSw)
            first
            | (go_simp; done)
            | (go_simp; with_reducible rfl)
          try simp only [Act.put, List.setIfInBounds_toArray, List.set_cons_zero, List.set_cons_succ]
          refine wpAnyH_take (i := 7) (oi := ?oi7R4) (v := ?v7R4) ?oi0_7R4 (by kernel_rfl) ?ff7R4 ?rr7R4 ?hq7R4 (Or.inl ⟨?hw7R4, ?hy7R4⟩) (by assumption) ?rest7R4
          case oi0_7R4 =>
            conv =>
              lhs
              whnf
              arg 1
              whnf
          case hq7R4 => exact fun _ _ _ h => h
          case ff7R4 => kernel_rfl
          case rr7R4 => kernel_rfl
          case hw7R4 => rfl
          case hy7R4 =>
            intro w hSw
            (try dsimp only at hSw)
            first
            | (go_simp; done)
            | (go_simp; with_reducible rfl)
          try simp only [Act.put, List.setIfInBounds_toArray, List.set_cons_zero, List.set_cons_succ]
          refine wpAnyH_take (i := 8) (oi := ?oi8R4) (v := ?v8R4) ?oi0_8R4 (by kernel_rfl) ?ff8R4 ?rr8R4 ?hq8R4 (Or.inl ⟨?hw8R4, ?hy8R4⟩) (by assumption) ?rest8R4
          case oi0_8R4 =>
            conv =>
              lhs
              whnf
              arg 1
              whnf
          case hq8R4 => exact fun _ _ _ h => h
          case ff8R4 => kernel_rfl
          case rr8R4 => kernel_rfl
          case hw8R4 => rfl
          case hy8R4 =>
            intro w hSw
            (try dsimp only at hSw)
            first
            | (go_simp; done)
            | (go_simp; with_reducible rfl)
          try simp only [Act.put, List.setIfInBounds_toArray, List.set_cons_zero, List.set_cons_succ]
          refine wpAnyH_take (i := 9) (oi := ?oi9R4) (v := ?v9R4) ?oi0_9R4 (by kernel_rfl) ?ff9R4 ?rr9R4 ?hq9R4 (Or.inl ⟨?hw9R4, ?hy9R4⟩) (by assumption) ?rest9R4
          case oi0_9R4 =>
            conv =>
              lhs
              whnf
              arg 1
              whnf
          case hq9R4 => exact fun _ _ _ h => h
          case ff9R4 => kernel_rfl
          case rr9R4 => kernel_rfl
          case hw9R4 => rfl
          case hy9R4 =>
            intro w hSw
            (try dsimp only at hSw)
            first
            | (go_simp; done)
            | (go_simp; with_reducible rfl)
          try simp only [Act.put, List.setIfInBounds_toArray, List.set_cons_zero, List.set_cons_succ]
          refine wpAnyH_take (i := 10) (oi := ?oi10R4) (v := ?v10R4) ?oi0_10R4 (by kernel_rfl) ?ff10R4 ?rr10R4 ?hq10R4 (Or.inl ⟨?hw10R4, ?hy10R4⟩) (by assumption) ?rest10R4
          case oi0_10R4 =>
            conv =>
              lhs
              whnf
              arg 1
              whnf
          case hq10R4 => exact fun _ _ _ h => h
          case ff10R4 => kernel_rfl
          case rr10R4 => kernel_rfl
          case hw10R4 => rfl
          case hy10R4 =>
            intro w hSw
            (try dsimp only at hSw)
            first
            | (go_simp; done)
            | (go_simp; with_reducible rfl)
          try simp only [Act.put, List.setIfInBounds_toArray, List.set_cons_zero, List.set_cons_succ]
          refine wpAnyH_take (i := 12) (oi := ?oi12R4) (v := ?v12R4) ?oi0_12R4 (by kernel_rfl) ?ff12R4 ?rr12R4 ?hq12R4 (Or.inl ⟨?hw12R4, ?hy12R4⟩) (by assumption) ?rest12R4
          case oi0_12R4 =>
            conv =>
              lhs
              whnf
              arg 1
              whnf
          case hq12R4 => exact fun _ _ _ h => h
          case ff12R4 => kernel_rfl
          case rr12R4 => kernel_rfl
          case hw12R4 => rfl
          case hy12R4 =>
            intro w hSw
            (try dsimp only at hSw)
            first
            | (go_simp; done)
            | (go_simp; with_reducible rfl)
          try simp only [Act.put, List.setIfInBounds_toArray, List.set_cons_zero, List.set_cons_succ]
          refine wpAnyH_take (i := 13) (oi := ?oi13R4) (v := ?v13R4) ?oi0_13R4 (by kernel_rfl) ?ff13R4 ?rr13R4 ?hq13R4 (Or.inl ⟨?hw13R4, ?hy13R4⟩) (by assumption) ?rest13R4
          case oi0_13R4 =>
            conv =>
              lhs
              whnf
              arg 1
              whnf
          case hq13R4 => exact fun _ _ _ h => h
          case ff13R4 => kernel_rfl
          case rr13R4 => kernel_rfl
          case hw13R4 => rfl
          case hy13R4 =>
            intro w hSw
            (try dsimp only at hSw)
            first
            | (go_simp; done)
            | (go_simp; with_reducible rfl)
          try simp only [Act.put, List.setIfInBounds_toArray, List.set_cons_zero, List.set_cons_succ]
          refine wpAnyH_ready (rs := [11]) (by kernel_rfl) (by simp) (AllReadyH.cons (o := ?oi11R4) ?oi0_11R4 (fun K hK => ?_) AllReadyH.nil)
          case oi0_11R4 =>
            conv =>
              lhs
              whnf
              arg 1
              whnf
          go_simp
          go_at_call 67
          have TT := C55.out wD
          with_reducible (refine TT.mono ?_)
          clear TT
          rintro e w9 ⟨rfl, rfl⟩
          (try dsimp only)
          refine hK.out _ _ (SX.out _ UD.out) (fun hHeld => ?_)
          clear hK K
          try simp only [Act.put, List.setIfInBounds_toArray, List.set_cons_zero, List.set_cons_succ]
          refine wpAnyH_ready (rs := [14]) (by kernel_rfl) (by simp) (AllReadyH.cons (o := ?oi14R4) ?oi0_14R4 (fun K hK => ?_) AllReadyH.nil)
          case oi0_14R4 =>
            conv =>
              lhs
              whnf
              arg 1
              whnf
          go_simp
          go_at_call 68
          have TT := C56.out wD UD.out
          with_reducible (refine TT.mono ?_)
          clear TT
          rintro e w9 ⟨rfl, rfl⟩
          (try dsimp only)
          refine hK.out _ _ (SX.out _ UD.out) (fun hHeld => ?_)
          clear hK K
          try simp only [Act.put, List.setIfInBounds_toArray, List.set_cons_zero, List.set_cons_succ]
          refine wpAnyH_ready (rs := [15]) (by kernel_rfl) (by simp) (AllReadyH.cons (o := ?oi15R4) ?oi0_15R4 (fun K hK => ?_) AllReadyH.nil)
          case oi0_15R4 =>
            conv =>
              lhs
              whnf
              arg 1
              whnf
          go_simp
          (try dsimp only)
          refine hK.out _ _ (SX.out _ (UD.out.alloc _)) (fun hHeld => ?_)
          clear hK K
          try simp only [Act.put, List.setIfInBounds_toArray, List.set_cons_zero, List.set_cons_succ]
          refine wpAnyH_ready (rs := [16]) (by kernel_rfl) (by simp) (AllReadyH.cons (o := ?oi16R4) ?oi0_16R4 (fun K hK => ?_) AllReadyH.nil)
          case oi0_16R4 =>
            conv =>
              lhs
              whnf
              arg 1
              whnf
          go_simp
          go_at_call 66
          have TT := C54.out wD
          with_reducible (refine TT.mono ?_)
          clear TT
          rintro e w9 ⟨rfl, rfl⟩
          (try dsimp only)
          refine hK.out _ _ (SX.out _ (UD.out.alloc _)) (fun hHeld => ?_)
          clear hK K
          try simp only [Act.put, List.setIfInBounds_toArray, List.set_cons_zero, List.set_cons_succ]
          refine wpAnyH_take (i := 17) (oi := ?oi17R4) (v := ?v17R4) ?oi0_17R4 (by kernel_rfl) ?ff17R4 ?rr17R4 ?hq17R4 (Or.inl ⟨?hw17R4, ?hy17R4⟩) (by assumption) ?rest17R4
          case oi0_17R4 =>
            conv =>
              lhs
              whnf
              arg 1
              whnf
          case hq17R4 => exact fun _ _ _ h => h
          case ff17R4 => kernel_rfl
          case rr17R4 => kernel_rfl
          case hw17R4 => rfl
          case hy17R4 =>
            intro w hSw
            (try dsimp only at hSw)
            first
            | (go_simp; done)
            | (go_simp; with_reducible rfl)
          try simp only [Act.put, List.setIfInBounds_toArray, List.set_cons_zero, List.set_cons_succ]
          refine wpAnyH_take (i := 18) (oi := ?oi18R4) (v := ?v18R4) ?oi0_18R4 (by kernel_rfl) ?ff18R4 ?rr18R4 ?hq18R4 (Or.inl ⟨?hw18R4, ?hy18R4⟩) (by assumption) ?rest18R4
          case oi0_18R4 =>
            conv =>
              lhs
              whnf
              arg 1
              whnf
          case hq18R4 => exact fun _ _ _ h => h
          case ff18R4 => kernel_rfl
          case rr18R4 => kernel_rfl
          case hw18R4 => rfl
          case hy18R4 =>
            intro w hSw
            (try dsimp only at hSw)
            first
            | (go_simp; done)
            | (go_simp; with_reducible rfl)
          try simp only [Act.put, List.setIfInBounds_toArray, List.set_cons_zero, List.set_cons_succ]
          refine wpAnyH_take (i := 19) (oi := ?oi19R4) (v := ?v19R4) ?oi0_19R4 (by kernel_rfl) ?ff19R4 ?rr19R4 ?hq19R4 (Or.inl ⟨?hw19R4, ?hy19R4⟩) (by assumption) ?rest19R4
          case oi0_19R4 =>
            conv =>
              lhs
              whnf
              arg 1
              whnf
          case hq19R4 => exact fun _ _ _ h => h
          case ff19R4 => kernel_rfl
          case rr19R4 => kernel_rfl
          case hw19R4 => rfl
          case hy19R4 =>
            intro w hSw
            (try dsimp only at hSw)
            first
            | (go_simp; done)
            | (go_simp; with_reducible rfl)
          try simp only [Act.put, List.setIfInBounds_toArray, List.set_cons_zero, List.set_cons_succ]
          refine wpAnyH_done (by kernel_rfl) ?_ _
          have UD2 := hide (UD.out.alloc (.cells #[.int .i64 q1, .int .i64 q2] 3))
          gi_wp2
          have h9 := FIN.out _ _ (UD2.out.mono (by simp)) ((UD2.out.block _ HV.out.lt (by simp)).trans HV.out)
          rw [HB2.out] at h9
          exact h9 (own_kept R1.out UD2.out (by simp)) ((UD2.out.block _ HF.out.lt (by simp)).trans HF.out)
    · have e1b : (z == wanted) = false := by simpa using e1
      have HB := hide (show bestStep i wanted o zs = o by unfold bestStep; rw [HZ.out, if_neg e1])
      clear e1
      gi_wp2
      refine wpIn_round_held (S := (fun w' => w'.cell? ⟨w.heap.size + 1, 0, none⟩ = some (.int .i64 wanted) ∧ w'.cell? ⟨w1.heap.size + 1, 0, none⟩ = some (.bool o.isSome) ∧ w'.cell? ⟨w1.heap.size, 0, none⟩ = some (.slice va (o.getD []).length vc) ∧ Upd [] W w')) hmx (by kernel_rfl) (by rintro ⟨_, _, h⟩; exact h) (SX.out _ UD.out) (fun hHeld => ?_)
      obtain ⟨wD, hwD⟩ : ∃ wD, W.drew = wD := ⟨_, rfl⟩
      rw [hwD] at UD hHeld ⊢
      clear hwD
      refine wpAnyH_take (i := 0) (oi := ?oi0R1) (v := ?v0R1) ?oi0_0R1 (by kernel_rfl) ?ff0R1 ?rr0R1 ?hq0R1 (Or.inl ⟨?hw0R1, ?hy0R1⟩) (by assumption) ?rest0R1
      case oi0_0R1 =>
        conv =>
          lhs
          whnf
          arg 1
          whnf
      case hq0R1 => exact fun _ _ _ h => h
      case ff0R1 => kernel_rfl
      case rr0R1 => kernel_rfl
      case hw0R1 => rfl
      case hy0R1 =>
        intro w hSw
        (try dsimp only at hSw)
        first
        | (go_simp; done)
        | (go_simp; with_reducible rfl)
      try simp only [Act.put, List.setIfInBounds_toArray, List.set_cons_zero, List.set_cons_succ]
      refine wpAnyH_take (i := 1) (oi := ?oi1R1) (v := ?v1R1) ?oi0_1R1 (by kernel_rfl) ?ff1R1 ?rr1R1 ?hq1R1 (Or.inl ⟨?hw1R1, ?hy1R1⟩) (by assumption) ?rest1R1
      case oi0_1R1 =>
        conv =>
          lhs
          whnf
          arg 1
          whnf
      case hq1R1 => exact fun _ _ _ h => h
      case ff1R1 => kernel_rfl
      case rr1R1 => kernel_rfl
      case hw1R1 => rfl
      case hy1R1 =>
        intro w hSw
        (try dsimp only at hSw)
        first
        | (go_simp; done)
        | (go_simp; with_reducible rfl)
      try simp only [Act.put, List.setIfInBounds_toArray, List.set_cons_zero, List.set_cons_succ]
      refine wpAnyH_take (i := 2) (oi := ?oi2R1) (v := ?v2R1) ?oi0_2R1 (by kernel_rfl) ?ff2R1 ?rr2R1 ?hq2R1 (Or.inl ⟨?hw2R1, ?hy2R1⟩) (by assumption) ?rest2R1
      case oi0_2R1 =>
        conv =>
          lhs
          whnf
          arg 1
          whnf
      case hq2R1 => exact fun _ _ _ h => h
      case ff2R1 => kernel_rfl
      case rr2R1 => kernel_rfl
      case hw2R1 => rfl
      case hy2R1 =>
        intro w hSw
        (try dsimp only at hSw)
        first
        | (go_simp; done)
        | (go_simp; with_reducible rfl)
      try simp only [Act.put, List.setIfInBounds_toArray, List.set_cons_zero, List.set_cons_succ]
      refine wpAnyH_take (i := 3) (oi := ?oi3R1) (v := ?v3R1) ?oi0_3R1 (by kernel_rfl) ?ff3R1 ?rr3R1 ?hq3R1 (Or.inl ⟨?hw3R1, ?hy3R1⟩) (by assumption) ?rest3R1
      case oi0_3R1 =>
        conv =>
          lhs
          whnf
          arg 1
          whnf
      case hq3R1 => exact fun _ _ _ h => h
      case ff3R1 => kernel_rfl
      case rr3R1 => kernel_rfl
      case hw3R1 => rfl
      case hy3R1 =>
        intro w hSw
        (try dsimp only at hSw)
        first
        | (go_simp; done)
        | (go_simp; with_reducible rfl)
      try simp only [Act.put, List.setIfInBounds_toArray, List.set_cons_zero, List.set_cons_succ]
      refine wpAnyH_take (i := 4) (oi := ?oi4R1) (v := undef) ?oi0_4R1 (by kernel_rfl) ?ff4R1 ?rr4R1 ?hq4R1 (Or.inr ⟨?hw4R1, rfl⟩) (by assumption) ?rest4R1
      case oi0_4R1 =>
        conv =>
          lhs
          whnf
          arg 1
          whnf
      case hq4R1 => exact fun _ _ _ h => h
      case ff4R1 => kernel_rfl
      case rr4R1 => kernel_rfl
      case hw4R1 => rfl
      try simp only [Act.put, List.setIfInBounds_toArray, List.set_cons_zero, List.set_cons_succ]
      refine wpAnyH_take (i := 5) (oi := ?oi5R1) (v := undef) ?oi0_5R1 (by kernel_rfl) ?ff5R1 ?rr5R1 ?hq5R1 (Or.inr ⟨?hw5R1, rfl⟩) (by assumption) ?rest5R1
      case oi0_5R1 =>
        conv =>
          lhs
          whnf
          arg 1
          whnf
      case hq5R1 => exact fun _ _ _ h => h
      case ff5R1 => kernel_rfl
      case rr5R1 => kernel_rfl
      case hw5R1 => rfl
      try simp only [Act.put, List.setIfInBounds_toArray, List.set_cons_zero, List.set_cons_succ]
      refine wpAnyH_take (i := 6) (oi := ?oi6R1) (v := undef) ?oi0_6R1 (by kernel_rfl) ?ff6R1 ?rr6R1 ?hq6R1 (Or.inr ⟨?hw6R1, rfl⟩) (by assumption) ?rest6R1
      case oi0_6R1 =>
        conv =>
          lhs
          whnf
          arg 1
          whnf
      case hq6R1 => exact fun _ _ _ h => h
      case ff6R1 => kernel_rfl
      case rr6R1 => kernel_rfl
      case hw6R1 => rfl
      try simp only [Act.put, List.setIfInBounds_toArray, List.set_cons_zero, List.set_cons_succ]
      refine wpAnyH_take (i := 7) (oi := ?oi7R1) (v := undef) ?oi0_7R1 (by kernel_rfl) ?ff7R1 ?rr7R1 ?hq7R1 (Or.inr ⟨?hw7R1, rfl⟩) (by assumption) ?rest7R1
      case oi0_7R1 =>
        conv =>
          lhs
          whnf
          arg 1
          whnf
      case hq7R1 => exact fun _ _ _ h => h
      case ff7R1 => kernel_rfl
      case rr7R1 => kernel_rfl
      case hw7R1 => rfl
      try simp only [Act.put, List.setIfInBounds_toArray, List.set_cons_zero, List.set_cons_succ]
      refine wpAnyH_take (i := 8) (oi := ?oi8R1) (v := undef) ?oi0_8R1 (by kernel_rfl) ?ff8R1 ?rr8R1 ?hq8R1 (Or.inr ⟨?hw8R1, rfl⟩) (by assumption) ?rest8R1
      case oi0_8R1 =>
        conv =>
          lhs
          whnf
          arg 1
          whnf
      case hq8R1 => exact fun _ _ _ h => h
      case ff8R1 => kernel_rfl
      case rr8R1 => kernel_rfl
      case hw8R1 => rfl
      try simp only [Act.put, List.setIfInBounds_toArray, List.set_cons_zero, List.set_cons_succ]
      refine wpAnyH_take (i := 9) (oi := ?oi9R1) (v := undef) ?oi0_9R1 (by kernel_rfl) ?ff9R1 ?rr9R1 ?hq9R1 (Or.inr ⟨?hw9R1, rfl⟩) (by assumption) ?rest9R1
      case oi0_9R1 =>
        conv =>
          lhs
          whnf
          arg 1
          whnf
      case hq9R1 => exact fun _ _ _ h => h
      case ff9R1 => kernel_rfl
      case rr9R1 => kernel_rfl
      case hw9R1 => rfl
      try simp only [Act.put, List.setIfInBounds_toArray, List.set_cons_zero, List.set_cons_succ]
      refine wpAnyH_take (i := 10) (oi := ?oi10R1) (v := undef) ?oi0_10R1 (by kernel_rfl) ?ff10R1 ?rr10R1 ?hq10R1 (Or.inr ⟨?hw10R1, rfl⟩) (by assumption) ?rest10R1
      case oi0_10R1 =>
        conv =>
          lhs
          whnf
          arg 1
          whnf
      case hq10R1 => exact fun _ _ _ h => h
      case ff10R1 => kernel_rfl
      case rr10R1 => kernel_rfl
      case hw10R1 => rfl
      try simp only [Act.put, List.setIfInBounds_toArray, List.set_cons_zero, List.set_cons_succ]
      refine wpAnyH_take (i := 12) (oi := ?oi12R1) (v := undef) ?oi0_12R1 (by kernel_rfl) ?ff12R1 ?rr12R1 ?hq12R1 (Or.inr ⟨?hw12R1, rfl⟩) (by assumption) ?rest12R1
      case oi0_12R1 =>
        conv =>
          lhs
          whnf
          arg 1
          whnf
      case hq12R1 => exact fun _ _ _ h => h
      case ff12R1 => kernel_rfl
      case rr12R1 => kernel_rfl
      case hw12R1 => rfl
      try simp only [Act.put, List.setIfInBounds_toArray, List.set_cons_zero, List.set_cons_succ]
      refine wpAnyH_take (i := 13) (oi := ?oi13R1) (v := undef) ?oi0_13R1 (by kernel_rfl) ?ff13R1 ?rr13R1 ?hq13R1 (Or.inr ⟨?hw13R1, rfl⟩) (by assumption) ?rest13R1
      case oi0_13R1 =>
        conv =>
          lhs
          whnf
          arg 1
          whnf
      case hq13R1 => exact fun _ _ _ h => h
      case ff13R1 => kernel_rfl
      case rr13R1 => kernel_rfl
      case hw13R1 => rfl
      try simp only [Act.put, List.setIfInBounds_toArray, List.set_cons_zero, List.set_cons_succ]
      refine wpAnyH_ready (rs := [11]) (by kernel_rfl) (by simp) (AllReadyH.cons (o := ?oi11R1) ?oi0_11R1 (fun K hK => ?_) AllReadyH.nil)
      case oi0_11R1 =>
        conv =>
          lhs
          whnf
          arg 1
          whnf
      rw [if_neg (by first | (simp [Region.wanted, yielded]; done) | (simp [Region.wanted, yielded]; exact fun h => nomatch (show (none : Option Bool) = some true from h)) | (simp [Region.wanted, yielded]; exact fun h => nomatch (show (none : Option Bool) = some false from h)))]
      refine hK.out _ _ (by assumption) (fun _ => ?_)
      clear hK K
      try simp only [Act.put, List.setIfInBounds_toArray, List.set_cons_zero, List.set_cons_succ]
      refine wpAnyH_ready (rs := [14]) (by kernel_rfl) (by simp) (AllReadyH.cons (o := ?oi14R1) ?oi0_14R1 (fun K hK => ?_) AllReadyH.nil)
      case oi0_14R1 =>
        conv =>
          lhs
          whnf
          arg 1
          whnf
      rw [if_neg (by first | (simp [Region.wanted, yielded]; done) | (simp [Region.wanted, yielded]; exact fun h => nomatch (show (none : Option Bool) = some true from h)) | (simp [Region.wanted, yielded]; exact fun h => nomatch (show (none : Option Bool) = some false from h)))]
      refine hK.out _ _ (by assumption) (fun _ => ?_)
      clear hK K
      try simp only [Act.put, List.setIfInBounds_toArray, List.set_cons_zero, List.set_cons_succ]
      refine wpAnyH_ready (rs := [15]) (by kernel_rfl) (by simp) (AllReadyH.cons (o := ?oi15R1) ?oi0_15R1 (fun K hK => ?_) AllReadyH.nil)
      case oi0_15R1 =>
        conv =>
          lhs
          whnf
          arg 1
          whnf
      rw [if_neg (by first | (simp [Region.wanted, yielded]; done) | (simp [Region.wanted, yielded]; exact fun h => nomatch (show (none : Option Bool) = some true from h)) | (simp [Region.wanted, yielded]; exact fun h => nomatch (show (none : Option Bool) = some false from h)))]
      refine hK.out _ _ (by assumption) (fun _ => ?_)
      clear hK K
      try simp only [Act.put, List.setIfInBounds_toArray, List.set_cons_zero, List.set_cons_succ]
      refine wpAnyH_ready (rs := [16]) (by kernel_rfl) (by simp) (AllReadyH.cons (o := ?oi16R1) ?oi0_16R1 (fun K hK => ?_) AllReadyH.nil)
      case oi0_16R1 =>
        conv =>
          lhs
          whnf
          arg 1
          whnf
      rw [if_neg (by first | (simp [Region.wanted, yielded]; done) | (simp [Region.wanted, yielded]; exact fun h => nomatch (show (none : Option Bool) = some true from h)) | (simp [Region.wanted, yielded]; exact fun h => nomatch (show (none : Option Bool) = some false from h)))]
      refine hK.out _ _ (by assumption) (fun _ => ?_)
      clear hK K
      try simp only [Act.put, List.setIfInBounds_toArray, List.set_cons_zero, List.set_cons_succ]
      refine wpAnyH_take (i := 17) (oi := ?oi17R1) (v := undef) ?oi0_17R1 (by kernel_rfl) ?ff17R1 ?rr17R1 ?hq17R1 (Or.inr ⟨?hw17R1, rfl⟩) (by assumption) ?rest17R1
      case oi0_17R1 =>
        conv =>
          lhs
          whnf
          arg 1
          whnf
      case hq17R1 => exact fun _ _ _ h => h
      case ff17R1 => kernel_rfl
      case rr17R1 => kernel_rfl
      case hw17R1 => rfl
      try simp only [Act.put, List.setIfInBounds_toArray, List.set_cons_zero, List.set_cons_succ]
      refine wpAnyH_take (i := 18) (oi := ?oi18R1) (v := undef) ?oi0_18R1 (by kernel_rfl) ?ff18R1 ?rr18R1 ?hq18R1 (Or.inr ⟨?hw18R1, rfl⟩) (by assumption) ?rest18R1
      case oi0_18R1 =>
        conv =>
          lhs
          whnf
          arg 1
          whnf
      case hq18R1 => exact fun _ _ _ h => h
      case ff18R1 => kernel_rfl
      case rr18R1 => kernel_rfl
      case hw18R1 => rfl
      try simp only [Act.put, List.setIfInBounds_toArray, List.set_cons_zero, List.set_cons_succ]
      refine wpAnyH_take (i := 19) (oi := ?oi19R1) (v := ?v19R1) ?oi0_19R1 (by kernel_rfl) ?ff19R1 ?rr19R1 ?hq19R1 (Or.inl ⟨?hw19R1, ?hy19R1⟩) (by assumption) ?rest19R1
      case oi0_19R1 =>
        conv =>
          lhs
          whnf
          arg 1
          whnf
      case hq19R1 => exact fun _ _ _ h => h
      case ff19R1 => kernel_rfl
      case rr19R1 => kernel_rfl
      case hw19R1 => rfl
      case hy19R1 =>
        intro w hSw
        (try dsimp only at hSw)
        first
        | (go_simp; done)
        | (go_simp; with_reducible rfl)
      try simp only [Act.put, List.setIfInBounds_toArray, List.set_cons_zero, List.set_cons_succ]
      refine wpAnyH_done (by kernel_rfl) ?_ _
      gi_wp2
      have h9 := FIN.out _ _ (UD.out.mono (by simp)) ((UD.out.block _ HV.out.lt (by simp)).trans HV.out)
      rw [HB.out] at h9
      exact h9 (own_kept R1.out UD.out (by simp)) ((UD.out.block _ HF.out.lt (by simp)).trans HF.out)
  case done =>
    rintro D ys W hD hys ⟨⟨⟨v, hv, hrow, _⟩, hf⟩, hu⟩ hK
    rw [hys] at hrow hf
    have HP := hide (show ∀ e w', (∀ o, bestOf i wanted (List.range (2 ^ i.trims.length)) = o → Upd [] w w' ∧ match o with
        | some c => ∃ v, e = .returned (.tuple #[v, .int .i64 0]) ∧ OwnsCut w' v c
        | none => e = .returned (.tuple #[.slice none 0 0, .int .i64 70])) → CutPost i wanted w e w' from fun e w' h => by
      unfold CutPost
      rw [if_pos HOK.out]
      exact h _ rfl)
    obtain ⟨o, ho⟩ : ∃ o, bestOf i wanted (List.range (2 ^ i.trims.length)) = o := ⟨_, rfl⟩
    rw [ho] at hrow hf
    have hc := hv.cell
    have hcf := hf.cell
    have HO := hide ho
    have HR := hide hrow
    have HK := hide hK
    have UA := hide (show Upd [] w (W.putObj D (.deferred none)) from U2.out.trans ((U0.trans hu (by simp)).grown (grownBy_putObj' W D _) (fun k e => by cases e; right; omega)) (by simp))
    clear hv hrow hf hu hK hys ho
    cases o with
    | none =>
      simp only [Option.isSome_none] at hcf
      gi_wp2
      refine ⟨by simp, .inl ⟨_, _, rfl, run_takeDeferred HK.out, ?_⟩⟩
      refine ⟨_, results_tmp2 rfl _ _ _, HP.out _ _ (fun o' ho' => ?_)⟩
      rw [HO.out] at ho'
      subst ho'
      exact ⟨UA.out, rfl⟩
    | some c =>
      simp only [Option.isSome_some] at hcf
      gi_wp2
      refine ⟨by simp, .inl ⟨_, _, rfl, run_takeDeferred HK.out, ?_⟩⟩
      refine ⟨_, results_tmp2 rfl _ _ _, HP.out _ _ (fun o' ho' => ?_)⟩
      rw [HO.out] at ho'
      subst ho'
      exact ⟨UA.out, _, rfl, ownsRow_putObj HR.out (.deferred none) HK.out rfl⟩

/-- item.Cut -/
theorem itemCut {n₀ : Nat} (i : It) (ta : Option Addr) (tc : Nat) (ka : Option Addr) (kc : Nat) (wanted : Int) (w : World) (hT : SpsAt n₀ w ta i.trims) (hK : SpsAt n₀ w ka i.talks) (hn : n₀ ≤ w.heap.size) (hm : i.trims.length ≤ maxLen) (hm2 : i.talks.length ≤ maxLen) :
    Calls Try.prog 37 #[.agg #[.int .i64 i.id, .int .i64 i.kind, .int .i64 i.len, .slice ta i.trims.length tc, .slice ka i.talks.length kc, .int .i64 i.artist, .int .i64 i.tempo, .int .i64 i.lang], .int .i64 wanted] w (CutPost i wanted w) := by
  by_cases hok : ItOk i
  · exact callsIn_wide.1 (cut_in 6 (by omega) i ta tc ka kc wanted w hT hK hn hok)
  · refine (cut_no i ta tc ka kc wanted w hT hK hn hm hm2 hok).mono fun e w' h => ?_
    unfold CutPost
    rw [if_neg hok]
    exact ⟨h.2, h.1⟩
end Go.Proofs.Yteehjciepccomaa
