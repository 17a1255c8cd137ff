/-
  next: the seconds at which the piece behind one can begin.
  listed: the seconds of a set for which a function says yes.
  Begins.
  Blame.
  Rows of pieces whose lengths lie anywhere.
-/
import Derived.Test.YteehjciepccomaaZ10FitItemsRow
import Derived.Deep.WholeRow
import Derived.Test.YteehjciepccomaaZ3FitItemsRow
import Derived.Test.YteehjciepccomaaZ2FitItemsRow

namespace Go.Proofs.Yteehjciepccomaa
open Go.RowKit Go.Shelf
attribute [local go_sem] Oper.semAt_some

theorem zero_set : (Try.prog.info? 75).map (fun i => (i.zero, i.size)) = some (some (.agg (Array.replicate 1126 (.int .u64 0))), 1126) := by kernel_rfl
theorem cells_rep (w : World) (t : TypeId) (v : Value) (n : Nat) : Blk (w.alloc (.cells (Array.replicate n v) t)) w.heap.size t (List.replicate n v) := by
  rw [← List.toArray_replicate]
  exact Blk.new _ _ _
theorem set_empty (w : World) : SetIs (w.alloc (.cells (Array.replicate 1126 (.int .u64 0)) 75)) w.heap.size [] := by
  refine ⟨List.replicate 1126 0, List.length_replicate, ?_, fun x hx => ?_, fun q m hq hm => ?_, fun x hx => absurd hx List.not_mem_nil⟩
  · rw [List.map_replicate]
    exact cells_rep w _ _ 1126
  · rw [List.eq_of_mem_replicate hx]
    omega
  · rw [List.getElem?_replicate, if_pos hq, decide_eq_false List.not_mem_nil]
    exact Nat.zero_testBit m

theorem nextS_append (p : Pc) (l m : List Int) : nextS p (l ++ m) = nextS p l ++ nextS p m := by
  unfold nextS
  rw [List.filter_append, List.flatMap_append]
theorem nextS_one_yes {p : Pc} {a : Int} (h : meetsS p a = true) : nextS p [a] = p.lens.map fun n => a + n := by
  unfold nextS
  simp [h]
theorem nextS_one_no {p : Pc} {a : Int} (h : meetsS p a = false) : nextS p [a] = [] := by
  unfold nextS
  simp [h]
theorem mem_nextS {p : Pc} {L : List Int} {x : Int} : x ∈ nextS p L ↔ ∃ a ∈ L, meetsS p a = true ∧ ∃ n ∈ p.lens, a + n = x := by
  unfold nextS
  simp only [List.mem_flatMap, List.mem_filter, List.mem_map]
  constructor
  · rintro ⟨a, ⟨h1, h2⟩, n, h3, h4⟩
    exact ⟨a, h1, h2, n, h3, h4⟩
  · rintro ⟨a, h1, h2, n, h3, h4⟩
    exact ⟨a, ⟨h1, h2⟩, n, h3, h4⟩
theorem nextS_same {p : Pc} {L L' : List Int} (h : ∀ x, x ∈ L ↔ x ∈ L') (x : Int) : x ∈ nextS p L ↔ x ∈ nextS p L' := by
  rw [mem_nextS, mem_nextS]
  constructor
  · rintro ⟨a, h1, h2⟩; exact ⟨a, (h a).1 h1, h2⟩
  · rintro ⟨a, h1, h2⟩; exact ⟨a, (h a).2 h1, h2⟩
theorem ownFrom_set {β : Type} {B out : Nat} {L : β → List Int} (hB : out < B) : OwnFrom B (fun (s : β) W => SetIs W out (L s)) := by
  intro s W W' row h hg hr
  obtain ⟨ws, h1, h2, h3⟩ := h
  exact ⟨ws, h1, (hg.block out h2.lt (fun e => by have := (hr out e.symm).1; omega)).trans h2, h3⟩
theorem ownFrom_upd {β : Type} {w0 : World} {l : List Nat} : OwnFrom w0.heap.size (fun (_ : β) W => Upd l w0 W) := by
  intro s W W' row h hg hr
  exact h.grown hg (fun k e => .inr (hr k e).1)
theorem Upd.keepsFrom {out B : Nat} {w w' : World} (h : Upd [out] w w') (hB : out < B) : KeepsFrom B w w' :=
  ⟨h.size, fun k o hk ho _ => (h.block k (Array.getElem?_eq_some_iff.1 ho).1 (by simp; omega)).trans ho⟩
theorem Upd.keep2 {out b g : Nat} {w w' : World} (h : Upd [out] w w') (hb : b < w.heap.size) (hg : g < w.heap.size) (hb2 : b ≠ out) (hg2 : g ≠ out) : Keep2 b g w w' :=
  ⟨h.block b hb (by simpa using hb2), h.block g hg (by simpa using hg2)⟩
theorem len_ok {p : Pc} (h : PcOk p) {n : Int} (hn : n ∈ p.lens) : 0 ≤ n ∧ n ≤ 3600 := by
  obtain ⟨j, hj⟩ := List.getElem?_of_mem hn
  have := (h.2.2.2 j (List.getElem?_eq_some_iff.1 hj).1).1
  rw [hj] at this
  exact this

set_option maxRecDepth 100000 in
set_option maxHeartbeats 2000000 in
theorem next_in {n₀ : Nat} (n : Nat) (hn : 6 ≤ n) (p : Pc) (pa : Option Addr) (pn pc g : Nat) (L : List Int) (w : World) (hI : Ints n₀ w (.slice pa pn pc) p.lens) (hn0 : n₀ ≤ w.heap.size) (hS : SetIs w g L) (hok : PcOk p) (hL : ∀ x ∈ L, x ≤ 68400) :
    CallsIn Fence.wide n Try.prog 42 #[.agg #[.slice pa pn pc, .int .i64 p.want, .int .i64 p.join], .pointer (some ⟨g, 0, none⟩)] w fun e w' => ∃ g', e = .returned (.pointer (some ⟨g', 0, none⟩)) ∧ SetIs w' g' (nextS p L) ∧ w.heap.size ≤ g' ∧ Below w.heap.size w w' := by
  have h1 : 1 ≤ n := by omega
  obtain ⟨hz, _⟩ := zero_of_info zero_set
  obtain ⟨z, hzz⟩ : ∃ z, Array.replicate 1126 (Value.int .u64 0) = z := ⟨_, rfl⟩
  rw [hzz] at hz
  have HZ := hide hzz
  clear hzz
  refine callsIn_of_wp_marks Try.func42 rfl trivial ?_ rfl
  simp only [Try.ntmps42, List.size_toArray, List.length_cons, List.length_nil, Nat.reduceAdd, Nat.reduceSub, Array.replicate_succ, Array.replicate_zero, List.push_toArray, List.append_toArray, List.nil_append, List.cons_append]
  have AL := fun (W : World) => (callsIn_wide (n := n - 1)).2 (all_any g W)
  have hfn : Fence.wide.fn 69 := trivial
  have hL0 : ∀ x ∈ L, 0 ≤ x ∧ x ≤ 72000 := by obtain ⟨ws, h1, h2, h3, h4, h5⟩ := hS; exact h5
  have hgl := hS.lt
  have HI := hide hI
  have HS := hide hS
  have HOK := hide hok
  have HL := hide hL
  have HL0 := hide hL0
  clear hI hS hok hL hL0
  gi_wp2_with (gi_at_call 69; refine (AL _).mono ?_; rintro e w' ⟨rfl, rfl⟩)
  obtain ⟨W0, hW0⟩ : ∃ W0, (((w.alloc (.cells #[.slice pa pn pc, .int .i64 p.want, .int .i64 p.join] 50)).alloc (.cells z 75)).alloc (.cells #[.pointer (some ⟨g, 0, none⟩)] 72)) = W0 := ⟨_, rfl⟩
  rw [hW0]
  have hsz : W0.heap.size = w.heap.size + 3 := by rw [← hW0]; simp
  have U0 : Upd [] w W0 := by rw [← hW0]; exact (((Upd.refl [] w).alloc _).alloc _).alloc _
  have bBs : W0.cell? ⟨w.heap.size + 1 + 1, 0, none⟩ = some (.pointer (some ⟨g, 0, none⟩)) := by
    have := (Blk.new ((w.alloc (.cells #[.slice pa pn pc, .int .i64 p.want, .int .i64 p.join] 50)).alloc (.cells z 75)) 72 [.pointer (some ⟨g, 0, none⟩)]).cell 0
    rw [← hW0]
    simpa using this
  have bP : Blk W0 w.heap.size 50 [.slice pa pn pc, .int .i64 p.want, .int .i64 p.join] := by
    rw [← hW0]
    exact ((Blk.new w _ _).alloc _).alloc _
  have bS : SetIs W0 (w.heap.size + 1) [] := by
    rw [← hW0, ← HZ.out]
    have := (set_empty (w.alloc (.cells #[.slice pa pn pc, .int .i64 p.want, .int .i64 p.join] 50))).upd ((Upd.refl [] _).alloc (.cells #[.pointer (some ⟨g, 0, none⟩)] 72)) (by simp)
    simpa using this
  have hI0 : Ints n₀ W0 (.slice pa pn pc) p.lens := HI.out.upd U0 hn0 (by simp)
  clear hW0
  refine wpIn_rangeFunc_ownG rfl h1 (gf := 86) (lb := #[.pointer (some ⟨w.heap.size + 1 + 1, 0, none⟩)]) rfl trivial (enters_of Try.func86 (by kernel_rfl) rfl)
    (all_stops (n - 1) (by omega) (w.heap.size + 1 + 1) g L W0 (by omega) bBs (HS.out.upd U0 (by simp))) Keep2.trans (Keep2.put (by omega) (by omega)) (Below.refl _ _) (fun _ => rfl)
    (fun pre W => Upd [w.heap.size + 1] W0 W ∧ SetIs W (w.heap.size + 1) (nextS p (pre.map Subtype.val)))
    (fun _ _ _ => False)
    (OwnFrom.and ownFrom_upd (ownFrom_set (L := fun pre : List (InL L) => nextS p (pre.map Subtype.val)) (by omega)))
    (fun _ _ _ _ _ hs _ _ => hs)
    ⟨Upd.refl _ _, bS⟩
    (fun x => { tmps := #[.agg #[.slice pa pn pc, .int .i64 p.want, .int .i64 p.join], .pointer (some ⟨g, 0, none⟩), .pointer (some ⟨w.heap.size, 0, none⟩), undef, .pointer none, .pointer (some ⟨w.heap.size + 1, 0, none⟩), .int .i64 x.1, undef, undef, .pointer (some ⟨g, 0, none⟩),
      .func (.func 86) #[] #[.pointer (some ⟨w.heap.size + 1 + 1, 0, none⟩)], .int .i64 x.1, undef, undef, undef, undef, undef, undef, undef, undef, undef, undef, undef, undef, undef, undef, undef], defers := [] }) ?assign ?body ?done ?stop
  case assign =>
    intro l x W K hK
    gi_wp2
    exact hK
  case body =>
    rintro l pre ⟨x, hx⟩ W ⟨hu, hs⟩ hlt
    have hxb := HL0.out x hx
    have hxb2 := HL.out x hx
    have bP' := hide (bP.upd hu (by simp))
    have j0 := bP'.out.cell 0
    have j1 := bP'.out.cell 1
    have j2 := bP'.out.cell 2
    have M := (callsIn_wide (n := n - 1 - 1 - 1)).2 (meets_any p (.slice pa pn pc) x W rfl)
    obtain ⟨m, hm⟩ : ∃ m, meetsS p x = m := ⟨_, rfl⟩
    rw [hm] at M
    have ME := hide (CallsIn.inRound l M)
    have HU := hide hu
    have HS2 := hide hs
    have HM := hide hm
    have hfm : Fence.wide.fn 46 := trivial
    have hfa : Fence.wide.fn 70 := trivial
    have hd : 1 ≤ n - 1 - 1 := by omega
    clear M hm hu hs hxb
    obtain ⟨S0, hS0⟩ : ∃ S0, nextS p (pre.map Subtype.val) = S0 := ⟨_, rfl⟩
    have HE := hide (show nextS p ((pre ++ [(⟨x, hx⟩ : InL L)]).map Subtype.val) = S0 ++ nextS p [x] by rw [List.map_append, nextS_append, hS0]; rfl)
    rw [hS0] at HS2
    clear hS0
    cases m with
    | false =>
      gi_wp2_with (gi_at_call 46; refine ME.out.mono ?_; rintro e W1 ⟨rfl, u1⟩; have U1 := hide u1; clear u1)
      have u2 : Upd [w.heap.size + 1] W W1 := U1.out.mono (by simp)
      refine ⟨u2.keepsFrom (by omega), u2.keep2 (by have := HU.out.size; omega) (by have := HU.out.size; omega) (by omega) (by omega), HU.out.trans u2 (by simp), ?_⟩
      rw [HE.out, nextS_one_no HM.out, List.append_nil]
      exact HS2.out.upd U1.out (by simp)
    | true =>
      gi_wp2_with (gi_at_call 46; refine ME.out.mono ?_; rintro e W1 ⟨rfl, u1⟩; have U1 := hide u1; have i0 := (bP'.out.upd u1 (by simp)).cell 0; clear u1)
      have V1 := hide (HU.out.trans (U1.out.mono (l' := [w.heap.size + 1]) (by simp)) (by simp))
      have S1 := hide (HS2.out.upd U1.out (by simp))
      have hI1 := hide (hI0.upd V1.out (by omega) (by simp; omega)).form.2
      have hlen := hI0.form.1
      have HLEN := hide hlen
      have hpn : pn ≤ 8 := by have := HOK.out.1.2; omega
      clear hlen
      gi_loopw [18] (fun i wr => ∃ (k : Nat) (M : List Int), k ≤ pn ∧ i = .int .i64 k ∧ Hid (Upd [w.heap.size + 1] W1 wr) ∧ Hid (SetIs wr (w.heap.size + 1) M) ∧ Hid (∀ t, t ∈ M ↔ t ∈ S0 ∨ t ∈ (p.lens.take k).map fun n => x + n))
        (fun i _ => pn - (intOf i).toNat)
      case atStart => exact ⟨0, S0, Nat.zero_le _, rfl, Upd.refl _ _, S1, fun t => by simp⟩
      case round =>
        obtain ⟨k, M, hk, rfl, hu2, hs2, hm2⟩ := hrel
        by_cases hlt : k < pn
        · obtain ⟨y, hy⟩ : ∃ y, p.lens[k]? = some y := ⟨_, List.getElem?_eq_getElem (by have := HLEN.out; omega)⟩
          obtain ⟨b, o, rfl, hb, hc⟩ := hI1.out k y hy
          have hc2 := (hu2.out.cell (p := ⟨b, o + k, none⟩) (by have := V1.out.size; have := U0.size; show b < _; omega) (by simp; omega)).trans hc
          have hyb := len_ok HOK.out (List.mem_of_getElem? hy)
          obtain ⟨hy1, hy2⟩ := hyb
          have HY := hide hy
          have hx0 := (HL0.out x hx).1
          have A := (callsIn_wide (n := n - 1 - 1 - 1)).2 (add_any (w.heap.size + 1) M (x + y) wr hs2.out (by omega) (by omega))
          have AD := hide (CallsIn.inRound l A)
          clear hy hc A hb
          gi_wp2_with (gi_at_call 70; refine AD.out.mono ?_; rintro e W3 ⟨rfl, s3, u3⟩; have S3 := hide s3; have U3 := hide u3; clear s3 u3)
          go_roundw
          case rel => exact ⟨k + 1, (x + y) :: M, by omega, by go_num, hu2.out.trans U3.out (by simp), S3, fun t => by
            have e : p.lens.take (k + 1) = p.lens.take k ++ [y] := by rw [List.take_add_one, HY.out]; rfl
            rw [List.mem_cons, hm2.out t, e, List.map_append, List.mem_append]
            simp only [List.map_cons, List.map_nil, List.mem_singleton]
            constructor
            · rintro (h | h | h)
              · exact .inr (.inr h)
              · exact .inl h
              · exact .inr (.inl h)
            · rintro (h | h | h)
              · exact .inr (.inl h)
              · exact .inr (.inr h)
              · exact .inl h⟩
          case measure => simp [intOf] <;> omega
        · obtain rfl : k = pn := by omega
          obtain ⟨wo, rfl⟩ : ∃ wo : World, wo = wr := ⟨_, rfl⟩
          gi_wp2
          have u2 : Upd [w.heap.size + 1] W wo := (U1.out.mono (l' := [w.heap.size + 1]) (by simp)).trans hu2.out (by simp)
          refine ⟨u2.keepsFrom (by omega), u2.keep2 (by have := HU.out.size; omega) (by have := HU.out.size; omega) (by omega) (by omega), HU.out.trans u2 (by simp), ?_⟩
          refine hs2.out.same fun t => ?_
          rw [hm2.out t, HE.out, nextS_one_yes HM.out, List.mem_append, List.take_of_length_le (by have := HLEN.out; omega)]
  case done =>
    rintro D ys W hD hys ⟨hu, hs⟩ hK
    have HU := hide hu
    have HS2 := hide hs
    have HK := hide hK
    clear hu hs hK
    gi_wp2
    refine ⟨by simp, .inl ⟨_, _, rfl, run_takeDeferred HK.out, ?_⟩⟩
    have hD2 : w.heap.size + 3 ≤ D := by omega
    have hlt := (Array.getElem?_eq_some_iff.1 HK.out).1
    have ug : Upd [w.heap.size + 1] W0 (W.putObj D (.deferred none)) := HU.out.grown (grownBy_putObj' W D _) (fun k e => by cases e; right; omega)
    refine ⟨_, results_tmp rfl _ _ _, w.heap.size + 1, rfl, ?_, by omega, ?_⟩
    · have h2 := ownFrom_set (β := List (InL L)) (L := fun pre : List (InL L) => nextS p (pre.map Subtype.val)) (B := w.heap.size + 3) (out := w.heap.size + 1) (by omega) ys W _ (some D) HS2.out (grownBy_putObj' W D (.deferred none)) (fun r e => by cases e; exact ⟨hD2, _, HK.out, rfl⟩)
      refine h2.same fun t => nextS_same (fun u => ?_) t
      have hys' : ys.map Subtype.val = memb L 72001 := hys
      rw [hys', memb_mem HL0.out]
    · exact (U0.mono (l' := [w.heap.size + 1]) (by simp)).trans ug (by simp) |>.toBelow (Nat.le_refl _) (by simp)
  case stop =>
    rintro D c pre W _ _ h _
    exact h.elim
/-- next -/
theorem next_any {n₀ : Nat} (p : Pc) (pa : Option Addr) (pn pc g : Nat) (L : List Int) (w : World) (hI : Ints n₀ w (.slice pa pn pc) p.lens) (hn0 : n₀ ≤ w.heap.size) (hS : SetIs w g L) (hok : PcOk p) (hL : ∀ x ∈ L, x ≤ 68400) :
    Calls Try.prog 42 #[.agg #[.slice pa pn pc, .int .i64 p.want, .int .i64 p.join], .pointer (some ⟨g, 0, none⟩)] w fun e w' => ∃ g', e = .returned (.pointer (some ⟨g', 0, none⟩)) ∧ SetIs w' g' (nextS p L) ∧ w.heap.size ≤ g' ∧ Below w.heap.size w w' :=
  callsIn_wide.1 (next_in 6 (by omega) p pa pn pc g L w hI hn0 hS hok hL)
end Go.Proofs.Yteehjciepccomaa

namespace Go.Proofs.Yteehjciepccomaa
open Go.RowKit Go.Shelf
attribute [local go_sem] Oper.semAt_some

theorem info_int : (Try.prog.info? 3).map (fun i => (i.zero, i.size, i.bytes)) = some (some (.int .i64 0), 1, 8) := by kernel_rfl
theorem own_less {w : World} {base base' e size n : Nat} {v : Value} {xs : List Value} (h : w.ownsRow base e size v n xs) (hb : base' ≤ base) : w.ownsRow base' e size v n xs := by
  refine ⟨h.1, ?_⟩
  rcases h.2 with h | ⟨g, cap, cur, h1, h2, h3⟩
  · exact .inl h
  · exact .inr ⟨g, cap, cur, h1, Nat.le_trans hb h2, h3⟩
theorem own_ints {w : World} {base : Nat} {v : Value} {zs : List Int} (h : w.ownsRow base 3 1 v zs.length (zs.map (Value.int .i64))) : Ints w.heap.size w v zs := by
  rcases h.2 with ⟨hv, h0⟩ | ⟨g, cap, cur, hv, _, hg, h1, h2, h3, h4⟩
  · exact .inl ⟨none, 0, hv, List.eq_nil_of_length_eq_zero h0⟩
  · refine .inr ⟨g, 0, cap, hv, (Array.getElem?_eq_some_iff.1 hg).1, fun k hk => ?_⟩
    subst hv
    have := World.ownsRow.cells h (g := g) rfl k (.int .i64 (zs[k]?.getD 0)) (by simp [hk])
    have e : (⟨g, 0, none⟩ : Addr).add k = ⟨g, k, none⟩ := by unfold Addr.add; split <;> simp_all
    rw [e] at this
    rw [Nat.zero_add]
    exact this
theorem filter_upto (q : Int → Bool) (l : List Int) (x : Int) : (l ++ [x]).filter q = if q x then l.filter q ++ [x] else l.filter q := by
  rw [List.filter_append]
  cases h : q x <;> simp [h]
theorem every_any (x : Int) (w : World) : Calls Try.prog 44 #[.int .i64 x] w fun e w' => e = .returned (.bool true) ∧ Upd [] w w' := by
  go_enter Try.func44, Try.ntmps44
  go_wp2
  go_ret
  exact ⟨rfl, Upd.refl _ _⟩

set_option maxRecDepth 100000 in
set_option maxHeartbeats 2000000 in
theorem listedE_in (n : Nat) (hn : 6 ≤ n) (g : Nat) (L : List Int) (w : World) (q : Int → Bool) (hS : SetIs w g L)
    (hQ : ∀ x ∈ L, ∀ W, Upd [w.heap.size + 1] w W → Calls Try.prog 44 #[.int .i64 x] W fun e w' => e = .returned (.bool (q x)) ∧ Upd [] W w') :
    CallsIn Fence.wide n Try.prog 43 #[.pointer (some ⟨g, 0, none⟩), .func (.func 44) #[] #[]] w fun e w' => ∃ v, e = .returned v ∧ w'.ownsRow w.heap.size 3 1 v ((memb L 72001).filter q).length (((memb L 72001).filter q).map (Value.int .i64)) ∧ Below w.heap.size w w' := by
  have h1 : 1 ≤ n := by omega
  obtain ⟨i0, hi, hz0, hz1, hz2⟩ := info_parts info_int
  refine callsIn_of_wp_marks Try.func43 rfl trivial ?_ rfl
  simp only [Try.ntmps43, List.size_toArray, List.length_cons, List.length_nil, Nat.reduceAdd, Nat.reduceSub, Array.replicate_succ, Array.replicate_zero, List.push_toArray, List.append_toArray, List.nil_append, List.cons_append]
  have AL := fun (W : World) => (callsIn_wide (n := n - 1)).2 (all_any g W)
  have hfn : Fence.wide.fn 69 := trivial
  have hgl := hS.lt
  have HS := hide hS
  have HQ := hide hQ
  clear hS hQ
  gi_wp2_with (gi_at_call 69; refine (AL _).mono ?_; rintro e w' ⟨rfl, rfl⟩)
  obtain ⟨W0, hW0⟩ : ∃ W0, (((w.alloc (.cells #[.func (.func 44) #[] #[]] 78)).alloc (.cells #[.slice none 0 0] 24)).alloc (.cells #[.pointer (some ⟨g, 0, none⟩)] 72)) = W0 := ⟨_, rfl⟩
  rw [hW0]
  have hsz : W0.heap.size = w.heap.size + 3 := by rw [← hW0]; simp
  have U0 : Upd [] w W0 := by rw [← hW0]; exact (((Upd.refl [] w).alloc _).alloc _).alloc _
  have bBs : W0.cell? ⟨w.heap.size + 1 + 1, 0, none⟩ = some (.pointer (some ⟨g, 0, none⟩)) := by
    have := (Blk.new ((w.alloc (.cells #[.func (.func 44) #[] #[]] 78)).alloc (.cells #[.slice none 0 0] 24)) 72 [.pointer (some ⟨g, 0, none⟩)]).cell 0
    rw [← hW0]
    simpa using this
  have bP : Blk W0 w.heap.size 78 [.func (.func 44) #[] #[]] := by
    rw [← hW0]
    exact ((Blk.new w _ _).alloc _).alloc _
  have bO : Boxed W0 (w.heap.size + 1) 24 (.slice none 0 0) := by
    have := (Blk.new (w.alloc (.cells #[.func (.func 44) #[] #[]] 78)) 24 [.slice none 0 0]).alloc (.cells #[.pointer (some ⟨g, 0, none⟩)] 72)
    rw [← hW0]
    unfold Boxed
    unfold Blk at this
    simpa using this
  clear hW0
  refine wpIn_rangeFunc_ownG rfl h1 (gf := 86) (lb := #[.pointer (some ⟨w.heap.size + 1 + 1, 0, none⟩)]) rfl trivial (enters_of Try.func86 (by kernel_rfl) rfl)
    (all_stops (n - 1) (by omega) (w.heap.size + 1 + 1) g L W0 (by omega) bBs (HS.out.upd U0 (by simp))) Keep2.trans (Keep2.put (by omega) (by omega)) (Below.refl _ _) (fun _ => rfl)
    (fun pre W => (∃ v, Boxed W (w.heap.size + 1) 24 v ∧ W.ownsRow W0.heap.size 3 1 v ((pre.map Subtype.val).filter q).length (((pre.map Subtype.val).filter q).map (Value.int .i64)) ∧ True) ∧ Upd [w.heap.size + 1] W0 W)
    (fun _ _ _ => False)
    (OwnFrom.and (Own.from (holdsRow_own W0.heap.size (w.heap.size + 1) 24 3 1 (fun pre : List (InL L) => ((pre.map Subtype.val).filter q).length) (fun pre : List (InL L) => ((pre.map Subtype.val).filter q).map (Value.int .i64)) (fun _ _ => True)) _) ownFrom_upd)
    (fun _ _ _ _ _ hs _ _ => hs)
    ⟨⟨_, bO, World.ownsRow_nil _ _ _ _, trivial⟩, Upd.refl _ _⟩
    (fun x => { tmps := #[.pointer (some ⟨g, 0, none⟩), .func (.func 44) #[] #[], undef, .pointer (some ⟨w.heap.size, 0, none⟩), .slice none 0 0, .pointer (some ⟨w.heap.size + 1, 0, none⟩), .int .i64 x.1, .pointer (some ⟨g, 0, none⟩),
      .func (.func 86) #[] #[.pointer (some ⟨w.heap.size + 1 + 1, 0, none⟩)], .int .i64 x.1, undef, undef, undef, undef, undef, undef, undef, undef], defers := [] }) ?assign ?body ?done ?stop
  case assign =>
    intro l x W K hK
    gi_wp2
    exact hK
  case body =>
    rintro l pre ⟨x, hx⟩ W ⟨⟨v, hv, hrow, _⟩, hu⟩ hlt
    have hkp : ((pre.map Subtype.val).filter q).length < 72001 := Nat.lt_of_le_of_lt (List.length_filter_le _ _) (by rw [List.length_map]; exact hlt)
    obtain ⟨zs, hzs⟩ : ∃ zs, (pre.map Subtype.val).filter q = zs := ⟨_, rfl⟩
    have HE := hide (show ((pre ++ [(⟨x, hx⟩ : InL L)]).map Subtype.val).filter q = if q x then zs ++ [x] else zs by rw [List.map_append, ← hzs]; exact filter_upto q _ x)
    rw [hzs] at hrow hkp
    clear hzs hlt
    have j0 := (bP.upd hu (by simp)).cell 0
    have M := (callsIn_wide (n := n - 1 - 1 - 1)).2 (HQ.out x hx W ((U0.mono (l' := [w.heap.size + 1]) (by simp)).trans hu (by simp)))
    obtain ⟨m, hm⟩ : ∃ m, q x = m := ⟨_, rfl⟩
    rw [hm] at M HE
    have ME := hide (CallsIn.inRound l M)
    have HU := hide hu
    have hfm : Fence.wide.fn 44 := trivial
    have hd : 1 ≤ n - 1 - 1 := by omega
    have HV := hide hv
    have HROW := hide hrow
    clear M hm hu hv hrow
    cases m with
    | false =>
      gi_wp2_with (gi_at_call 44; refine ME.out.mono ?_; rintro e W1 ⟨rfl, u1⟩; have U1 := hide u1; clear u1)
      have u2 : Upd [w.heap.size + 1] W W1 := U1.out.mono (by simp)
      refine ⟨u2.keepsFrom (by omega), u2.keep2 (by have := HU.out.size; omega) (by have := HU.out.size; omega) (by omega) (by omega), ⟨v, ?_, ?_, trivial⟩, HU.out.trans u2 (by simp)⟩
      · exact (U1.out.block _ HV.out.lt (by simp)).trans HV.out
      · have e := HE.out
        simp only [Bool.false_eq_true, if_false] at e
        rw [e]
        exact own_kept HROW.out U1.out (by simp)
    | true =>
      gi_wp2_with (first | (gi_at_call 44; refine ME.out.mono ?_; rintro e W1 ⟨rfl, u1⟩; have U1 := hide u1; have V1 := hide (show Boxed W1 (w.heap.size + 1) 24 v from (u1.block _ HV.out.lt (by simp)).trans HV.out); have R1 := hide (own_kept HROW.out u1 (by simp)); have hc := V1.out.cell; clear u1) | (gi_at_builtin; refine wpListIn_append_own _ rfl _ _ 24 rfl W0.heap.size 3 i0 (.int .i64 0) 1 8 Try.underlying24 hi hz0 hz1 hz2 rfl (by decide) _ _ _ rfl (R1.out.alloc _) ⟨W1.heap.size, 0, none⟩ 1 1 [.int .i64 x] rfl rfl (cell_one_new _ _ _) (by simp [Value.oneCell']) (by unfold maxLen; omega) (by omega) (by have := HU.out.size; have := U1.out.size; simp; omega) ?_; intro v' w1 hown' hgrow _; obtain ⟨g', cap', rfl⟩ := ownsRow_succ hown'; obtain ⟨hv1, hv2, hr2, hk2, hb2⟩ := V1.out.appended (n₀ := 0) (by decide) (own_less R1.out (Nat.zero_le _)) (Nat.zero_le _) (Nat.zero_le _) (own_less hown' (Nat.zero_le _)) hgrow; have HG := hide hgrow; have HO := hide hown'; have HK2 := hide hk2; have HV1 := hide hv1; have HV2 := hide hv2; have hc1 := hv1.cell; have hf1 := hv1.frozen; clear hgrow hown' hk2 hv2 hr2 hb2 hv1))
      have hrowB : ∀ k, v.ownBlock = some k → W0.heap.size ≤ k := fun k hk => by
        rcases R1.out.2 with ⟨hv, _⟩ | ⟨g, cap, cur, hv, hb, _⟩
        · rw [hv] at hk; simp [Value.ownBlock] at hk
        · rw [hv] at hk
          obtain rfl : g = k := by simpa [Value.ownBlock] using hk
          exact hb
      have hsW : W0.heap.size ≤ W1.heap.size := Nat.le_trans HU.out.size U1.out.size
      have u3 : Upd [w.heap.size + 1] W0 (w1.setCell ⟨w.heap.size + 1, 0, none⟩ (.slice (some ⟨g', 0, none⟩) (zs.length + 1) cap')) :=
        ((((HU.out.trans U1.out (by simp)).alloc _).grown HG.out (fun k hk => .inr (hrowB k hk))).setCell (.inl (by simp)) _)
      have u4 : Keep2 (w.heap.size + 1 + 1) g W (w1.setCell ⟨w.heap.size + 1, 0, none⟩ (.slice (some ⟨g', 0, none⟩) (zs.length + 1) cap')) := by
        have hW := HU.out.size
        have a := HU.out
        exact ⟨(u3.block _ (by omega) (by simp)).trans (a.block _ (by omega) (by simp)).symm, (u3.block _ (by omega) (by simp; omega)).trans (a.block _ (by omega) (by simp; omega)).symm⟩
      have u5 : KeepsFrom W0.heap.size W W1 := (U1.out.mono (l' := [w.heap.size + 1]) (by simp)).keepsFrom (by omega)
      refine ⟨u5.trans (HK2.out.from _), u4, ⟨_, HV2.out, ?_, trivial⟩, u3⟩
      have e := HE.out
      simp only [if_true] at e
      rw [e]
      have := HO.out.kept (grownBy_setCell' w1 (w.heap.size + 1) (.slice (some ⟨g', 0, none⟩) (zs.length + 1) cap')) (.inr (HV1.out.not_row (by decide) HO.out).symm)
      simpa using this
  case done =>
    rintro D ys W hD hys ⟨⟨v, hv, hrow, _⟩, hu⟩ hK
    have hc := hv.cell
    have HU := hide hu
    have HV := hide hv
    have HROW := hide hrow
    have HK := hide hK
    have HYS := hide hys
    clear hu hv hrow hK hys
    gi_wp2
    refine ⟨by simp, .inl ⟨_, _, rfl, run_takeDeferred HK.out, ?_⟩⟩
    have ug : Upd [w.heap.size + 1] W0 (W.putObj D (.deferred none)) := HU.out.grown (grownBy_putObj' W D _) (fun k e => by cases e; right; omega)
    refine ⟨_, results_tmp rfl _ _ _, v, rfl, ?_, ?_⟩
    · have e : ys.map Subtype.val = memb L 72001 := HYS.out
      have h := ownsRow_putObj HROW.out (.deferred none) HK.out rfl
      rw [e] at h
      exact own_less h (by omega)
    · exact (U0.mono (l' := [w.heap.size + 1]) (by simp)).trans ug (by simp) |>.toBelow (Nat.le_refl _) (by simp)
  case stop =>
    rintro D c pre W _ _ h _
    exact h.elim

set_option maxRecDepth 100000 in
set_option maxHeartbeats 2000000 in
theorem listedB_in (n : Nat) (hn : 6 ≤ n) (g : Nat) (L : List Int) (w : World) (bl bn : Nat) (q : Int → Bool) (hS : SetIs w g L)
    (hQ : ∀ x ∈ L, ∀ W, Upd [w.heap.size + 1] w W → Calls Try.prog 45 #[.int .i64 x, .pointer (some ⟨bl, 0, none⟩), .pointer (some ⟨bn, 0, none⟩)] W fun e w' => e = .returned (.bool (q x)) ∧ Upd [] W w') :
    CallsIn Fence.wide n Try.prog 43 #[.pointer (some ⟨g, 0, none⟩), .func (.func 45) #[] #[.pointer (some ⟨bl, 0, none⟩), .pointer (some ⟨bn, 0, none⟩)]] w fun e w' => ∃ v, e = .returned v ∧ w'.ownsRow w.heap.size 3 1 v ((memb L 72001).filter q).length (((memb L 72001).filter q).map (Value.int .i64)) ∧ Below w.heap.size w w' := by
  have h1 : 1 ≤ n := by omega
  obtain ⟨i0, hi, hz0, hz1, hz2⟩ := info_parts info_int
  refine callsIn_of_wp_marks Try.func43 rfl trivial ?_ rfl
  simp only [Try.ntmps43, List.size_toArray, List.length_cons, List.length_nil, Nat.reduceAdd, Nat.reduceSub, Array.replicate_succ, Array.replicate_zero, List.push_toArray, List.append_toArray, List.nil_append, List.cons_append]
  have AL := fun (W : World) => (callsIn_wide (n := n - 1)).2 (all_any g W)
  have hfn : Fence.wide.fn 69 := trivial
  have hgl := hS.lt
  have HS := hide hS
  have HQ := hide hQ
  clear hS hQ
  gi_wp2_with (gi_at_call 69; refine (AL _).mono ?_; rintro e w' ⟨rfl, rfl⟩)
  obtain ⟨W0, hW0⟩ : ∃ W0, (((w.alloc (.cells #[.func (.func 45) #[] #[.pointer (some ⟨bl, 0, none⟩), .pointer (some ⟨bn, 0, none⟩)]] 78)).alloc (.cells #[.slice none 0 0] 24)).alloc (.cells #[.pointer (some ⟨g, 0, none⟩)] 72)) = W0 := ⟨_, rfl⟩
  rw [hW0]
  have hsz : W0.heap.size = w.heap.size + 3 := by rw [← hW0]; simp
  have U0 : Upd [] w W0 := by rw [← hW0]; exact (((Upd.refl [] w).alloc _).alloc _).alloc _
  have bBs : W0.cell? ⟨w.heap.size + 1 + 1, 0, none⟩ = some (.pointer (some ⟨g, 0, none⟩)) := by
    have := (Blk.new ((w.alloc (.cells #[.func (.func 45) #[] #[.pointer (some ⟨bl, 0, none⟩), .pointer (some ⟨bn, 0, none⟩)]] 78)).alloc (.cells #[.slice none 0 0] 24)) 72 [.pointer (some ⟨g, 0, none⟩)]).cell 0
    rw [← hW0]
    simpa using this
  have bP : Blk W0 w.heap.size 78 [.func (.func 45) #[] #[.pointer (some ⟨bl, 0, none⟩), .pointer (some ⟨bn, 0, none⟩)]] := by
    rw [← hW0]
    exact ((Blk.new w _ _).alloc _).alloc _
  have bO : Boxed W0 (w.heap.size + 1) 24 (.slice none 0 0) := by
    have := (Blk.new (w.alloc (.cells #[.func (.func 45) #[] #[.pointer (some ⟨bl, 0, none⟩), .pointer (some ⟨bn, 0, none⟩)]] 78)) 24 [.slice none 0 0]).alloc (.cells #[.pointer (some ⟨g, 0, none⟩)] 72)
    rw [← hW0]
    unfold Boxed
    unfold Blk at this
    simpa using this
  clear hW0
  refine wpIn_rangeFunc_ownG rfl h1 (gf := 86) (lb := #[.pointer (some ⟨w.heap.size + 1 + 1, 0, none⟩)]) rfl trivial (enters_of Try.func86 (by kernel_rfl) rfl)
    (all_stops (n - 1) (by omega) (w.heap.size + 1 + 1) g L W0 (by omega) bBs (HS.out.upd U0 (by simp))) Keep2.trans (Keep2.put (by omega) (by omega)) (Below.refl _ _) (fun _ => rfl)
    (fun pre W => (∃ v, Boxed W (w.heap.size + 1) 24 v ∧ W.ownsRow W0.heap.size 3 1 v ((pre.map Subtype.val).filter q).length (((pre.map Subtype.val).filter q).map (Value.int .i64)) ∧ True) ∧ Upd [w.heap.size + 1] W0 W)
    (fun _ _ _ => False)
    (OwnFrom.and (Own.from (holdsRow_own W0.heap.size (w.heap.size + 1) 24 3 1 (fun pre : List (InL L) => ((pre.map Subtype.val).filter q).length) (fun pre : List (InL L) => ((pre.map Subtype.val).filter q).map (Value.int .i64)) (fun _ _ => True)) _) ownFrom_upd)
    (fun _ _ _ _ _ hs _ _ => hs)
    ⟨⟨_, bO, World.ownsRow_nil _ _ _ _, trivial⟩, Upd.refl _ _⟩
    (fun x => { tmps := #[.pointer (some ⟨g, 0, none⟩), .func (.func 45) #[] #[.pointer (some ⟨bl, 0, none⟩), .pointer (some ⟨bn, 0, none⟩)], undef, .pointer (some ⟨w.heap.size, 0, none⟩), .slice none 0 0, .pointer (some ⟨w.heap.size + 1, 0, none⟩), .int .i64 x.1, .pointer (some ⟨g, 0, none⟩),
      .func (.func 86) #[] #[.pointer (some ⟨w.heap.size + 1 + 1, 0, none⟩)], .int .i64 x.1, undef, undef, undef, undef, undef, undef, undef, undef], defers := [] }) ?assign ?body ?done ?stop
  case assign =>
    intro l x W K hK
    gi_wp2
    exact hK
  case body =>
    rintro l pre ⟨x, hx⟩ W ⟨⟨v, hv, hrow, _⟩, hu⟩ hlt
    have hkp : ((pre.map Subtype.val).filter q).length < 72001 := Nat.lt_of_le_of_lt (List.length_filter_le _ _) (by rw [List.length_map]; exact hlt)
    obtain ⟨zs, hzs⟩ : ∃ zs, (pre.map Subtype.val).filter q = zs := ⟨_, rfl⟩
    have HE := hide (show ((pre ++ [(⟨x, hx⟩ : InL L)]).map Subtype.val).filter q = if q x then zs ++ [x] else zs by rw [List.map_append, ← hzs]; exact filter_upto q _ x)
    rw [hzs] at hrow hkp
    clear hzs hlt
    have j0 := (bP.upd hu (by simp)).cell 0
    have M := (callsIn_wide (n := n - 1 - 1 - 1)).2 (HQ.out x hx W ((U0.mono (l' := [w.heap.size + 1]) (by simp)).trans hu (by simp)))
    obtain ⟨m, hm⟩ : ∃ m, q x = m := ⟨_, rfl⟩
    rw [hm] at M HE
    have ME := hide (CallsIn.inRound l M)
    have HU := hide hu
    have hfm : Fence.wide.fn 45 := trivial
    have hd : 1 ≤ n - 1 - 1 := by omega
    have HV := hide hv
    have HROW := hide hrow
    clear M hm hu hv hrow
    cases m with
    | false =>
      gi_wp2_with (gi_at_call 45; refine ME.out.mono ?_; rintro e W1 ⟨rfl, u1⟩; have U1 := hide u1; clear u1)
      have u2 : Upd [w.heap.size + 1] W W1 := U1.out.mono (by simp)
      refine ⟨u2.keepsFrom (by omega), u2.keep2 (by have := HU.out.size; omega) (by have := HU.out.size; omega) (by omega) (by omega), ⟨v, ?_, ?_, trivial⟩, HU.out.trans u2 (by simp)⟩
      · exact (U1.out.block _ HV.out.lt (by simp)).trans HV.out
      · have e := HE.out
        simp only [Bool.false_eq_true, if_false] at e
        rw [e]
        exact own_kept HROW.out U1.out (by simp)
    | true =>
      gi_wp2_with (first | (gi_at_call 45; refine ME.out.mono ?_; rintro e W1 ⟨rfl, u1⟩; have U1 := hide u1; have V1 := hide (show Boxed W1 (w.heap.size + 1) 24 v from (u1.block _ HV.out.lt (by simp)).trans HV.out); have R1 := hide (own_kept HROW.out u1 (by simp)); have hc := V1.out.cell; clear u1) | (gi_at_builtin; refine wpListIn_append_own _ rfl _ _ 24 rfl W0.heap.size 3 i0 (.int .i64 0) 1 8 Try.underlying24 hi hz0 hz1 hz2 rfl (by decide) _ _ _ rfl (R1.out.alloc _) ⟨W1.heap.size, 0, none⟩ 1 1 [.int .i64 x] rfl rfl (cell_one_new _ _ _) (by simp [Value.oneCell']) (by unfold maxLen; omega) (by omega) (by have := HU.out.size; have := U1.out.size; simp; omega) ?_; intro v' w1 hown' hgrow _; obtain ⟨g', cap', rfl⟩ := ownsRow_succ hown'; obtain ⟨hv1, hv2, hr2, hk2, hb2⟩ := V1.out.appended (n₀ := 0) (by decide) (own_less R1.out (Nat.zero_le _)) (Nat.zero_le _) (Nat.zero_le _) (own_less hown' (Nat.zero_le _)) hgrow; have HG := hide hgrow; have HO := hide hown'; have HK2 := hide hk2; have HV1 := hide hv1; have HV2 := hide hv2; have hc1 := hv1.cell; have hf1 := hv1.frozen; clear hgrow hown' hk2 hv2 hr2 hb2 hv1))
      have hrowB : ∀ k, v.ownBlock = some k → W0.heap.size ≤ k := fun k hk => by
        rcases R1.out.2 with ⟨hv, _⟩ | ⟨g, cap, cur, hv, hb, _⟩
        · rw [hv] at hk; simp [Value.ownBlock] at hk
        · rw [hv] at hk
          obtain rfl : g = k := by simpa [Value.ownBlock] using hk
          exact hb
      have hsW : W0.heap.size ≤ W1.heap.size := Nat.le_trans HU.out.size U1.out.size
      have u3 : Upd [w.heap.size + 1] W0 (w1.setCell ⟨w.heap.size + 1, 0, none⟩ (.slice (some ⟨g', 0, none⟩) (zs.length + 1) cap')) :=
        ((((HU.out.trans U1.out (by simp)).alloc _).grown HG.out (fun k hk => .inr (hrowB k hk))).setCell (.inl (by simp)) _)
      have u4 : Keep2 (w.heap.size + 1 + 1) g W (w1.setCell ⟨w.heap.size + 1, 0, none⟩ (.slice (some ⟨g', 0, none⟩) (zs.length + 1) cap')) := by
        have hW := HU.out.size
        have a := HU.out
        exact ⟨(u3.block _ (by omega) (by simp)).trans (a.block _ (by omega) (by simp)).symm, (u3.block _ (by omega) (by simp; omega)).trans (a.block _ (by omega) (by simp; omega)).symm⟩
      have u5 : KeepsFrom W0.heap.size W W1 := (U1.out.mono (l' := [w.heap.size + 1]) (by simp)).keepsFrom (by omega)
      refine ⟨u5.trans (HK2.out.from _), u4, ⟨_, HV2.out, ?_, trivial⟩, u3⟩
      have e := HE.out
      simp only [if_true] at e
      rw [e]
      have := HO.out.kept (grownBy_setCell' w1 (w.heap.size + 1) (.slice (some ⟨g', 0, none⟩) (zs.length + 1) cap')) (.inr (HV1.out.not_row (by decide) HO.out).symm)
      simpa using this
  case done =>
    rintro D ys W hD hys ⟨⟨v, hv, hrow, _⟩, hu⟩ hK
    have hc := hv.cell
    have HU := hide hu
    have HV := hide hv
    have HROW := hide hrow
    have HK := hide hK
    have HYS := hide hys
    clear hu hv hrow hK hys
    gi_wp2
    refine ⟨by simp, .inl ⟨_, _, rfl, run_takeDeferred HK.out, ?_⟩⟩
    have ug : Upd [w.heap.size + 1] W0 (W.putObj D (.deferred none)) := HU.out.grown (grownBy_putObj' W D _) (fun k e => by cases e; right; omega)
    refine ⟨_, results_tmp rfl _ _ _, v, rfl, ?_, ?_⟩
    · have e : ys.map Subtype.val = memb L 72001 := HYS.out
      have h := ownsRow_putObj HROW.out (.deferred none) HK.out rfl
      rw [e] at h
      exact own_less h (by omega)
    · exact (U0.mono (l' := [w.heap.size + 1]) (by simp)).trans ug (by simp) |>.toBelow (Nat.le_refl _) (by simp)
  case stop =>
    rintro D c pre W _ _ h _
    exact h.elim

/-- listed(now, every) -/
theorem listed_every (g : Nat) (L : List Int) (w : World) (hS : SetIs w g L) :
    Calls Try.prog 43 #[.pointer (some ⟨g, 0, none⟩), .func (.func 44) #[] #[]] w fun e w' => ∃ v, e = .returned v ∧ w'.ownsRow w.heap.size 3 1 v (memb L 72001).length ((memb L 72001).map (Value.int .i64)) ∧ Below w.heap.size w w' := by
  have h := callsIn_wide.1 (listedE_in 6 (by omega) g L w (fun _ => true) hS (fun x _ W _ => every_any x W))
  rwa [List.filter_eq_self.2 (fun _ _ => rfl)] at h
end Go.Proofs.Yteehjciepccomaa

namespace Go.Proofs.Yteehjciepccomaa
open Go.RowKit
set_option maxRecDepth 100000
set_option maxHeartbeats 1000000

theorem rep_set (n : Nat) (v u : Value) : (Array.replicate n v).setIfInBounds 0 u = ((List.replicate n v).set 0 u).toArray := by
  rw [← List.toArray_replicate, List.setIfInBounds_toArray]
theorem set_one_cells (w : World) (n : Nat) (v u : Value) (t : TypeId) : Blk (w.alloc (.cells ((Array.replicate n v).setIfInBounds 0 u) t)) w.heap.size t ((List.replicate n v).set 0 u) := by
  rw [rep_set]
  exact Blk.new _ _ _
/-- &seconds{1}: the set with second 0 alone. -/
theorem set_one (w : World) : SetIs (w.alloc (.cells ((Array.replicate 1126 (.int .u64 0)).setIfInBounds 0 (.int .u64 1)) 75)) w.heap.size [0] := by
  refine ⟨(List.replicate 1126 0).set 0 1, by rw [List.length_set, List.length_replicate], ?_, fun x hx => ?_, fun q m hq hm => ?_, fun x hx => ?_⟩
  · rw [List.map_set, List.map_replicate]
    exact set_one_cells w 1126 _ _ _
  · rcases List.mem_or_eq_of_mem_set hx with h | rfl
    · rw [List.eq_of_mem_replicate h]; omega
    · omega
  · rw [List.getElem?_set]
    by_cases h0 : 0 = q
    · subst h0
      rw [if_pos rfl, if_pos (by rw [List.length_replicate]; omega)]
      show (1 : Nat).testBit m = _
      by_cases h1 : m = 0
      · subst h1
        exact (decide_eq_true (by simp)).symm
      · rw [decide_eq_false (by simp only [List.mem_singleton]; omega)]
        cases h : Nat.testBit 1 m with
        | true => exact absurd (Nat.testBit_one_eq_true_iff_self_eq_zero.1 h) h1
        | false => rfl
    · rw [if_neg h0, List.getElem?_replicate, if_pos hq, decide_eq_false (by simp only [List.mem_singleton]; omega)]
      exact Nat.zero_testBit m
  · simp only [List.mem_singleton] at hx
    omega

theorem reachS_snoc (l : List Pc) (p : Pc) : ∀ now, reachS (l ++ [p]) now = nextS p (reachS l now) := by
  induction l with
  | nil => intro now; rfl
  | cons q l ih => intro now; exact ih _
theorem reachS_take {l : List Pc} {k : Nat} {p : Pc} (h : l[k]? = some p) (now : List Int) : reachS (l.take (k + 1)) now = nextS p (reachS (l.take k) now) := by
  rw [List.take_add_one, h]
  exact reachS_snoc _ _ _
theorem reachS_bound {l : List Pc} (hok : ∀ p ∈ l, PcOk p) : ∀ (k : Nat), k ≤ l.length → ∀ x ∈ reachS (l.take k) [0], 0 ≤ x ∧ x ≤ 3600 * k := by
  intro k
  induction k with
  | zero => intro _ x hx; simp [reachS] at hx; omega
  | succ k ih =>
    intro hk x hx
    have hp : l[k]? = some (l[k]'(by omega)) := List.getElem?_eq_getElem _
    rw [reachS_take hp] at hx
    obtain ⟨a, ha, _, n, hn, rfl⟩ := mem_nextS.1 hx
    have h1 := ih (by omega) a ha
    have h2 := len_ok (hok _ (List.mem_of_getElem? hp)) hn
    omega

/-- the seconds that Begins lists -/
def beginsL (l : List Pc) (n : Nat) : List Int := (memb (reachS (l.take n) [0]) 72001).filter fun t => match l[n]? with | some p => meetsS p t | none => true

/-- Begins' predicate -/
theorem begins1_any {n₀ : Nat} (a : Option Addr) (c : Nat) (l : List Pc) (n : Nat) (p : Pc) (t : Int) (bl bn : Nat) (w : World) (hI : PcsAt n₀ w a l) (hp : l[n]? = some p) (hm : l.length ≤ maxLen)
    (hl : w.cell? ⟨bl, 0, none⟩ = some (.slice a l.length c)) (hn : w.cell? ⟨bn, 0, none⟩ = some (.int .i64 (n : Int))) :
    Calls Try.prog 45 #[.int .i64 t, .pointer (some ⟨bl, 0, none⟩), .pointer (some ⟨bn, 0, none⟩)] w fun e w' => e = .returned (.bool (meetsS p t)) ∧ Upd [] w w' := by
  obtain ⟨b, o, pa, pn, pc, rfl, hb, hi, hpm, c0, c1, c2⟩ := hI n p hp
  have hlt : n < l.length := (List.getElem?_eq_some_iff.1 hp).1
  have hlm : l.length ≤ 9223372036854775807 := by unfold maxLen at hm; omega
  have ME := hide (meets_any p (.slice pa pn pc) t w rfl)
  clear hI hp hi hb hpm hm
  go_enter Try.func45, Try.ntmps45
  go_wp2_with fail
  refine ME.out.mono ?_
  rintro e w1 ⟨rfl, u1⟩
  have U1 := hide u1
  clear u1
  go_wp2_with fail
  go_ret
  exact ⟨rfl, U1.out⟩

theorem begins_yes {n₀ : Nat} (a : Option Addr) (c : Nat) (l : List Pc) (n : Nat) (w : World) (hI : PcsAt n₀ w a l) (hn : n₀ ≤ w.heap.size) (hm : l.length ≤ maxLen) (hc : l.length ≤ c) (hV : ValidS l 0) (hn2 : n ≤ l.length) :
    Calls Try.prog 16 #[.slice a l.length c, .int .i64 (n : Int)] w fun e w' => ∃ v, e = .returned (.tuple #[v, .int .i64 0]) ∧ w'.ownsRow w.heap.size 3 1 v (beginsL l n).length ((beginsL l n).map (Value.int .i64)) ∧ Below w.heap.size w w' := by
  obtain ⟨hz, _⟩ := zero_of_info zero_set
  obtain ⟨z, hzz⟩ : ∃ z, Array.replicate 1126 (Value.int .u64 0) = z := ⟨_, rfl⟩
  rw [hzz] at hz
  have hzs : z.size = 1126 := by rw [← hzz]; exact Array.size_replicate
  have hza : ¬ z = #[] := by intro h; rw [h] at hzs; simp at hzs
  have hzb : ¬ z.size = 0 := by omega
  have hzc : 0 < z.size := by omega
  have HZ := hide hzz
  have hl20 := hV.1
  have HOK := hide hV.2.2
  obtain ⟨len, hlen⟩ : ∃ len, l.length = len := ⟨_, rfl⟩
  have UB := ((Upd.refl [] w).alloc (.cells #[.slice a len c] 22)).alloc (.cells #[.int .i64 (n : Int)] 3)
  have V := valid_any a c l 0 _ (hI.upd UB hn (by simp)) (Nat.le_trans hn UB.size) hm
  rw [decide_eq_true hV] at V
  rw [hlen] at V hn2 hl20 hc ⊢
  have HLEN := hide hlen
  have HV := hide V
  have B0 := hide ((Blk.new w 22 [.slice a len c]).alloc (.cells #[.int .i64 (n : Int)] 3))
  have B1 := hide (show Blk _ (w.heap.size + 1) _ _ by have := Blk.new (w.alloc (.cells #[.slice a len c] 22)) 3 [.int .i64 (n : Int)]; rwa [World.size_alloc] at this)
  have HI := hide hI
  have HUB := hide UB
  have k0 := B0.out.cell 0
  have k1 := B1.out.cell 0
  have hn1 : (0 : Int) ≤ n := by omega
  have hn3 : (n : Int) ≤ len := by omega
  have ISI := hide (fun W => isIn_yes hn1 hn3 W)
  clear hI hV hm V hlen hzz UB hn1 hn3
  go_enter Try.func16, Try.ntmps16
  go_wp2_with fail
  refine HV.out.mono ?_
  rintro e w1 ⟨rfl, u1⟩
  have U1 := hide (HUB.out.trans u1 (by simp))
  have C0 := hide (B0.out.upd u1 (by simp))
  have C1 := hide (B1.out.upd u1 (by simp))
  have j0 := C0.out.cell 0
  have j1 := C1.out.cell 0
  clear u1 k0 k1
  go_wp2_with fail
  refine (ISI.out _).mono ?_
  rintro e w' ⟨rfl, rfl⟩
  have u2 := (Upd.refl [] w1).alloc (.cells (z.setIfInBounds 0 (.int .u64 1)) 75)
  have D0 := hide (C0.out.upd u2 (by simp))
  have D1 := hide (C1.out.upd u2 (by simp))
  have i0 := D0.out.cell 0
  have i1 := D1.out.cell 0
  have S2 := hide (show SetIs (w1.alloc (.cells (z.setIfInBounds 0 (.int .u64 1)) 75)) w1.heap.size [0] by rw [← HZ.out]; exact set_one w1)
  have U2 := hide (U1.out.trans u2 (by simp))
  obtain ⟨W2, hW2⟩ : ∃ W2, w1.alloc (.cells (z.setIfInBounds 0 (.int .u64 1)) 75) = W2 := ⟨_, rfl⟩
  rw [hW2] at S2 U2 D0 D1
  have hb1 : w1.heap.size < W2.heap.size := S2.out.lt
  have HW2 := hide hW2
  clear u2 hW2
  go_wp2_with fail
  rw [HW2.out]
  go_loopw [6, 25] (fun s i wr => ∃ (k g : Nat), k ≤ n ∧ i = .int .i64 k ∧ s = .pointer (some ⟨g, 0, none⟩) ∧ Hid (Upd [] W2 wr) ∧ Hid (SetIs wr g (reachS (l.take k) [0])))
    (fun _ i _ => n - (intOf i).toNat)
  case atStart => exact ⟨0, _, Nat.zero_le _, rfl, rfl, Upd.refl _ _, S2⟩
  case round =>
    obtain ⟨k, g, hk, rfl, rfl, hu, hs⟩ := hrel
    by_cases hlt : k < n
    · obtain ⟨p, hp⟩ : ∃ p, l[k]? = some p := ⟨_, List.getElem?_eq_getElem (by have := HLEN.out; omega)⟩
      obtain ⟨b, o, pa, pn, pc, ea, hb, hi, hpm, c0, c1, c2⟩ := (HI.out.upd (U2.out.trans hu.out (by simp)) hn (by simp)) k p hp
      subst ea
      have u3 := (Upd.refl [] wr).alloc (.cells #[.slice pa pn pc, .int .i64 p.want, .int .i64 p.join] 50)
      have hwr := Nat.le_trans U2.out.size hu.out.size
      have hpk := HOK.out p (List.mem_of_getElem? hp)
      have hbd := reachS_bound HOK.out k (by have := HLEN.out; omega)
      have NX := hide (next_any p pa pn pc g (reachS (l.take k) [0]) _ (hi.upd u3 (Nat.le_trans hn hwr) (by simp)) (Nat.le_trans hn (Nat.le_trans hwr u3.size)) (hs.out.upd u3 (by simp)) hpk (fun x hx => by have := hbd x hx; omega))
      have L3 := Blk.new wr 50 [.slice pa pn pc, .int .i64 p.want, .int .i64 p.join]
      have l0 := L3.cell 0
      have l1 := L3.cell 1
      have l2 := L3.cell 2
      have ER := hide (reachS_take hp [0])
      have U3 := hide (hu.out.trans u3 (by simp))
      clear hp hi hpm hb L3 u3 hpk hbd hwr
      go_wp2_with fail
      refine NX.out.mono ?_
      rintro e w4 ⟨g', rfl, s4, _, b4⟩
      have S4 := hide s4
      have U4 := hide ((U3.out).trans ((Upd.refl [] _).below b4) (by simp))
      clear s4 b4
      go_wp2_with fail
      go_roundw
      case rel => exact ⟨k + 1, g', by omega, by go_num, rfl, U4, by rw [ER.out]; exact S4.out⟩
      case measure => simp [intOf] <;> omega
    · obtain rfl : k = n := by omega
      obtain ⟨wo, rfl⟩ : ∃ wo : World, wo = wr := ⟨_, rfl⟩
      have E0 := (D0.out.upd hu.out (by simp))
      have E1 := (D1.out.upd hu.out (by simp))
      have f0 := E0.cell 0
      have f1 := E1.cell 0
      have F0 := hide E0
      have F1 := hide E1
      have UF := hide (U2.out.trans hu.out (by simp))
      clear E0 E1
      by_cases hkl : k = len
      · have hll : l[k]? = none := by rw [List.getElem?_eq_none]; have := HLEN.out; omega
        have LE := listed_every g (reachS (l.take k) [0]) wo hs.out
        rw [show memb (reachS (l.take k) [0]) 72001 = beginsL l k by unfold beginsL; rw [hll]; exact (List.filter_eq_self.2 (fun _ _ => rfl)).symm] at LE
        have LE' := hide LE
        clear LE hll
        have hkl' : (k : Int) = len := by omega
        subst hkl
        go_wp2_with fail
        refine LE'.out.mono ?_
        rintro e w5 ⟨v, rfl, r5, b5⟩
        have R5 := hide r5
        have U5 := hide (UF.out.trans ((Upd.refl [] _).below b5) (by simp))
        have hs5 := UF.out.size
        clear r5 b5
        go_wp2_with fail
        go_ret2
        exact ⟨v, rfl, own_less R5.out hs5, U5.out.toBelow (Nat.le_refl _) (by simp)⟩
      · obtain ⟨p, hp⟩ : ∃ p, l[k]? = some p := ⟨_, List.getElem?_eq_getElem (by have := HLEN.out; omega)⟩
        have LB := callsIn_wide.1 (listedB_in 6 (by omega) g (reachS (l.take k) [0]) wo w.heap.size (w.heap.size + 1) (meetsS p) hs.out (fun x hx W hW => by
          have hsz := UF.out.size
          have q0 := F0.out.lt
          have q1 := F1.out.lt
          have := begins1_any a c l k p x w.heap.size (w.heap.size + 1) W ((HI.out.upd UF.out hn (by simp)).upd hW (Nat.le_trans hn hsz) (by simp; omega)) hp (by rw [HLEN.out]; unfold maxLen; omega)
            (by rw [HLEN.out]; exact (F0.out.upd hW (by simp; omega)).cell 0) ((F1.out.upd hW (by simp; omega)).cell 0)
          exact this))
        rw [show (memb (reachS (l.take k) [0]) 72001).filter (meetsS p) = beginsL l k by unfold beginsL; rw [hp]] at LB
        have LB' := hide LB
        clear LB hp
        have hkl' : ¬ (k : Int) = len := by omega
        go_wp2_with fail
        refine LB'.out.mono ?_
        rintro e w5 ⟨v, rfl, r5, b5⟩
        have R5 := hide r5
        have U5 := hide (UF.out.trans ((Upd.refl [] _).below b5) (by simp))
        have hs5 := UF.out.size
        clear r5 b5
        go_wp2_with fail
        go_ret2
        exact ⟨v, rfl, own_less R5.out hs5, U5.out.toBelow (Nat.le_refl _) (by simp)⟩

theorem begins_no {n₀ : Nat} (a : Option Addr) (c : Nat) (l : List Pc) (n : Int) (w : World) (hI : PcsAt n₀ w a l) (hn : n₀ ≤ w.heap.size) (hm : l.length ≤ maxLen) (hV : ¬ (ValidS l 0 ∧ 0 ≤ n ∧ n ≤ l.length)) :
    Calls Try.prog 16 #[.slice a l.length c, .int .i64 n] w fun e w' => e = .returned (.tuple #[.slice none 0 0, .int .i64 100]) ∧ Below w.heap.size w w' := by
  obtain ⟨len, hlen⟩ : ∃ len, l.length = len := ⟨_, rfl⟩
  have UB := ((Upd.refl [] w).alloc (.cells #[.slice a len c] 22)).alloc (.cells #[.int .i64 n] 3)
  have V := valid_any a c l 0 _ (hI.upd UB hn (by simp)) (Nat.le_trans hn UB.size) hm
  obtain ⟨x, hx⟩ : ∃ x, decide (ValidS l 0) = x := ⟨_, rfl⟩
  rw [hx] at V
  rw [hlen] at V ⊢
  have hlm : len ≤ 9223372036854775807 := by unfold maxLen at hm; omega
  have HX := hide hx
  have HV := hide V
  have HNO := hide hV
  have HLEN := hide hlen
  have B0 := hide ((Blk.new w 22 [.slice a len c]).alloc (.cells #[.int .i64 n] 3))
  have B1 := hide (show Blk _ (w.heap.size + 1) _ _ by have := Blk.new (w.alloc (.cells #[.slice a len c] 22)) 3 [.int .i64 n]; rwa [World.size_alloc] at this)
  have HUB := hide UB
  have k0 := B0.out.cell 0
  have k1 := B1.out.cell 0
  clear hI hV hm V hlen UB hx
  go_enter Try.func16, Try.ntmps16
  go_wp2_with fail
  refine HV.out.mono ?_
  rintro e w1 ⟨rfl, u1⟩
  have U1 := hide (HUB.out.trans u1 (by simp))
  have j0 := (B0.out.upd u1 (by simp)).cell 0
  have j1 := (B1.out.upd u1 (by simp)).cell 0
  clear u1 k0 k1
  cases x with
  | false =>
    go_wp2_with fail
    go_ret2
    exact ⟨rfl, U1.out.toBelow (Nat.le_refl _) (by simp)⟩
  | true =>
    have hno : ¬ (0 ≤ n ∧ n ≤ (len : Int)) := fun h => HNO.out ⟨of_decide_eq_true HX.out, h.1, by rw [HLEN.out]; exact h.2⟩
    have ISI := hide (fun W => isIn_no hno W)
    clear hno
    go_wp2_with fail
    refine (ISI.out _).mono ?_
    rintro e w' ⟨rfl, rfl⟩
    go_wp2_with fail
    go_ret2
    exact ⟨rfl, U1.out.toBelow (Nat.le_refl _) (by simp)⟩
end Go.Proofs.Yteehjciepccomaa

namespace Go.Proofs.Yteehjciepccomaa
open Go.RowKit
set_option maxRecDepth 100000
set_option maxHeartbeats 1000000

/-- The first piece from number k on that cannot begin when it has to; the number of pieces if it is the total that is missed; -1 if nothing is. -/
def blameFrom (total : Int) : List Pc → Nat → List Int → Int × List Int
  | [], k, now => if total ∈ now then (-1, []) else ((k : Int), memb now 72001)
  | p :: ps, k, now => if 0 ≤ p.join ∧ p.join ∉ now then ((k : Int), memb now 72001) else blameFrom total ps (k + 1) (nextS p now)
def blameS (l : List Pc) (total : Int) : Int × List Int := blameFrom total l 0 [0]

theorem blame_yes {n₀ : Nat} (a : Option Addr) (c : Nat) (l : List Pc) (t : Int) (w : World) (hI : PcsAt n₀ w a l) (hn : n₀ ≤ w.heap.size) (hm : l.length ≤ maxLen) (hV : ValidS l t) :
    Calls Try.prog 21 #[.slice a l.length c, .int .i64 t] w fun e w' => ∃ v, e = .returned (.tuple #[.int .i64 (blameS l t).1, v, .int .i64 0]) ∧ w'.ownsRow w.heap.size 3 1 v (blameS l t).2.length ((blameS l t).2.map (Value.int .i64)) ∧ Below w.heap.size w w' := by
  obtain ⟨hz, _⟩ := zero_of_info zero_set
  obtain ⟨z, hzz⟩ : ∃ z, Array.replicate 1126 (Value.int .u64 0) = z := ⟨_, rfl⟩
  rw [hzz] at hz
  have hzs : z.size = 1126 := by rw [← hzz]; exact Array.size_replicate
  have hza : ¬ z = #[] := by intro h; rw [h] at hzs; simp at hzs
  have hzb : ¬ z.size = 0 := by omega
  have hzc : 0 < z.size := by omega
  have HZ := hide hzz
  have hl20 := hV.1
  have HOK := hide hV.2.2
  obtain ⟨len, hlen⟩ : ∃ len, l.length = len := ⟨_, rfl⟩
  have V := valid_any a c l t w hI hn hm
  rw [decide_eq_true hV] at V
  obtain ⟨ri, hri⟩ : ∃ ri, (blameS l t).1 = ri := ⟨_, rfl⟩
  obtain ⟨rl, hrl⟩ : ∃ rl, (blameS l t).2 = rl := ⟨_, rfl⟩
  have HR := hide (show blameS l t = (ri, rl) by rw [← hri, ← hrl])
  rw [hri, hrl, hlen]
  rw [hlen] at V hl20
  have HLEN := hide hlen
  have HV := hide V
  have HI := hide hI
  clear hI hV hm V hlen hzz hri hrl
  go_enter Try.func21, Try.ntmps21
  go_wp2_with fail
  refine HV.out.mono ?_
  rintro e w1 ⟨rfl, u1⟩
  have u2 := (Upd.refl [] w1).alloc (.cells (z.setIfInBounds 0 (.int .u64 1)) 75)
  have S2 := hide (show SetIs (w1.alloc (.cells (z.setIfInBounds 0 (.int .u64 1)) 75)) w1.heap.size [0] by rw [← HZ.out]; exact set_one w1)
  have U2 := hide (u1.trans u2 (by simp))
  obtain ⟨W2, hW2⟩ : ∃ W2, w1.alloc (.cells (z.setIfInBounds 0 (.int .u64 1)) 75) = W2 := ⟨_, rfl⟩
  rw [hW2] at S2 U2
  have HW2 := hide hW2
  clear u2 hW2 u1
  go_wp2_with fail
  rw [HW2.out]
  go_loopw [7, 18] (fun s i wr => ∃ (k g : Nat), k ≤ len ∧ i = .int .i64 k ∧ s = .pointer (some ⟨g, 0, none⟩) ∧ Hid (Upd [] W2 wr) ∧ Hid (SetIs wr g (reachS (l.take k) [0])) ∧ Hid (blameS l t = blameFrom t (l.drop k) k (reachS (l.take k) [0])))
    (fun _ i _ => len - (intOf i).toNat)
  case atStart => exact ⟨0, _, Nat.zero_le _, rfl, rfl, Upd.refl _ _, S2, rfl⟩
  case round =>
    obtain ⟨k, g, hk, rfl, rfl, hu, hs, hr⟩ := hrel
    by_cases hlt : k < len
    · obtain ⟨p, hp⟩ : ∃ p, l[k]? = some p := ⟨_, List.getElem?_eq_getElem (by have := HLEN.out; omega)⟩
      obtain ⟨b, o, pa, pn, pc, ea, hb, hi, hpm, c0, c1, c2⟩ := (HI.out.upd (U2.out.trans hu.out (by simp)) hn (by simp)) k p hp
      subst ea
      have u3 := (Upd.refl [] wr).alloc (.cells #[.slice pa pn pc, .int .i64 p.want, .int .i64 p.join] 50)
      have hwr := Nat.le_trans U2.out.size hu.out.size
      have hpk := HOK.out p (List.mem_of_getElem? hp)
      have hbd := reachS_bound HOK.out k (by have := HLEN.out; omega)
      have s3 := hs.out.upd u3 (by simp)
      have NX := hide (next_any p pa pn pc g (reachS (l.take k) [0]) _ (hi.upd u3 (Nat.le_trans hn hwr) (by simp)) (Nat.le_trans hn (Nat.le_trans hwr u3.size)) s3 hpk (fun x hx => by have := hbd x hx; omega))
      have HA := hide (has_any g (reachS (l.take k) [0]) p.join _ s3)
      have LE := hide (listed_every g (reachS (l.take k) [0]) _ s3)
      have L3 := Blk.new wr 50 [.slice pa pn pc, .int .i64 p.want, .int .i64 p.join]
      have l0 := L3.cell 0
      have l1 := L3.cell 1
      have l2 := L3.cell 2
      have ER := hide (reachS_take hp [0])
      have U3 := hide (hu.out.trans u3 (by simp))
      have DR := hide (show l.drop k = p :: l.drop (k + 1) by
        have hlk : k < l.length := by have := HLEN.out; omega
        rw [List.drop_eq_getElem_cons hlk]
        congr 1
        rw [List.getElem?_eq_getElem hlk] at hp
        simpa using hp)
      have hr2 := hr.out
      rw [DR.out, blameFrom] at hr2
      have HR2 := hide hr2
      clear hp hi hpm hb L3 u3 hpk hbd hwr s3 hr2
      by_cases hj : 0 ≤ p.join
      · by_cases hin : p.join ∈ reachS (l.take k) [0]
        · have h := HR2.out
          rw [if_neg (fun h => h.2 hin), ← ER.out] at h
          have HR3 := hide h
          have HA2 := HA.out
          rw [decide_eq_true hin] at HA2
          have HA3 := hide HA2
          clear h HA2 hin
          go_wp2_with fail
          refine HA3.out.mono ?_
          rintro e w' ⟨rfl, rfl⟩
          go_wp2_with fail
          refine NX.out.mono ?_
          rintro e w4 ⟨g', rfl, s4, _, b4⟩
          have S4 := hide s4
          have U4 := hide ((U3.out).trans ((Upd.refl [] _).below b4) (by simp))
          clear s4 b4
          go_wp2_with fail
          go_roundw
          case rel => exact ⟨k + 1, g', by omega, by go_num, rfl, U4, by rw [ER.out]; exact S4.out, HR3⟩
          case measure => simp [intOf] <;> omega
        · have h := HR2.out
          rw [if_pos ⟨hj, hin⟩, HR.out] at h
          obtain ⟨rfl, rfl⟩ := Prod.mk.inj h
          have HA2 := HA.out
          rw [decide_eq_false hin] at HA2
          have HA3 := hide HA2
          clear h HA2 hin
          go_wp2_with fail
          refine HA3.out.mono ?_
          rintro e w' ⟨rfl, rfl⟩
          go_wp2_with fail
          refine LE.out.mono ?_
          rintro e w5 ⟨v, rfl, r5, b5⟩
          have R5 := hide r5
          have UF := hide (U2.out.trans U3.out (by simp))
          have U5 := hide (UF.out.trans ((Upd.refl [] _).below b5) (by simp))
          have hs5 := UF.out.size
          clear r5 b5
          go_wp2_with fail
          go_ret3
          exact ⟨v, rfl, own_less R5.out hs5, U5.out.toBelow (Nat.le_refl _) (by simp)⟩
      · have h := HR2.out
        rw [if_neg (fun h => hj h.1), ← ER.out] at h
        have HR3 := hide h
        clear h
        go_wp2_with fail
        refine NX.out.mono ?_
        rintro e w4 ⟨g', rfl, s4, _, b4⟩
        have S4 := hide s4
        have U4 := hide ((U3.out).trans ((Upd.refl [] _).below b4) (by simp))
        clear s4 b4
        go_wp2_with fail
        go_roundw
        case rel => exact ⟨k + 1, g', by omega, by go_num, rfl, U4, by rw [ER.out]; exact S4.out, HR3⟩
        case measure => simp [intOf] <;> omega
    · obtain rfl : k = len := by omega
      obtain ⟨wo, rfl⟩ : ∃ wo : World, wo = wr := ⟨_, rfl⟩
      have hr2 := hr.out
      rw [List.drop_of_length_le (by have := HLEN.out; omega), blameFrom, HR.out] at hr2
      have HR2 := hide hr2
      have HA := hide (has_any g (reachS (l.take k) [0]) t _ hs.out)
      have LE := hide (listed_every g (reachS (l.take k) [0]) _ hs.out)
      have UF := hide (U2.out.trans hu.out (by simp))
      clear hr2
      by_cases hin : t ∈ reachS (l.take k) [0]
      · have h := HR2.out
        rw [if_pos hin] at h
        obtain ⟨rfl, rfl⟩ := Prod.mk.inj h
        have HA2 := HA.out
        rw [decide_eq_true hin] at HA2
        have HA3 := hide HA2
        clear h HA2 hin
        go_wp2_with fail
        refine HA3.out.mono ?_
        rintro e w' ⟨rfl, rfl⟩
        go_wp2_with fail
        go_ret3
        exact ⟨_, rfl, World.ownsRow_nil _ _ _ _, UF.out.toBelow (Nat.le_refl _) (by simp)⟩
      · have h := HR2.out
        rw [if_neg hin] at h
        obtain ⟨rfl, rfl⟩ := Prod.mk.inj h
        have HA2 := HA.out
        rw [decide_eq_false hin] at HA2
        have HA3 := hide HA2
        clear h HA2 hin
        go_wp2_with fail
        refine HA3.out.mono ?_
        rintro e w' ⟨rfl, rfl⟩
        go_wp2_with fail
        refine LE.out.mono ?_
        rintro e w5 ⟨v, rfl, r5, b5⟩
        have R5 := hide r5
        have U5 := hide (UF.out.trans ((Upd.refl [] _).below b5) (by simp))
        have hs5 := UF.out.size
        clear r5 b5
        go_wp2_with fail
        go_ret3
        exact ⟨v, rfl, own_less R5.out hs5, U5.out.toBelow (Nat.le_refl _) (by simp)⟩
theorem blame_no {n₀ : Nat} (a : Option Addr) (c : Nat) (l : List Pc) (t : Int) (w : World) (hI : PcsAt n₀ w a l) (hn : n₀ ≤ w.heap.size) (hm : l.length ≤ maxLen) (hV : ¬ ValidS l t) :
    Calls Try.prog 21 #[.slice a l.length c, .int .i64 t] w fun e w' => e = .returned (.tuple #[.int .i64 0, .slice none 0 0, .int .i64 100]) ∧ Below w.heap.size w w' := by
  have V := valid_any a c l t w hI hn hm
  rw [decide_eq_false hV] at V
  have HV := hide V
  clear hI hV hm V
  go_enter Try.func21, Try.ntmps21
  go_wp2_with fail
  refine HV.out.mono ?_
  rintro e w1 ⟨rfl, u1⟩
  have U1 := hide u1
  clear u1
  go_wp2_with fail
  go_ret3
  exact ⟨rfl, U1.out.toBelow (Nat.le_refl _) (by simp)⟩
end Go.Proofs.Yteehjciepccomaa

namespace Go.Proofs.Yteehjciepccomaa
open Go.RowKit
set_option maxRecDepth 100000
set_option maxHeartbeats 20000000

theorem own_open3 {w : World} {base e n c : Nat} {A : Option Addr} {xs : List Value} (h : w.ownsRow base e 3 (.slice A n c) n xs) (hn : 0 < n) : ∃ g r, A = some ⟨g, 0, none⟩ ∧ base ≤ g ∧ Blk w g e (xs ++ r) ∧ n ≤ c := by
  rcases h.2 with ⟨hv, h0⟩ | ⟨g, cap, cur, hv, hb, hg, h1, h2, h3, h4⟩
  · omega
  · obtain ⟨rfl, rfl⟩ : A = some ⟨g, 0, none⟩ ∧ c = cap := by simpa using hv
    refine ⟨g, cur.toList.drop (n * 3), rfl, hb, ?_, h1⟩
    show w.heap[g]? = _
    rw [hg, ← h4, List.take_append_drop]
/-- The cells of pieces: each with the value of its lengths. -/
def entCells (es : List (Value × Pc)) : List Value := es.flatMap fun e => [e.1, .int .i64 e.2.want, .int .i64 e.2.join]
theorem entCells_length (es : List (Value × Pc)) : (entCells es).length = es.length * 3 := by
  induction es with
  | nil => rfl
  | cons e es ih =>
    show ([_, _, _] ++ entCells es).length = _
    rw [List.length_append, ih, List.length_cons]
    simp
    omega
theorem entCells_snoc (es : List (Value × Pc)) (e : Value × Pc) : entCells (es ++ [e]) = entCells es ++ [e.1, .int .i64 e.2.want, .int .i64 e.2.join] := by
  unfold entCells
  rw [List.flatMap_append]
  rfl
theorem entCells_at : ∀ (es : List (Value × Pc)) (i : Nat) (e : Value × Pc) (t : Nat), es[i]? = some e → t < 3 → (entCells es)[i * 3 + t]? = [e.1, Value.int .i64 e.2.want, .int .i64 e.2.join][t]?
  | [], i, e, t, h, _ => by simp at h
  | f :: es, 0, e, t, h, ht => by
    obtain rfl : f = e := by simpa using h
    show ([_, _, _] ++ entCells es)[0 * 3 + t]? = _
    rw [List.getElem?_append_left (by simp; omega)]
    simp
  | f :: es, i + 1, e, t, h, ht => by
    show ([_, _, _] ++ entCells es)[(i + 1) * 3 + t]? = _
    rw [List.getElem?_append_right (by simp; omega)]
    have := entCells_at es i e t (by simpa using h) ht
    rw [← this]
    congr 1
    simp
    omega
/-- Each value is a slice that reads as the lengths. -/
def EntAt (n₀ : Nat) (w : World) (es : List (Value × Pc)) : Prop := ∀ e ∈ es, ∃ pa pn pc, e.1 = .slice pa pn pc ∧ Ints n₀ w (.slice pa pn pc) e.2.lens ∧ e.2.lens.length ≤ maxLen
theorem EntAt.upd {n₀ : Nat} {w w' : World} {es : List (Value × Pc)} {l : List Nat} (h : EntAt n₀ w es) (hu : Upd l w w') (hn : n₀ ≤ w.heap.size) (hl : ∀ x ∈ l, n₀ ≤ x) : EntAt n₀ w' es := fun e he => by
  obtain ⟨pa, pn, pc, h1, h2, h3⟩ := h e he
  exact ⟨pa, pn, pc, h1, h2.upd hu hn hl, h3⟩
theorem EntAt.snoc {n₀ : Nat} {w : World} {es : List (Value × Pc)} {e : Value × Pc} (h : EntAt n₀ w es) {pa : Option Addr} {pn pc : Nat} (h1 : e.1 = .slice pa pn pc) (h2 : Ints n₀ w (.slice pa pn pc) e.2.lens) (h3 : e.2.lens.length ≤ maxLen) : EntAt n₀ w (es ++ [e]) := fun f hf => by
  rcases List.mem_append.1 hf with hf | hf
  · exact h f hf
  · obtain rfl : f = e := by simpa using hf
    exact ⟨pa, pn, pc, h1, h2, h3⟩
theorem ent_pcs {n₀ : Nat} {w : World} {g : Nat} {t : TypeId} {es : List (Value × Pc)} {r : List Value} (hb : Blk w g t (entCells es ++ r)) (hE : EntAt n₀ w es) (hg : g < n₀) : PcsAt n₀ w (some ⟨g, 0, none⟩) (es.map (·.2)) := by
  intro i p hp
  rw [List.getElem?_map] at hp
  obtain ⟨e, he, rfl⟩ := Option.map_eq_some_iff.1 hp
  obtain ⟨pa, pn, pc, h1, h2, h3⟩ := hE e (List.mem_of_getElem? he)
  have hl := (List.getElem?_eq_some_iff.1 he).1
  have hlt : ∀ t, t < 3 → i * 3 + t < (entCells es).length := fun t ht => by rw [entCells_length]; omega
  have c : ∀ t, t < 3 → w.cell? ⟨g, 0 + (i * 3 + t), none⟩ = [e.1, Value.int .i64 e.2.want, .int .i64 e.2.join][t]? := fun t ht => by
    rw [Nat.zero_add, hb.cell, List.getElem?_append_left (hlt t ht), entCells_at es i e t he ht]
  refine ⟨g, 0, pa, pn, pc, rfl, hg, h2, h3, ?_, ?_, ?_⟩
  · rw [← h1]; exact c 0 (by omega)
  · exact c 1 (by omega)
  · exact c 2 (by omega)
theorem ent_row {n₀ : Nat} {w : World} {base k cap : Nat} {A : Option Addr} {es : List (Value × Pc)} (hrow : w.ownsRow base 50 3 (.slice A k cap) k (entCells es)) (hq : es.length = k) (hE : EntAt n₀ w es) (hn : n₀ ≤ w.heap.size) : PcsAt w.heap.size w A (es.map (·.2)) ∧ k ≤ cap := by
  rcases Nat.eq_zero_or_pos k with h0 | h0
  · subst h0
    have : es = [] := List.eq_nil_of_length_eq_zero hq
    subst this
    exact ⟨fun i p hp => by simp at hp, Nat.zero_le _⟩
  · obtain ⟨g, r, rfl, _, hb, hc⟩ := own_open3 hrow h0
    exact ⟨ent_pcs hb (fun e he => by obtain ⟨pa, pn, pc, h1, h2, h3⟩ := hE e he; exact ⟨pa, pn, pc, h1, h2.mono hn, h3⟩) hb.lt, hc⟩
end Go.Proofs.Yteehjciepccomaa
