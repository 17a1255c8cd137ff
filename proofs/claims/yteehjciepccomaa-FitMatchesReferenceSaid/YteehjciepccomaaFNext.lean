/-
  next: the seconds at which the piece behind one can begin.
-/
import Derived.Test.YteehjciepccomaaFAll
import Derived.Deep.WholeRow
namespace Go.Proofs.Yteehjciepccomaa
open Go.RowKit Go.Shelf
attribute [local go_sem] Oper.semAt_some

theorem zero_set : (Try.prog.info? 75).map (fun i => (i.zero, i.size)) = some (some (.agg (Array.replicate 1126 (.int .u64 0))), 1126) := by kernel_rfl
theorem cells_rep (w : World) (t : TypeId) (v : Value) (n : Nat) : Blk (w.alloc (.cells (Array.replicate n v) t)) w.heap.size t (List.replicate n v) := by
  rw [← List.toArray_replicate]
  exact Blk.new _ _ _
theorem set_empty (w : World) : SetIs (w.alloc (.cells (Array.replicate 1126 (.int .u64 0)) 75)) w.heap.size [] := by
  refine ⟨List.replicate 1126 0, List.length_replicate, ?_, fun x hx => ?_, fun q m hq hm => ?_, fun x hx => absurd hx List.not_mem_nil⟩
  · rw [List.map_replicate]
    exact cells_rep w _ _ 1126
  · rw [List.eq_of_mem_replicate hx]
    omega
  · rw [List.getElem?_replicate, if_pos hq, decide_eq_false List.not_mem_nil]
    exact Nat.zero_testBit m

theorem nextS_append (p : Pc) (l m : List Int) : nextS p (l ++ m) = nextS p l ++ nextS p m := by
  unfold nextS
  rw [List.filter_append, List.flatMap_append]
theorem nextS_one_yes {p : Pc} {a : Int} (h : meetsS p a = true) : nextS p [a] = p.lens.map fun n => a + n := by
  unfold nextS
  simp [h]
theorem nextS_one_no {p : Pc} {a : Int} (h : meetsS p a = false) : nextS p [a] = [] := by
  unfold nextS
  simp [h]
theorem mem_nextS {p : Pc} {L : List Int} {x : Int} : x ∈ nextS p L ↔ ∃ a ∈ L, meetsS p a = true ∧ ∃ n ∈ p.lens, a + n = x := by
  unfold nextS
  simp only [List.mem_flatMap, List.mem_filter, List.mem_map]
  constructor
  · rintro ⟨a, ⟨h1, h2⟩, n, h3, h4⟩
    exact ⟨a, h1, h2, n, h3, h4⟩
  · rintro ⟨a, h1, h2, n, h3, h4⟩
    exact ⟨a, ⟨h1, h2⟩, n, h3, h4⟩
theorem nextS_same {p : Pc} {L L' : List Int} (h : ∀ x, x ∈ L ↔ x ∈ L') (x : Int) : x ∈ nextS p L ↔ x ∈ nextS p L' := by
  rw [mem_nextS, mem_nextS]
  constructor
  · rintro ⟨a, h1, h2⟩; exact ⟨a, (h a).1 h1, h2⟩
  · rintro ⟨a, h1, h2⟩; exact ⟨a, (h a).2 h1, h2⟩
theorem ownFrom_set {β : Type} {B out : Nat} {L : β → List Int} (hB : out < B) : OwnFrom B (fun (s : β) W => SetIs W out (L s)) := by
  intro s W W' row h hg hr
  obtain ⟨ws, h1, h2, h3⟩ := h
  exact ⟨ws, h1, (hg.block out h2.lt (fun e => by have := (hr out e.symm).1; omega)).trans h2, h3⟩
theorem ownFrom_upd {β : Type} {w0 : World} {l : List Nat} : OwnFrom w0.heap.size (fun (_ : β) W => Upd l w0 W) := by
  intro s W W' row h hg hr
  exact h.grown hg (fun k e => .inr (hr k e).1)
theorem Upd.keepsFrom {out B : Nat} {w w' : World} (h : Upd [out] w w') (hB : out < B) : KeepsFrom B w w' :=
  ⟨h.size, fun k o hk ho _ => (h.block k (Array.getElem?_eq_some_iff.1 ho).1 (by simp; omega)).trans ho⟩
theorem Upd.keep2 {out b g : Nat} {w w' : World} (h : Upd [out] w w') (hb : b < w.heap.size) (hg : g < w.heap.size) (hb2 : b ≠ out) (hg2 : g ≠ out) : Keep2 b g w w' :=
  ⟨h.block b hb (by simpa using hb2), h.block g hg (by simpa using hg2)⟩
theorem len_ok {p : Pc} (h : PcOk p) {n : Int} (hn : n ∈ p.lens) : 0 ≤ n ∧ n ≤ 3600 := by
  obtain ⟨j, hj⟩ := List.getElem?_of_mem hn
  have := (h.2.2.2 j (List.getElem?_eq_some_iff.1 hj).1).1
  rw [hj] at this
  exact this

set_option maxRecDepth 100000 in
set_option maxHeartbeats 2000000 in
theorem next_in {n₀ : Nat} (n : Nat) (hn : 6 ≤ n) (p : Pc) (pa : Option Addr) (pn pc g : Nat) (L : List Int) (w : World) (hI : Ints n₀ w (.slice pa pn pc) p.lens) (hn0 : n₀ ≤ w.heap.size) (hS : SetIs w g L) (hok : PcOk p) (hL : ∀ x ∈ L, x ≤ 68400) :
    CallsIn Fence.wide n Try.prog 42 #[.agg #[.slice pa pn pc, .int .i64 p.want, .int .i64 p.join], .pointer (some ⟨g, 0, none⟩)] w fun e w' => ∃ g', e = .returned (.pointer (some ⟨g', 0, none⟩)) ∧ SetIs w' g' (nextS p L) ∧ w.heap.size ≤ g' ∧ Below w.heap.size w w' := by
  have h1 : 1 ≤ n := by omega
  obtain ⟨hz, _⟩ := zero_of_info zero_set
  obtain ⟨z, hzz⟩ : ∃ z, Array.replicate 1126 (Value.int .u64 0) = z := ⟨_, rfl⟩
  rw [hzz] at hz
  have HZ := hide hzz
  clear hzz
  refine callsIn_of_wp_marks Try.func42 rfl trivial ?_ rfl
  simp only [Try.ntmps42, List.size_toArray, List.length_cons, List.length_nil, Nat.reduceAdd, Nat.reduceSub, Array.replicate_succ, Array.replicate_zero, List.push_toArray, List.append_toArray, List.nil_append, List.cons_append]
  have AL := fun (W : World) => (callsIn_wide (n := n - 1)).2 (all_any g W)
  have hfn : Fence.wide.fn 69 := trivial
  have hL0 : ∀ x ∈ L, 0 ≤ x ∧ x ≤ 72000 := by obtain ⟨ws, h1, h2, h3, h4, h5⟩ := hS; exact h5
  have hgl := hS.lt
  have HI := hide hI
  have HS := hide hS
  have HOK := hide hok
  have HL := hide hL
  have HL0 := hide hL0
  clear hI hS hok hL hL0
  gi_wp2_with (gi_at_call 69; refine (AL _).mono ?_; rintro e w' ⟨rfl, rfl⟩)
  obtain ⟨W0, hW0⟩ : ∃ W0, (((w.alloc (.cells #[.slice pa pn pc, .int .i64 p.want, .int .i64 p.join] 50)).alloc (.cells z 75)).alloc (.cells #[.pointer (some ⟨g, 0, none⟩)] 72)) = W0 := ⟨_, rfl⟩
  rw [hW0]
  have hsz : W0.heap.size = w.heap.size + 3 := by rw [← hW0]; simp
  have U0 : Upd [] w W0 := by rw [← hW0]; exact (((Upd.refl [] w).alloc _).alloc _).alloc _
  have bBs : W0.cell? ⟨w.heap.size + 1 + 1, 0, none⟩ = some (.pointer (some ⟨g, 0, none⟩)) := by
    have := (Blk.new ((w.alloc (.cells #[.slice pa pn pc, .int .i64 p.want, .int .i64 p.join] 50)).alloc (.cells z 75)) 72 [.pointer (some ⟨g, 0, none⟩)]).cell 0
    rw [← hW0]
    simpa using this
  have bP : Blk W0 w.heap.size 50 [.slice pa pn pc, .int .i64 p.want, .int .i64 p.join] := by
    rw [← hW0]
    exact ((Blk.new w _ _).alloc _).alloc _
  have bS : SetIs W0 (w.heap.size + 1) [] := by
    rw [← hW0, ← HZ.out]
    have := (set_empty (w.alloc (.cells #[.slice pa pn pc, .int .i64 p.want, .int .i64 p.join] 50))).upd ((Upd.refl [] _).alloc (.cells #[.pointer (some ⟨g, 0, none⟩)] 72)) (by simp)
    simpa using this
  have hI0 : Ints n₀ W0 (.slice pa pn pc) p.lens := HI.out.upd U0 hn0 (by simp)
  clear hW0
  refine wpIn_rangeFunc_ownG rfl h1 (gf := 86) (lb := #[.pointer (some ⟨w.heap.size + 1 + 1, 0, none⟩)]) rfl trivial (enters_of Try.func86 (by kernel_rfl) rfl)
    (all_stops (n - 1) (by omega) (w.heap.size + 1 + 1) g L W0 (by omega) bBs (HS.out.upd U0 (by simp))) Keep2.trans (Keep2.put (by omega) (by omega)) (Below.refl _ _) (fun _ => rfl)
    (fun pre W => Upd [w.heap.size + 1] W0 W ∧ SetIs W (w.heap.size + 1) (nextS p (pre.map Subtype.val)))
    (fun _ _ _ => False)
    (OwnFrom.and ownFrom_upd (ownFrom_set (L := fun pre : List (InL L) => nextS p (pre.map Subtype.val)) (by omega)))
    (fun _ _ _ _ _ hs _ _ => hs)
    ⟨Upd.refl _ _, bS⟩
    (fun x => { tmps := #[.agg #[.slice pa pn pc, .int .i64 p.want, .int .i64 p.join], .pointer (some ⟨g, 0, none⟩), .pointer (some ⟨w.heap.size, 0, none⟩), undef, .pointer none, .pointer (some ⟨w.heap.size + 1, 0, none⟩), .int .i64 x.1, undef, undef, .pointer (some ⟨g, 0, none⟩),
      .func (.func 86) #[] #[.pointer (some ⟨w.heap.size + 1 + 1, 0, none⟩)], .int .i64 x.1, undef, undef, undef, undef, undef, undef, undef, undef, undef, undef, undef, undef, undef, undef, undef], defers := [] }) ?assign ?body ?done ?stop
  case assign =>
    intro l x W K hK
    gi_wp2
    exact hK
  case body =>
    rintro l pre ⟨x, hx⟩ W ⟨hu, hs⟩ hlt
    have hxb := HL0.out x hx
    have hxb2 := HL.out x hx
    have bP' := hide (bP.upd hu (by simp))
    have j0 := bP'.out.cell 0
    have j1 := bP'.out.cell 1
    have j2 := bP'.out.cell 2
    have M := (callsIn_wide (n := n - 1 - 1 - 1)).2 (meets_any p (.slice pa pn pc) x W rfl)
    obtain ⟨m, hm⟩ : ∃ m, meetsS p x = m := ⟨_, rfl⟩
    rw [hm] at M
    have ME := hide (CallsIn.inRound l M)
    have HU := hide hu
    have HS2 := hide hs
    have HM := hide hm
    have hfm : Fence.wide.fn 46 := trivial
    have hfa : Fence.wide.fn 70 := trivial
    have hd : 1 ≤ n - 1 - 1 := by omega
    clear M hm hu hs hxb
    obtain ⟨S0, hS0⟩ : ∃ S0, nextS p (pre.map Subtype.val) = S0 := ⟨_, rfl⟩
    have HE := hide (show nextS p ((pre ++ [(⟨x, hx⟩ : InL L)]).map Subtype.val) = S0 ++ nextS p [x] by rw [List.map_append, nextS_append, hS0]; rfl)
    rw [hS0] at HS2
    clear hS0
    cases m with
    | false =>
      gi_wp2_with (gi_at_call 46; refine ME.out.mono ?_; rintro e W1 ⟨rfl, u1⟩; have U1 := hide u1; clear u1)
      have u2 : Upd [w.heap.size + 1] W W1 := U1.out.mono (by simp)
      refine ⟨u2.keepsFrom (by omega), u2.keep2 (by have := HU.out.size; omega) (by have := HU.out.size; omega) (by omega) (by omega), HU.out.trans u2 (by simp), ?_⟩
      rw [HE.out, nextS_one_no HM.out, List.append_nil]
      exact HS2.out.upd U1.out (by simp)
    | true =>
      gi_wp2_with (gi_at_call 46; refine ME.out.mono ?_; rintro e W1 ⟨rfl, u1⟩; have U1 := hide u1; have i0 := (bP'.out.upd u1 (by simp)).cell 0; clear u1)
      have V1 := hide (HU.out.trans (U1.out.mono (l' := [w.heap.size + 1]) (by simp)) (by simp))
      have S1 := hide (HS2.out.upd U1.out (by simp))
      have hI1 := hide (hI0.upd V1.out (by omega) (by simp; omega)).form.2
      have hlen := hI0.form.1
      have HLEN := hide hlen
      have hpn : pn ≤ 8 := by have := HOK.out.1.2; omega
      clear hlen
      gi_loopw [18] (fun i wr => ∃ (k : Nat) (M : List Int), k ≤ pn ∧ i = .int .i64 k ∧ Hid (Upd [w.heap.size + 1] W1 wr) ∧ Hid (SetIs wr (w.heap.size + 1) M) ∧ Hid (∀ t, t ∈ M ↔ t ∈ S0 ∨ t ∈ (p.lens.take k).map fun n => x + n))
        (fun i _ => pn - (intOf i).toNat)
      case atStart => exact ⟨0, S0, Nat.zero_le _, rfl, Upd.refl _ _, S1, fun t => by simp⟩
      case round =>
        obtain ⟨k, M, hk, rfl, hu2, hs2, hm2⟩ := hrel
        by_cases hlt : k < pn
        · obtain ⟨y, hy⟩ : ∃ y, p.lens[k]? = some y := ⟨_, List.getElem?_eq_getElem (by have := HLEN.out; omega)⟩
          obtain ⟨b, o, rfl, hb, hc⟩ := hI1.out k y hy
          have hc2 := (hu2.out.cell (p := ⟨b, o + k, none⟩) (by have := V1.out.size; have := U0.size; show b < _; omega) (by simp; omega)).trans hc
          have hyb := len_ok HOK.out (List.mem_of_getElem? hy)
          obtain ⟨hy1, hy2⟩ := hyb
          have HY := hide hy
          have hx0 := (HL0.out x hx).1
          have A := (callsIn_wide (n := n - 1 - 1 - 1)).2 (add_any (w.heap.size + 1) M (x + y) wr hs2.out (by omega) (by omega))
          have AD := hide (CallsIn.inRound l A)
          clear hy hc A hb
          gi_wp2_with (gi_at_call 70; refine AD.out.mono ?_; rintro e W3 ⟨rfl, s3, u3⟩; have S3 := hide s3; have U3 := hide u3; clear s3 u3)
          go_roundw
          case rel => exact ⟨k + 1, (x + y) :: M, by omega, by go_num, hu2.out.trans U3.out (by simp), S3, fun t => by
            have e : p.lens.take (k + 1) = p.lens.take k ++ [y] := by rw [List.take_add_one, HY.out]; rfl
            rw [List.mem_cons, hm2.out t, e, List.map_append, List.mem_append]
            simp only [List.map_cons, List.map_nil, List.mem_singleton]
            constructor
            · rintro (h | h | h)
              · exact .inr (.inr h)
              · exact .inl h
              · exact .inr (.inl h)
            · rintro (h | h | h)
              · exact .inr (.inl h)
              · exact .inr (.inr h)
              · exact .inl h⟩
          case measure => simp [intOf] <;> omega
        · obtain rfl : k = pn := by omega
          obtain ⟨wo, rfl⟩ : ∃ wo : World, wo = wr := ⟨_, rfl⟩
          gi_wp2
          have u2 : Upd [w.heap.size + 1] W wo := (U1.out.mono (l' := [w.heap.size + 1]) (by simp)).trans hu2.out (by simp)
          refine ⟨u2.keepsFrom (by omega), u2.keep2 (by have := HU.out.size; omega) (by have := HU.out.size; omega) (by omega) (by omega), HU.out.trans u2 (by simp), ?_⟩
          refine hs2.out.same fun t => ?_
          rw [hm2.out t, HE.out, nextS_one_yes HM.out, List.mem_append, List.take_of_length_le (by have := HLEN.out; omega)]
  case done =>
    rintro D ys W hD hys ⟨hu, hs⟩ hK
    have HU := hide hu
    have HS2 := hide hs
    have HK := hide hK
    clear hu hs hK
    gi_wp2
    refine ⟨by simp, .inl ⟨_, _, rfl, run_takeDeferred HK.out, ?_⟩⟩
    have hD2 : w.heap.size + 3 ≤ D := by omega
    have hlt := (Array.getElem?_eq_some_iff.1 HK.out).1
    have ug : Upd [w.heap.size + 1] W0 (W.putObj D (.deferred none)) := HU.out.grown (grownBy_putObj' W D _) (fun k e => by cases e; right; omega)
    refine ⟨_, results_tmp rfl _ _ _, w.heap.size + 1, rfl, ?_, by omega, ?_⟩
    · have h2 := ownFrom_set (β := List (InL L)) (L := fun pre : List (InL L) => nextS p (pre.map Subtype.val)) (B := w.heap.size + 3) (out := w.heap.size + 1) (by omega) ys W _ (some D) HS2.out (grownBy_putObj' W D (.deferred none)) (fun r e => by cases e; exact ⟨hD2, _, HK.out, rfl⟩)
      refine h2.same fun t => nextS_same (fun u => ?_) t
      have hys' : ys.map Subtype.val = memb L 72001 := hys
      rw [hys', memb_mem HL0.out]
    · exact (U0.mono (l' := [w.heap.size + 1]) (by simp)).trans ug (by simp) |>.toBelow (Nat.le_refl _) (by simp)
  case stop =>
    rintro D c pre W _ _ h _
    exact h.elim
/-- next -/
theorem next_any {n₀ : Nat} (p : Pc) (pa : Option Addr) (pn pc g : Nat) (L : List Int) (w : World) (hI : Ints n₀ w (.slice pa pn pc) p.lens) (hn0 : n₀ ≤ w.heap.size) (hS : SetIs w g L) (hok : PcOk p) (hL : ∀ x ∈ L, x ≤ 68400) :
    Calls Try.prog 42 #[.agg #[.slice pa pn pc, .int .i64 p.want, .int .i64 p.join], .pointer (some ⟨g, 0, none⟩)] w fun e w' => ∃ g', e = .returned (.pointer (some ⟨g', 0, none⟩)) ∧ SetIs w' g' (nextS p L) ∧ w.heap.size ≤ g' ∧ Below w.heap.size w w' :=
  callsIn_wide.1 (next_in 6 (by omega) p pa pn pc g L w hI hn0 hS hok hL)
end Go.Proofs.Yteehjciepccomaa
