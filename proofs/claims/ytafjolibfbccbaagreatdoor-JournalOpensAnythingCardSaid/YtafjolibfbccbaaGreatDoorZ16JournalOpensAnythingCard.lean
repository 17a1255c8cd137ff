/-
  slices.Sort, Compact, DeleteFunc, Sorted, Contains at slices of ints of the call's own.
-/
import Derived.Test.YtafjolibfbccbaaGreatDoorShelf
import Derived.Test.YtafjolibfbccbaaGreatDoorZ15JournalOpensAnythingCard
import Derived.Sort.OwnSortedInts
import Derived.Lib.RowBridge

namespace Go.Proofs.YtafjolibfbccbaaGreatDoor
open Go.RowKit Go.Shelf Go.Sort
set_option maxRecDepth 100000
set_option maxHeartbeats 1000000

/-- The slice value v owns the row of the ints zs. -/
def OwnsInts (w : World) (v : Value) (zs : List Int) : Prop := w.ownsRow 0 3 1 v zs.length (zs.map (Value.int .i64))
theorem OwnsInts.upd {w w' : World} {v : Value} {zs : List Int} {l : List Nat} (h : OwnsInts w v zs) (hu : Upd l w w') (hn : ∀ k, v.ownBlock = some k → k ∉ l) : OwnsInts w' v zs := own_kept h hu hn
theorem OwnsInts.cell {w : World} {g c : Nat} {s : Option Nat} {o n : Nat} {zs : List Int} (h : OwnsInts w (.slice (some ⟨g, o, s⟩) n c) zs) {j : Nat} (hj : j < zs.length) : w.cell? ⟨g, j, none⟩ = some (.int .i64 (zs[j]?.getD 0)) := by
  have := World.ownsRow.cells h (g := g) rfl j (.int .i64 (zs[j]?.getD 0)) (by simp [hj])
  have e : (⟨g, 0, none⟩ : Addr).add j = ⟨g, j, none⟩ := by unfold Addr.add; split <;> simp_all
  rwa [e] at this

theorem put_own {w : World} {g cap q : Nat} {os : Array Obj} {cur : Array Value} {e : TypeId} (ds : List Int) (k : Nat) (hk : k ≤ ds.length) (hb : w.heap[g]? = some (.cells cur e (0, 0))) (h1 : ds.length ≤ cap) (h2 : cap ≤ maxLen) (h3 : cur.size = cap * 1) :
    (grow (putRow (Value.int .i64) (Sort.ahead w q) g 0 ds.toArray) os).ownsRow 0 e 1 (.slice (some ⟨g, 0, none⟩) k cap) k ((ds.take k).map (Value.int .i64)) :=
  ⟨by simp; omega, .inr ⟨g, cap, _, rfl, Nat.zero_le _, heap_sortedI _ hb, by omega, h2, by simp [putCells, h3], by
    have := take_putCellsI cur ds (by omega)
    rw [Nat.mul_one, List.map_take, ← this, List.take_take, Nat.min_eq_left hk]⟩⟩

theorem OwnsInts.cases {w : World} {v : Value} {zs : List Int} (h : OwnsInts w v zs) : (v = .slice none 0 0 ∧ zs = []) ∨
    ∃ g cap cur, v = .slice (some ⟨g, 0, none⟩) zs.length cap ∧ w.heap[g]? = some (.cells cur 3 (0, 0)) ∧ zs.length ≤ cap ∧ cap ≤ maxLen ∧ cur.size = cap * 1 ∧ cur.toList.take zs.length = zs.map (Value.int .i64) := by
  rcases h.2 with ⟨hv, h0⟩ | ⟨g, cap, cur, hv, _, hg, h1, h2, h3, h4⟩
  · exact .inl ⟨hv, List.eq_nil_of_length_eq_zero h0⟩
  · exact .inr ⟨g, cap, cur, hv, hg, h1, h2, h3, by simpa using h4⟩
theorem upd_sorted {w : World} {g n : Nat} {os : Array Obj} (d : Array Int) : Upd [g] w (grow (putRow (Value.int .i64) (Sort.ahead w n) g 0 d) os) := by
  have := grownBy_sortedI (w := w) (g := g) (n := n) (os := os) d
  exact (Upd.refl _ w).grown this (fun k hk => .inl (by cases hk; simp))

/-- slices.Sort -/
theorem sort_own {v : Value} {zs : List Int} (w : World) (hb : zs.length * 8 ≤ 140737488351232) (h : OwnsInts w v zs) :
    Calls Tryz.prog 90 #[v] w fun e w' => e = .returned (.tuple #[]) ∧ OwnsInts w' v (zs.mergeSort fun x y => decide (x ≤ y)) ∧ Upd v.ownBlock.toList w w' := by
  rcases h.cases with ⟨rfl, rfl⟩ | ⟨g, cap, cur, rfl, hg, h1, h2, h3, h4⟩
  · refine (Tryz.slices_Sort_int_none none 0 w).mono ?_
    rintro e w' ⟨rfl, rfl⟩
    exact ⟨rfl, by simpa using h, Upd.refl _ _⟩
  · refine (Tryz.slices_Sort_int g 0 cap zs w (holds_of_blockI hg h4) (Array.getElem?_eq_some_iff.1 hg).1 (by omega)).mono ?_
    rintro e w' ⟨rfl, n, os, rfl⟩
    refine ⟨rfl, ?_, upd_sorted _⟩
    have := put_own (q := n) (os := os) (zs.mergeSort fun x y => decide (x ≤ y)) (zs.mergeSort fun x y => decide (x ≤ y)).length (Nat.le_refl _) hg (by simpa using h1) h2 h3
    rw [List.take_length] at this
    simp only [List.length_mergeSort] at this
    unfold OwnsInts
    simp only [List.length_mergeSort]
    exact this

/-- slices.Sorted(slices.Values(s)) -/
theorem sorted_any (Bs : Nat) (sv : Value) (zs : List Int) (hbytes : zs.length * 8 ≤ 140737488351232) (w : World) (hBs : Bs < w.heap.size)
    (hcs : w.cell? ⟨Bs, 0, none⟩ = some sv) (hI : Ints w.heap.size w sv zs) :
    Calls Tryz.prog 61 #[.func (.func 91) #[] #[.pointer (some ⟨Bs, 0, none⟩)]] w fun e w' => ∃ v, e = .returned v ∧ OwnsInts w' v (zs.mergeSort fun x y => decide (x ≤ y)) ∧ Below w.heap.size w w' ∧ ∀ k, v.ownBlock = some k → w.heap.size ≤ k := by
  have C := hide (collect_any Bs sv zs hbytes w hBs hcs hI)
  clear hcs hI
  go_enter Tryz.func61, Tryz.ntmps61
  go_wp2_with (go_at_call 89; refine C.out.mono ?_; rintro e w1 ⟨v, rfl, h1, b1⟩)
  have hv : ∀ k, v.ownBlock = some k → w.heap.size ≤ k := fun k hk => (h1.lt k hk).1
  have ho : OwnsInts w1 v zs := ⟨h1.1, h1.2.imp id fun ⟨g, cap, cur, a, _, b⟩ => ⟨g, cap, cur, a, Nat.zero_le _, b⟩⟩
  have S := hide (sort_own w1 hbytes ho)
  have Hv := hide hv
  have B1 := hide b1
  clear h1 ho hv b1 C
  go_wp2_with (go_at_call 90; refine S.out.mono ?_; rintro e w' ⟨rfl, h2, u2⟩)
  go_ret
  refine ⟨v, rfl, h2, B1.out.trans (u2.toBelow B1.out.size (fun x hx => Hv.out x (by simpa using hx))), Hv.out⟩

/-- slices.Compact -/
theorem compact_own {v : Value} {zs : List Int} (w : World) (h : OwnsInts w v zs) :
    Calls Tryz.prog 60 #[v] w fun e w' => ∃ v', e = .returned v' ∧ OwnsInts w' v' (Lib.compact zs) ∧ v'.ownBlock = v.ownBlock ∧ Upd v.ownBlock.toList w w' := by
  rcases h.cases with ⟨rfl, rfl⟩ | ⟨g, cap, cur, rfl, hg, h1, h2, h3, h4⟩
  · refine (Tryz.slices_Compact_int_empty none 0 w).mono ?_
    rintro e w' ⟨rfl, rfl⟩
    exact ⟨_, rfl, h, rfl, Upd.refl _ _⟩
  · refine (Tryz.slices_Compact_int g 0 cap zs w (holds_of_blockI hg h4) (by unfold maxLen at h2; omega) h1).mono ?_
    rintro e w' ⟨rfl, q, rfl⟩
    have hl := Lib.compact_length_le zs
    have := put_own (q := q) (os := #[]) (Lib.compact zs ++ List.replicate (zs.length - (Lib.compact zs).length) 0) (Lib.compact zs).length (by simp) hg (by simp; omega) h2 h3
    rw [List.take_left, grow_empty] at this
    refine ⟨_, rfl, this, rfl, ?_⟩
    have hu := upd_sorted (w := w) (g := g) (n := q) (os := #[]) (Lib.compact zs ++ List.replicate (zs.length - (Lib.compact zs).length) 0).toArray
    rw [grow_empty] at hu
    exact hu

/-- slices.DeleteFunc -/
theorem delete_own {v : Value} {zs : List Int} (w : World) (h : OwnsInts w v zs) (p : Int → Bool) (g : Nat) (lb : Array Value) (eg : ∀ args w, (callFunc g args).run Tryz.prog w = .ok (.enter g args) w) (hp : PredAt Tryz.prog g lb (Value.int .i64) p w)
    (hpo : ∀ blk, v.ownBlock = some blk → PredOver Tryz.prog g lb (Value.int .i64) p blk 0 zs.length w) (hnil : Calls Tryz.prog 63 #[.slice none 0 0, .func (.func g) #[] lb] w fun e w' => e = .returned (.slice none 0 0) ∧ ∃ q, w' = w.drewN q) :
    Calls Tryz.prog 63 #[v, .func (.func g) #[] lb] w fun e w' => ∃ v', e = .returned v' ∧ OwnsInts w' v' (zs.filter fun x => !p x) ∧ v'.ownBlock = v.ownBlock ∧ Upd v.ownBlock.toList w w' := by
  rcases h.cases with ⟨rfl, rfl⟩ | ⟨g', cap, cur, rfl, hg, h1, h2, h3, h4⟩
  · refine hnil.mono ?_
    rintro e w' ⟨rfl, q, rfl⟩
    exact ⟨_, rfl, h, rfl, (Upd.refl _ _).drewN q⟩
  · have hz : (zs.toArray.toList.filter fun x => !p x).length ≤ zs.length := by simpa using List.length_filter_le _ _
    have hc := Tryz.slices_DeleteFunc (Value.int .i64) (fun _ => rfl) p g lb eg 0 Tryz.zeroValue3 g' 0 cap zs.toArray w hp (by simpa using hpo g' rfl) (holds_of_blockI hg h4) (by simp; unfold maxLen at h2; omega) (by simpa using h1)
    simp only [List.size_toArray] at hc
    refine hc.mono ?_
    rintro e w' ⟨rfl, q, rfl⟩
    simp only at hz
    have := put_own (q := q) (os := #[]) ((zs.filter fun x => !p x) ++ List.replicate (zs.length - (zs.filter fun x => !p x).length) 0) (zs.filter fun x => !p x).length (by simp) hg (by simp; omega) h2 h3
    rw [List.take_left, grow_empty] at this
    refine ⟨_, rfl, this, rfl, ?_⟩
    have hu := upd_sorted (w := w) (g := g') (n := q) (os := #[]) ((zs.filter fun x => !p x) ++ List.replicate (zs.length - (zs.filter fun x => !p x).length) 0).toArray
    rw [grow_empty] at hu
    exact hu

end Go.Proofs.YtafjolibfbccbaaGreatDoor
