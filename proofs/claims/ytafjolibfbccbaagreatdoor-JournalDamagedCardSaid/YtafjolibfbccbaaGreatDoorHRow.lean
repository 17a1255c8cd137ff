/-
  A row of bytes that a conversion of a string made, and appends to it.
-/
import Derived.Test.YtafjolibfbccbaaGreatDoorHDig
import Derived.Test.YtafjolibfbccbaaGreatDoorKPut
import Derived.Lib.ConvBytes
import Derived.ArgAppend
namespace Go.Proofs.YtafjolibfbccbaaGreatDoor
open Go.RowKit
set_option maxRecDepth 100000

/-- The row at g holds l, and room behind it; nothing in it is frozen. -/
def BRow (w : World) (g cap : Nat) (l : List Value) : Prop := ∃ cur fr, w.heap[g]? = some (.cells cur 5 fr) ∧ l.length ≤ cap ∧ cap ≤ maxLen ∧ cur.size = cap ∧ (∀ i, i < cap → ¬ (fr.1 ≤ i ∧ i < fr.2)) ∧ cur.toList.take l.length = l
variable {w w' : World} {g cap : Nat} {l : List Value}
theorem BRow.upd {F : List Nat} (h : BRow w g cap l) (hu : Upd F w w') (hg : g ∉ F) : BRow w' g cap l := by
  obtain ⟨cur, fr, h1, h2⟩ := h
  exact ⟨cur, fr, (hu.block g (Array.getElem?_eq_some_iff.1 h1).1 hg).trans h1, h2⟩
theorem BRow.lt (h : BRow w g cap l) : g < w.heap.size := by
  obtain ⟨cur, fr, h1, _⟩ := h
  exact (Array.getElem?_eq_some_iff.1 h1).1
theorem BRow.cap_le (h : BRow w g cap l) : cap ≤ maxLen := by
  obtain ⟨cur, fr, _, _, h1, _⟩ := h
  exact h1
theorem BRow.le (h : BRow w g cap l) : l.length ≤ cap := by
  obtain ⟨cur, fr, _, h1, _⟩ := h
  exact h1
theorem BRow.cell (h : BRow w g cap l) {j : Nat} {u : Value} (hj : l[j]? = some u) : w.cell? ⟨g, j, none⟩ = some u := by
  obtain ⟨cur, fr, h1, _, _, _, _, h5⟩ := h
  have hl := (List.getElem?_eq_some_iff.1 hj).1
  rw [← h5, List.getElem?_take_of_lt hl] at hj
  simp only [World.cell?, h1]
  rw [← Array.getElem?_toList]
  exact hj
theorem BRow.conv (w : World) (s : ByteArray) (hs : s.size ≤ maxLen) : BRow (Lib.bytesWorld w 5 s) w.heap.size (grownCap w s.size 0 5) (bCells s.data.toList) ∧ Upd [] w (Lib.bytesWorld w 5 s) := by
  have hge := grownCap_ge w s.size 0 5
  have hm := grownCap_le_maxLen w s.size 0 5 hs
  have hl : (bCells s.data.toList).length = s.size := by rw [bCells_length]; exact Lib.size_eq s ▸ rfl
  have hsz : (Lib.bytesCells w 5 s).size = grownCap w s.size 0 5 := by
    unfold Lib.bytesCells
    rw [Array.size_append, Array.size_map, Array.size_replicate]
    have e : s.data.size = s.size := rfl
    omega
  refine ⟨⟨_, _, Lib.bytesWorld_at_new w _ s, by rw [hl]; exact hge, hm, hsz, fun i hi h => ?_, ?_⟩, ⟨?_, ?_, ?_, ?_, fun k hk _ => Lib.bytesWorld_at_old w _ s k hk⟩⟩
  · have := h.1
    simp only at this
    omega
  · have e1 : (s.data.map fun b => Value.int .u8 b.toNat).toList.length = s.size := by rw [Array.length_toList, Array.size_map]; rfl
    unfold Lib.bytesCells
    rw [Array.toList_append, List.take_append_of_le_length (by rw [hl, e1]; exact Nat.le_refl _), List.take_of_length_le (by rw [hl, e1]; exact Nat.le_refl _), Array.toList_map]
    rfl
  · unfold Lib.bytesWorld World.freeze
    rw [if_neg (by decide)]
    rfl
  · unfold Lib.bytesWorld World.freeze
    rw [if_neg (by decide)]
    rfl
  · unfold Lib.bytesWorld World.freeze
    rw [if_neg (by decide)]
    rfl
  · rw [Lib.bytesWorld_size]; omega
theorem run_append_brow (w : World) {g cap n : Nat} {l : List Value} (t ty : TypeId) (ht : Tryz.prog.underlying t = some (.slice 5)) (h : BRow w g cap l) (hn : l.length = n) (ad : Addr) (c : Nat) (x : Int) (hx : w.cell? (ad.add 0) = some (.int .u8 x)) (hl : n + 1 ≤ 1000000000000) :
    ∃ g' c' w', (Builtin.append_ #[t, t] ty #[.slice (some ⟨g, 0, none⟩) n cap, .slice (some ad) 1 c]).run Tryz.prog w = .ok (.slice (some ⟨g', 0, none⟩) (n + 1) c') w' ∧ BRow w' g' c' (l ++ [.int .u8 x]) ∧ Upd [g] w w' ∧ (g' = g ∨ w.heap.size ≤ g') := by
  obtain ⟨i, hi, hz, hs1, hb1⟩ := info_parts it_info_byte
  have hnews : ∀ j u, [Value.int .u8 x][j]? = some u → w.cell? (ad.add j) = some u := by
    intro j u hj
    match j, hj with
    | 0, hj => cases hj; exact hx
    | j + 1, hj => cases hj
  by_cases hr : n + 1 ≤ cap
  · obtain ⟨cur, fr, h1, h2, h3, h4, h5, h6⟩ := h
    have hcs : ∀ j, j < [Value.int .u8 x].length → (w.cell? ⟨g, 0 + n * i.size + j, none⟩).isSome = true := by
      intro j hj
      obtain rfl : j = 0 := by simpa using hj
      rw [hs1]
      simp only [World.cell?, h1, Nat.zero_add, Nat.mul_one, Nat.add_zero]
      rw [Array.getElem?_eq_getElem (by omega)]
      rfl
    have hfs : ∀ j, j < [Value.int .u8 x].length → w.frozen? ⟨g, 0 + n * i.size + j, none⟩ = false := by
      intro j hj
      obtain rfl : j = 0 := by simpa using hj
      rw [hs1]
      simp only [World.frozen?, h1, Nat.zero_add, Nat.mul_one, Nat.add_zero]
      have := h5 n (by omega)
      simpa using this
    have hrun := run_append_room_cells (P := Tryz.prog) (w := w) t ty 5 i ht hi g 0 n cap ad 1 c [.int .u8 x] (by rw [hs1]; rfl) hnews (by simp [Value.oneCell']) hr hcs hfs
    rw [hs1, Nat.zero_add, Nat.mul_one] at hrun
    have hw : w.setCells g n [.int .u8 x] = w.setCell ⟨g, n, none⟩ (.int .u8 x) := rfl
    rw [hw] at hrun
    refine ⟨g, cap, _, hrun, ⟨cur.setIfInBounds n (.int .u8 x), fr, ?_, by rw [List.length_append, hn]; exact hr, h3, by simpa using h4, h5, ?_⟩, (Upd.refl _ _).setCell (.inl (by simp)) _, .inl rfl⟩
    · simp only [World.setCell]
      rw [Array.getElem?_modify, if_pos rfl, h1]
      rfl
    · rw [List.length_append, List.length_singleton, hn, Array.toList_setIfInBounds, List.take_add_one, List.getElem?_set_self (by rw [Array.length_toList]; omega), List.take_set_of_le (Nat.le_refl _)]
      rw [hn] at h6
      rw [h6]
      rfl
  · obtain ⟨v', w', hrun, hown, hgr⟩ := run_append_arg_grows (P := Tryz.prog) (w := w) t ty 5 i (.int .u8 0) 1 1 ht hi hz hs1 hb1 rfl (by decide) ⟨g, 0, none⟩ n cap l (by omega) (fun j u hj => by
      have e : (⟨g, 0, none⟩ : Addr).add j = ⟨g, j, none⟩ := by unfold Addr.add; split <;> simp_all
      rw [e]
      exact h.cell hj) ad 1 c [.int .u8 x] rfl hnews (by omega) (by unfold maxLen; omega) (by omega)
    obtain ⟨h1, h2 | ⟨g', cap', cur, rfl, hb, hg, q1, q2, q3, q4⟩⟩ := hown
    · omega
    · refine ⟨g', cap', w', hrun, ⟨cur, (0, 0), hg, by rw [List.length_append, hn]; exact q1, q2, by rw [q3, Nat.mul_one], fun i _ h => by simp at h, ?_⟩, (Upd.refl _ _).grown hgr (fun k hk => by cases hk), .inr hb⟩
      rw [List.length_append, hn]
      simpa using q4
theorem wpListIn_append_brow {F : Fence} {n : Nat} {w : World} {ops : Array Oper} {rest : List Oper} {o : Oper} {a : Act} {Q : Exit → Act → World → Prop}
    (hgd : o.guard = none) (s x : Operand) (t : TypeId) (hop : o.op = Op.call { callee := Callee.builtin Builtin.append, args := #[s, x], argTypes := #[t, t] }) (ht : Tryz.prog.underlying t = some (.slice 5))
    (g cap k : Nat) (l : List Value) (hs : a.eval s = .slice (some ⟨g, 0, none⟩) k cap) (hB : BRow w g cap l) (hk : l.length = k) (ad : Addr) (c : Nat) (y : Int) (hx : a.eval x = .slice (some ad) 1 c) (hc : w.cell? (ad.add 0) = some (.int .u8 y)) (hl : k + 1 ≤ 1000000000000)
    (hK : ∀ g' c' w', BRow w' g' c' (l ++ [.int .u8 y]) → Upd [g] w w' → (g' = g ∨ w.heap.size ≤ g') → wpListIn F n Tryz.prog ops Q rest (a.put o.dst (.slice (some ⟨g', 0, none⟩) (k + 1) c')) w') :
    wpListIn F n Tryz.prog ops Q (o :: rest) a w := by
  refine wpListIn_plain hgd fun K hK' => ?_
  obtain ⟨g', c', w', hrun, r1, r2, r3⟩ := run_append_brow w t o.type ht hB hk ad c y hc hl
  unfold Oper.wpIn
  refine ⟨?_, ?_⟩
  · simp [Oper.about, hop, resolve, Target.leads, Sem.run_pure]
  · rw [Oper.semAt_plain F _ _ (by rw [hop]; intro c hc'; cases hc')]
    simp [execOp, hop, resolve, invoke, builtin, hs, hx, hrun, Result.andThen]
    exact hK' _ _ (hK g' c' w' r1 r2 r3)
end Go.Proofs.YtafjolibfbccbaaGreatDoor
