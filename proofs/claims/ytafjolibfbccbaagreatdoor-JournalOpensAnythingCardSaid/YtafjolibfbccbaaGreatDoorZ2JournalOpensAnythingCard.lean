/-
  Plain words on worlds: which blocks a step may turn (Upd), a block known whole (Blk).
  append from a slice that may be nil, onto a row of the call's own.
-/
import Derived.WalkKit
import Derived.Deep.Draws
import Derived.Laws.CopyOwn
import Derived.Maps.AppendAt
import Derived.Lib.BufferWrite

namespace Go.Proofs.YtafjolibfbccbaaGreatDoor
open Go.RowKit

theorem hide {p : Prop} (h : p) : Hid p := h

/-- Only the blocks of 'l', and new ones, may have turned. -/
structure Upd (l : List Nat) (w w' : World) : Prop where
  os : w'.os = w.os
  tape : w'.tape = w.tape
  output : w'.output = w.output
  size : w.heap.size ≤ w'.heap.size
  block : ∀ k, k < w.heap.size → k ∉ l → w'.heap[k]? = w.heap[k]?

theorem Upd.refl (l : List Nat) (w : World) : Upd l w w := ⟨rfl, rfl, rfl, Nat.le_refl _, fun _ _ _ => rfl⟩
theorem Upd.trans {l l' : List Nat} {a b c : World} (h : Upd l a b) (k : Upd l' b c) (hs : ∀ x ∈ l', x ∈ l ∨ a.heap.size ≤ x) : Upd l a c :=
  ⟨k.os.trans h.os, k.tape.trans h.tape, k.output.trans h.output, Nat.le_trans h.size k.size, fun i hi hn =>
    (k.block i (Nat.lt_of_lt_of_le hi h.size) (fun hm => by
      rcases hs i hm with hx | hx
      · exact hn hx
      · omega)).trans (h.block i hi hn)⟩
theorem Upd.mono {l l' : List Nat} {a b : World} (h : Upd l a b) (hs : ∀ x ∈ l, x ∈ l' ∨ a.heap.size ≤ x) : Upd l' a b :=
  (Upd.refl l' a).trans h hs
theorem Upd.drew {l : List Nat} {a w : World} (h : Upd l a w) : Upd l a w.drew := ⟨h.os, h.tape, h.output, h.size, h.block⟩
theorem Upd.drewN {l : List Nat} {a w : World} (h : Upd l a w) (n : Nat) : Upd l a (w.drewN n) := ⟨h.os, h.tape, h.output, h.size, h.block⟩
theorem Upd.alloc {l : List Nat} {a w : World} (h : Upd l a w) (o : Obj) : Upd l a (w.alloc o) :=
  ⟨h.os, h.tape, h.output, Nat.le_trans h.size (by simp), fun i hi hn => (Below.heap_alloc w o i (Nat.lt_of_lt_of_le hi h.size)).trans (h.block i hi hn)⟩
theorem Upd.setCell {l : List Nat} {a w : World} (h : Upd l a w) {p : Addr} (hp : p.block ∈ l ∨ a.heap.size ≤ p.block) (u : Value) : Upd l a (w.setCell p u) :=
  ⟨h.os, h.tape, h.output, by simpa [World.setCell] using h.size, fun i hi hn => (Below.heap_setCell w p u i (by
    rintro rfl
    rcases hp with hp | hp
    · exact hn hp
    · omega)).trans (h.block i hi hn)⟩
theorem Upd.setRow {l : List Nat} {a w : World} (h : Upd l a w) {g : Nat} (hp : g ∈ l ∨ a.heap.size ≤ g) (cs : Array Value) : Upd l a (w.setRow g cs) :=
  ⟨h.os, h.tape, h.output, by simpa [World.setRow] using h.size, fun i hi hn => (setRow_other w g i cs (by
    rintro rfl
    rcases hp with hp | hp
    · exact hn hp
    · omega)).trans (h.block i hi hn)⟩
theorem Upd.grown {l : List Nat} {a w w' : World} {row : Option Nat} (h : Upd l a w) (hg : w.grownBy w' row) (hr : ∀ k, row = some k → k ∈ l ∨ a.heap.size ≤ k) : Upd l a w' :=
  ⟨hg.os.trans h.os, hg.tape.trans h.tape, hg.output.trans h.output, Nat.le_trans h.size hg.size, fun i hi hn =>
    (hg.block i (Nat.lt_of_lt_of_le hi h.size) (fun e => by
      rcases hr i e.symm with hx | hx
      · exact hn hx
      · omega)).trans (h.block i hi hn)⟩
theorem Upd.below {l : List Nat} {a w w' : World} (h : Upd l a w) (hb : Below w.heap.size w w') : Upd l a w' :=
  ⟨hb.os.trans h.os, hb.tape.trans h.tape, hb.output.trans h.output, Nat.le_trans h.size hb.size, fun i hi hn =>
    (hb.block i (Nat.lt_of_lt_of_le hi h.size)).trans (h.block i hi hn)⟩
theorem Upd.toBelow {l : List Nat} {B : Nat} {a w : World} (h : Upd l a w) (hB : B ≤ a.heap.size) (hl : ∀ x ∈ l, B ≤ x) : Below B a w :=
  ⟨h.os, h.tape, h.output, h.size, fun k hk => h.block k (by omega) (fun hm => by have := hl k hm; omega)⟩
theorem Upd.cell {l : List Nat} {w w' : World} (h : Upd l w w') {p : Addr} (hp : p.block < w.heap.size) (hn : p.block ∉ l) : w'.cell? p = w.cell? p := World.cell?_of_block (w := w) (h.block p.block hp hn)

/-- A block known whole. -/
def Blk (w : World) (g : Nat) (t : TypeId) (cs : List Value) : Prop := w.heap[g]? = some (.cells cs.toArray t (0, 0))

section
variable {w w' : World} {g : Nat} {t : TypeId} {cs : List Value}
theorem Blk.lt (h : Blk w g t cs) : g < w.heap.size := by
  rcases Nat.lt_or_ge g w.heap.size with hlt | hge
  · exact hlt
  · unfold Blk at h; rw [Array.getElem?_eq_none hge] at h; cases h
theorem Blk.cell (h : Blk w g t cs) (i : Nat) : w.cell? ⟨g, i, none⟩ = cs[i]? := by
  rw [cell_of_row w g i cs.toArray t (0, 0) h]; simp
theorem Blk.frozen (h : Blk w g t cs) (i : Nat) : w.frozen? ⟨g, i, none⟩ = false := by
  unfold Blk at h
  simp [World.frozen?, h]
theorem Blk.new (w : World) (t : TypeId) (cs : List Value) : Blk (w.alloc (.cells cs.toArray t)) w.heap.size t cs := heap_alloc_new w _
theorem Blk.drew (h : Blk w g t cs) : Blk w.drew g t cs := h
theorem Blk.drewN (h : Blk w g t cs) (n : Nat) : Blk (w.drewN n) g t cs := h
theorem Blk.alloc (h : Blk w g t cs) (o : Obj) : Blk (w.alloc o) g t cs := (Below.heap_alloc w o g h.lt).trans h
theorem Blk.set_ (h : Blk w g t cs) (i : Nat) (u : Value) : Blk (w.setCell ⟨g, i, none⟩ u) g t (cs.set i u) := by
  unfold Blk at h ⊢
  simp [World.setCell, Array.getElem?_modify, h]
theorem Blk.far (h : Blk w g t cs) {p : Addr} (hp : g ≠ p.block) (u : Value) : Blk (w.setCell p u) g t cs := (Below.heap_setCell w p u g hp).trans h
theorem Blk.setRow (h : Blk w g t cs) (cs' : List Value) : Blk (w.setRow g cs'.toArray) g t cs' := setRow_heap w g _ _ t _ h
theorem Blk.farRow (h : Blk w g t cs) {p : Nat} (hp : g ≠ p) (cs' : Array Value) : Blk (w.setRow p cs') g t cs := (setRow_other w p g cs' hp).trans h
theorem Blk.below {B : Nat} (h : Blk w g t cs) (hb : Below B w w') (hg : g < B) : Blk w' g t cs := (hb.block g hg).trans h
theorem Blk.grown {row : Option Nat} (h : Blk w g t cs) (hb : w.grownBy w' row) (hg : some g ≠ row) : Blk w' g t cs := (hb.block g h.lt hg).trans h
theorem Blk.upd {l : List Nat} (h : Blk w g t cs) (hb : Upd l w w') (hg : g ∉ l) : Blk w' g t cs := (hb.block g h.lt hg).trans h
theorem Blk.ne_ {g' : Nat} {t' : TypeId} {cs' : List Value} (h : Blk w g t cs) (h' : Blk w g' t' cs') (hne : t ≠ t') : g ≠ g' := by
  rintro rfl
  unfold Blk at h h'
  rw [h] at h'
  injection h' with h'
  injection h' with _ ht
  exact hne ht
end
theorem own_kept {base : Nat} {e : TypeId} {size n : Nat} {v : Value} {xs : List Value} {l : List Nat} {w w' : World} (h : w.ownsRow base e size v n xs) (hu : Upd l w w') (hn : ∀ k, v.ownBlock = some k → k ∉ l) : w'.ownsRow base e size v n xs := by
  refine ⟨h.1, ?_⟩
  rcases h.2 with h0 | ⟨g, cap, cur, rfl, hb, hg, rest⟩
  · exact .inl h0
  · exact .inr ⟨g, cap, cur, rfl, hb, (hu.block g (Array.getElem?_eq_some_iff.1 hg).1 (hn g rfl)).trans hg, rest⟩
theorem own_blk_ne {base : Nat} {e t : TypeId} {size n g : Nat} {v : Value} {xs cs : List Value} {w : World} (h : w.ownsRow base e size v n xs) (hg : Blk w g t cs) (hne : e ≠ t) : ∀ k, v.ownBlock = some k → k ≠ g := by
  rintro k hk rfl
  rcases h.2 with ⟨rfl, _⟩ | ⟨g', cap, cur, rfl, _, hh, _⟩
  · simp [Value.ownBlock] at hk
  · have : g' = k := by simpa [Value.ownBlock] using hk
    subst this
    unfold Blk at hg
    rw [hg] at hh
    injection hh with hh
    injection hh with _ ht
    exact hne ht.symm
/-- The cell of a byte. -/
def bCell (b : UInt8) : Value := .int .u8 (b.toNat : Int)
def bCells (l : List UInt8) : List Value := l.map bCell
theorem bCells_lib (l : List UInt8) : Lib.byteCells l = bCells l := rfl
theorem bCells_length (l : List UInt8) : (bCells l).length = l.length := by simp [bCells]
theorem bCells_append (l m : List UInt8) : bCells (l ++ m) = bCells l ++ bCells m := by simp [bCells]
theorem bCells_take (l : List UInt8) (n : Nat) : bCells (l.take n) = (bCells l).take n := by simp [bCells, List.map_take]
theorem bCells_drop (l : List UInt8) (n : Nat) : bCells (l.drop n) = (bCells l).drop n := by simp [bCells, List.map_drop]
theorem ret_eq {a b : Value} (h : a = b) : Ending.returned a = .returned b := by rw [h]

/-- 'copy(dst, s)', s a string that fits. -/
theorem wp_copy_str {P : Program} {w : World} {o : Oper} {a : Act} {K : Act → World → Prop} {Q : Exit → Act → World → Prop} (d s : Operand) (dT sT : TypeId)
    (ho : o.op = .call { callee := .builtin .copy, args := #[d, s], argTypes := #[dT, sT] }) (elem : TypeId) (hu : P.underlying dT = some (.slice elem)) (hsz : (P.info? elem).map (·.size) = some 1)
    (dp : Option Addr) (dLen dCap : Nat) (str : ByteArray) (hd : a.eval d = .slice dp dLen dCap) (hs : a.eval s = .string str)
    (g off : Nat) (cur : List Value) (t : TypeId) (hg : Blk w g t cur) (hpos : 0 < str.size → dp = some ⟨g, off, none⟩ ∧ str.size ≤ dLen ∧ off + str.size ≤ cur.length)
    (h : ∀ w', Blk w' g t (cur.take off ++ (bCells str.data.toList ++ cur.drop (off + str.size))) → Upd [g] w w' → K (a.put o.dst (goInt str.size)) w') : o.wp P a w K Q := by
  by_cases h0 : str.size = 0
  · have hrun := Lib.run_copy_empty_string (P := P) w dT sT o.type elem dp dLen dCap str hu (by rw [hsz]; rfl) h0
    unfold Oper.wp execOp
    simp only [ho, resolve, invoke, builtin, Sem.run_bind, Sem.run_pure, Result.andThen_ok, List.map_toArray, List.map_cons, List.map_nil, hd, hs, hrun]
    have hl : str.data.toList = [] := List.eq_nil_of_length_eq_zero (by rw [← Lib.size_eq]; exact h0)
    have := h w (by simpa [hl, h0, bCells] using hg) (Upd.refl _ _)
    rw [h0] at this
    exact this
  · obtain ⟨rfl, hle, hfit⟩ := hpos (by omega)
    have hrun := Lib.run_copy_row_string (P := P) w dT sT o.type elem g off dLen dCap str cur.toArray t hu hsz hg hle (by simpa using hfit)
    unfold Oper.wp execOp
    simp only [ho, resolve, invoke, builtin, Sem.run_bind, Sem.run_pure, Result.andThen_ok, List.map_toArray, List.map_cons, List.map_nil, hd, hs, hrun]
    refine h _ ?_ ((Upd.refl _ _).setRow (.inl (by simp)) _)
    have := hg.setRow (cur.take off ++ (bCells str.data.toList ++ cur.drop (off + str.size)))
    simpa [bCells_lib] using this
theorem wpList_copy_str {P : Program} {w : World} {ops : Array Oper} {rest : List Oper} {o : Oper} {a : Act} {Q : Exit → Act → World → Prop} (hgd : o.guard = none) (d s : Operand) (dT sT : TypeId)
    (ho : o.op = .call { callee := .builtin .copy, args := #[d, s], argTypes := #[dT, sT] }) (elem : TypeId) (hu : P.underlying dT = some (.slice elem)) (hsz : (P.info? elem).map (·.size) = some 1)
    (dp : Option Addr) (dLen dCap : Nat) (str : ByteArray) (hd : a.eval d = .slice dp dLen dCap) (hs : a.eval s = .string str)
    (g off : Nat) (cur : List Value) (t : TypeId) (hg : Blk w g t cur) (hpos : 0 < str.size → dp = some ⟨g, off, none⟩ ∧ str.size ≤ dLen ∧ off + str.size ≤ cur.length)
    (h : ∀ w', Blk w' g t (cur.take off ++ (bCells str.data.toList ++ cur.drop (off + str.size))) → Upd [g] w w' → wpList P ops Q rest (a.put o.dst (goInt str.size)) w') : wpList P ops Q (o :: rest) a w :=
  wpList_plain hgd fun _ hK => wp_copy_str d s dT sT ho elem hu hsz dp dLen dCap str hd hs g off cur t hg hpos fun w' h1 h2 => hK _ _ (h w' h1 h2)
theorem step_copy_str {P : Program} {ops : Array Oper} {w : World} {o : Oper} {a : Act} {K : Act → World → Prop} {Q : Exit → Act → World → Prop} {E : Prop} (hgd : o.guard = none) (d s : Operand) (dT sT : TypeId)
    (ho : o.op = .call { callee := .builtin .copy, args := #[d, s], argTypes := #[dT, sT] }) (elem : TypeId) (hu : P.underlying dT = some (.slice elem)) (hsz : (P.info? elem).map (·.size) = some 1)
    (dp : Option Addr) (dLen dCap : Nat) (str : ByteArray) (hd : a.eval d = .slice dp dLen dCap) (hs : a.eval s = .string str)
    (g off : Nat) (cur : List Value) (t : TypeId) (hg : Blk w g t cur) (hpos : 0 < str.size → dp = some ⟨g, off, none⟩ ∧ str.size ≤ dLen ∧ off + str.size ≤ cur.length)
    (h : ∀ w', Blk w' g t (cur.take off ++ (bCells str.data.toList ++ cur.drop (off + str.size))) → Upd [g] w w' → K (a.put o.dst (goInt str.size)) w') :
    if Region.wanted o (yielded ops a.tmps) = true then Oper.wp P o a w K Q else E := by
  have hw : Region.wanted o (yielded ops a.tmps) = true := by simp [Region.wanted, hgd]
  rw [if_pos hw]
  exact wp_copy_str d s dT sT ho elem hu hsz dp dLen dCap str hd hs g off cur t hg hpos h
/-- 'copy(dst, src)', both whole rows of one length. -/
theorem wpList_copy_rows {P : Program} {w : World} {ops : Array Oper} {rest : List Oper} {o : Oper} {a : Act} {Q : Exit → Act → World → Prop} (hgd : o.guard = none) (d s : Operand) (dT sT : TypeId)
    (ho : o.op = .call { callee := .builtin .copy, args := #[d, s], argTypes := #[dT, sT] }) (elem : TypeId) (hu : P.underlying dT = some (.slice elem)) (hsz : (P.info? elem).map (·.size) = some 1)
    (g g' n c c' : Nat) (hd : a.eval d = .slice (some ⟨g, 0, none⟩) n c) (hs : a.eval s = .slice (some ⟨g', 0, none⟩) n c')
    (cur cs : List Value) (t t' : TypeId) (hg : Blk w g t cur) (hg' : Blk w g' t' cs) (hn : cur.length = n) (hn' : cs.length = n) (h1 : ∀ v ∈ cs, v.oneCell' = true)
    (h : ∀ w', Blk w' g t cs → Upd [g] w w' → wpList P ops Q rest (a.put o.dst (goInt n)) w') : wpList P ops Q (o :: rest) a w := by
  refine wpList_plain hgd fun K hK => ?_
  have hrun := run_copy_row (P := P) w dT sT o.type elem g 0 n c ⟨g', 0, none⟩ n c' cur.toArray t cs hu hsz hg (by rw [hn']; exact (Nat.min_self n).symm)
    (fun j v hj => by
      have e : (⟨g', 0, none⟩ : Addr).add j = ⟨g', j, none⟩ := by unfold Addr.add; split <;> simp_all
      rw [e, hg'.cell, hj]) (by simp; omega) h1
  unfold Oper.wp execOp
  simp only [ho, resolve, invoke, builtin, Sem.run_bind, Sem.run_pure, Result.andThen_ok, List.map_toArray, List.map_cons, List.map_nil, hd, hs, hrun]
  rw [hn']
  refine hK _ _ (h _ ?_ ((Upd.refl _ _).setRow (.inl (by simp)) _))
  have := hg.setRow cs
  have e : cur.toArray.toList.take 0 ++ cs ++ cur.toArray.toList.drop (0 + n) = cs := by simp [List.drop_eq_nil_of_le (show cur.length ≤ n by omega)]
  rw [e]
  exact this

/-- 'clear(xs)' of a row of the call's own. -/
theorem wpList_clear_own {P : Program} {w : World} {ops : Array Oper} {rest : List Oper} {o : Oper} {a : Act} {Q : Exit → Act → World → Prop} (hgd : o.guard = none) (d : Operand) (T : TypeId)
    (ho : o.op = .call { callee := .builtin .clear, args := #[d], argTypes := #[T] }) (elem : TypeId) (hu : P.underlying T = some (.slice elem)) (z : Value) (hz : ∀ w, (zeroValue elem).run P w = .ok z w)
    (base size n c : Nat) (A : Option Addr) (xs : List Value) (hzs : z.cells.size = size) (hz1 : ∀ v ∈ z.cells, v.oneCell' = true) (hd : a.eval d = .slice A n c) (hown : w.ownsRow base elem size (.slice A n c) n xs)
    (h : ∀ w', (∃ ys, w'.ownsRow base elem size (.slice A n c) n ys) → Upd (A.map (·.block)).toList w w' → wpList P ops Q rest (a.put o.dst (.tuple #[])) w') : wpList P ops Q (o :: rest) a w := by
  refine wpList_plain hgd fun K hK => ?_
  rcases hown.2 with ⟨hv, rfl⟩ | ⟨g, cap, cur, hv, hb, hg, hnc, hcm, hcs, htk⟩
  · obtain ⟨rfl, _, rfl⟩ : A = none ∧ 0 = 0 ∧ c = 0 := by simpa using hv
    unfold Oper.wp execOp
    simp [ho, resolve, invoke, builtin, hd, Builtin.clear_, run_underlying hu]
    exact hK _ _ (h w ⟨xs, hown⟩ (Upd.refl _ _))
  · obtain ⟨rfl, rfl⟩ : A = some ⟨g, 0, none⟩ ∧ c = cap := by simpa using hv
    by_cases hn : n = 0
    · subst hn
      unfold Oper.wp execOp
      simp [ho, resolve, invoke, builtin, hd, Builtin.clear_, run_underlying hu]
      exact hK _ _ (h w ⟨xs, hown⟩ (Upd.refl _ _))
    · have hlen : (Builtin.zeroCells z.cells n).toList.length = n * size := by rw [Array.length_toList, size_zeroCells, hzs]
      have hbd : n * size ≤ c * size := Nat.mul_le_mul_right _ hnc
      have hone : ∀ v ∈ (Builtin.zeroCells z.cells n).toList, v.oneCell' = true := by
        intro v hv
        rw [Array.mem_toList_iff] at hv
        simp only [Builtin.zeroCells, Array.mem_map, Array.mem_range] at hv
        obtain ⟨j, hj, rfl⟩ := hv
        have hs0 : 0 < z.cells.size := by
          rcases Nat.eq_zero_or_pos z.cells.size with h0 | h0
          · simp [h0] at hj
          · exact h0
        have hm : j % z.cells.size < z.cells.size := Nat.mod_lt _ hs0
        rw [getElem!_pos z.cells _ hm]
        exact hz1 _ (Array.getElem_mem hm)
      have hst := run_storeCells_at P g 0 elem (Builtin.zeroCells z.cells n).toList 0 cur w hg (by rw [hlen]; omega) hone
      obtain ⟨m, rfl⟩ : ∃ m, n = m + 1 := ⟨n - 1, by omega⟩
      unfold Oper.wp execOp
      simp only [ho, resolve, invoke, builtin, Sem.run_bind, Sem.run_pure, Result.andThen_ok, List.map_toArray, List.map_cons, List.map_nil, hd, Builtin.clear_]
      simp [run_underlying hu, hz, hst]
      refine hK _ _ (h _ ⟨(Builtin.zeroCells z.cells (m + 1)).toList, ?_⟩ ((Upd.refl _ _).setRow (.inl (by simp)) _))
      refine ⟨by rw [hlen], .inr ⟨g, c, _, rfl, hb, setRow_heap w g cur _ elem _ hg, hnc, hcm, ?_, ?_⟩⟩
      · simp [hcs, size_zeroCells, hzs]; omega
      · simp [size_zeroCells, hzs]

theorem own_cut0 {w : World} {base size n c : Nat} {e : TypeId} {A : Option Addr} {xs : List Value} (h : w.ownsRow base e size (.slice A n c) n xs) : w.ownsRow base e size (.slice A 0 c) 0 [] := by
  refine ⟨by simp, ?_⟩
  rcases h.2 with ⟨hv, rfl⟩ | ⟨g, cap, cur, hv, hb, hg, hnc, hcm, hcs, htk⟩
  · exact .inl ⟨hv, rfl⟩
  · obtain ⟨rfl, rfl⟩ : A = some ⟨g, 0, none⟩ ∧ c = cap := by simpa using hv
    exact .inr ⟨g, c, cur, rfl, hb, hg, Nat.zero_le _, hcm, hcs, by simp⟩
theorem ownBlock_slice (A : Option Addr) (n c : Nat) : (Value.slice A n c).ownBlock = A.map (·.block) := by cases A <;> rfl
theorem own_form {w : World} {base size n : Nat} {e : TypeId} {v : Value} {xs : List Value} (h : w.ownsRow base e size v n xs) : ∃ A c, v = .slice A n c := by
  rcases h.2 with ⟨hv, rfl⟩ | ⟨g, cap, cur, hv, _⟩
  · exact ⟨none, 0, hv⟩
  · exact ⟨_, _, hv⟩
/-- 'string(b[o:o+k])'. -/
theorem run_conv_bytes {P : Program} {w : World} {g t : Nat} {b : List UInt8} (hb : Blk w g t (bCells b)) (src e dst : TypeId) (hs : P.underlying src = some (.slice e)) (he : P.underlying e = some (.int .u8)) (hd : P.underlying dst = some .string) (o k cap : Nat) (h : o + k ≤ b.length) :
    (convert src dst (.slice (some ⟨g, o, none⟩) k cap)).run P w = .ok (.string ⟨((b.drop o).take k).toArray⟩) w := by
  have hx := run_convert_bytes_arg (P := P) w src e hs he g o k cap (((b.drop o).take k).map fun x => (x.toNat : Int)) (by simp; omega) (fun i hi => by
    rw [hb.cell]
    have e1 : ((b.drop o).take k)[i]? = b[o + i]? := by rw [List.getElem?_take_of_lt hi, List.getElem?_drop]
    have e2 : b[o + i]? = some (b[o + i]'(by omega)) := List.getElem?_eq_getElem (by omega)
    have e3 : (((b.drop o).take k).map fun x : UInt8 => (x.toNat : Int))[i]? = some ((b[o + i]'(by omega)).toNat : Int) := by rw [List.getElem?_map, e1, e2]; rfl
    rw [List.getD, e3, bCells, List.getElem?_map, e2]
    rfl) dst hd
  rw [hx]
  congr 2
  apply ByteArray.ext
  apply Array.toList_inj.1
  rw [strOfNums_data, List.map_map]
  show _ = (b.drop o).take k
  conv => rhs; rw [← List.map_id ((b.drop o).take k)]
  apply List.map_congr_left
  intro x _
  simp
theorem run_conv_bytes_if {P : Program} {w : World} {g t : Nat} {b : List UInt8} (hb : Blk w g t (bCells b)) (src e dst : TypeId) (hs : P.underlying src = some (.slice e)) (he : P.underlying e = some (.int .u8)) (hd : P.underlying dst = some .string) (n o k cap : Nat) (hn : b.length = n) (ho : o ≤ n) (h : k ≤ n - o) :
    (convert src dst (.slice (if n = o then some ⟨g, 0, none⟩ else some ⟨g, o, none⟩) k cap)).run P w = .ok (.string ⟨((b.drop o).take k).toArray⟩) w := by
  subst hn
  split
  · rename_i e
    subst e
    have hk : k = 0 := by omega
    subst hk
    have := run_conv_bytes hb src e dst hs he hd 0 0 cap (by omega)
    simpa using this
  · exact run_conv_bytes hb src e dst hs he hd o k cap (by omega)
/-- append to a row of the call's own. -/
theorem wp_append_row {P : Program} {w : World} {o : Oper} {a : Act} {K : Act → World → Prop} {Q : Exit → Act → World → Prop} (s x : Operand) (t : TypeId)
    (ho : o.op = .call { callee := .builtin .append, args := #[s, x], argTypes := #[t, t] })
    (e : TypeId) (z : Value) (size bytes : Nat) (ht : P.underlying t = some (.slice e)) (hinfo : (P.info? e).map (fun i => (i.zero, i.size, i.bytes)) = some (some z, size, bytes)) (hzs : z.cells.size = size) (hsz : 0 < size)
    (A : Option Addr) (n c : Nat) (xs : List Value) (hs : a.eval s = .slice A n c) (hown : w.ownsRow 0 e size (.slice A n c) n xs)
    (ad : Addr) (m cc : Nat) (news : List Value) (hx : a.eval x = .slice (some ad) m cc) (hl : news.length = m * size) (hnews : ∀ j u, news[j]? = some u → w.cell? (ad.add j) = some u) (h1 : ∀ u ∈ news, u.oneCell' = true)
    (h63 : n + m ≤ maxLen) (hbytes : (n + m) * bytes ≤ 140737488355328)
    (h : ∀ A' c' w', w'.ownsRow 0 e size (.slice A' (n + m) c') (n + m) (xs ++ news) → Upd (A.map (·.block)).toList w w' → (A'.map (·.block) = A.map (·.block) ∨ A'.map (·.block) = some w.heap.size) → K (a.put o.dst (.slice A' (n + m) c')) w') : o.wp P a w K Q := by
  obtain ⟨i, hi, hz, hs1, hb1⟩ := info_parts hinfo
  obtain ⟨v', w', hr, h2, h3, _, h5⟩ := run_append_own_at (P := P) w 0 t o.type e i z size bytes ht hi hz hs1 hb1 hzs hsz _ n xs hown ad m cc news hl hnews h1 h63 hbytes (Nat.zero_le _)
  unfold Oper.wp execOp
  simp only [ho, resolve, invoke, builtin, Sem.run_bind, Sem.run_pure, Result.andThen_ok, List.map_toArray, List.map_cons, List.map_nil, hs, hx, hr]
  obtain ⟨A', c', rfl⟩ : ∃ A' c', v' = .slice A' (n + m) c' := by
    rcases h2.2 with ⟨hv, h0⟩ | ⟨g, cap, cur, hv, _⟩
    · exact ⟨none, 0, by rw [h0]; exact hv⟩
    · exact ⟨_, _, hv⟩
  rw [ownBlock_slice] at h3 h5
  rw [ownBlock_slice] at h5
  exact h A' c' w' h2 ((Upd.refl _ w).grown h3 (fun k hk => .inl (by rw [hk]; simp))) h5
theorem wpList_append_row {P : Program} {w : World} {ops : Array Oper} {rest : List Oper} {o : Oper} {a : Act} {Q : Exit → Act → World → Prop} (hgd : o.guard = none) (s x : Operand) (t : TypeId)
    (ho : o.op = .call { callee := .builtin .append, args := #[s, x], argTypes := #[t, t] })
    (e : TypeId) (z : Value) (size bytes : Nat) (ht : P.underlying t = some (.slice e)) (hinfo : (P.info? e).map (fun i => (i.zero, i.size, i.bytes)) = some (some z, size, bytes)) (hzs : z.cells.size = size) (hsz : 0 < size)
    (A : Option Addr) (n c : Nat) (xs : List Value) (hs : a.eval s = .slice A n c) (hown : w.ownsRow 0 e size (.slice A n c) n xs)
    (ad : Addr) (m cc : Nat) (news : List Value) (hx : a.eval x = .slice (some ad) m cc) (hl : news.length = m * size) (hnews : ∀ j u, news[j]? = some u → w.cell? (ad.add j) = some u) (h1 : ∀ u ∈ news, u.oneCell' = true)
    (h63 : n + m ≤ maxLen) (hbytes : (n + m) * bytes ≤ 140737488355328)
    (h : ∀ A' c' w', w'.ownsRow 0 e size (.slice A' (n + m) c') (n + m) (xs ++ news) → Upd (A.map (·.block)).toList w w' → (A'.map (·.block) = A.map (·.block) ∨ A'.map (·.block) = some w.heap.size) → wpList P ops Q rest (a.put o.dst (.slice A' (n + m) c')) w') : wpList P ops Q (o :: rest) a w :=
  wpList_plain hgd fun _ hK => wp_append_row s x t ho e z size bytes ht hinfo hzs hsz A n c xs hs hown ad m cc news hx hl hnews h1 h63 hbytes fun A' c' w' k1 k2 k3 => hK _ _ (h A' c' w' k1 k2 k3)
theorem step_append_row {P : Program} {ops : Array Oper} {w : World} {o : Oper} {a : Act} {K : Act → World → Prop} {Q : Exit → Act → World → Prop} {E : Prop} (hgd : o.guard = none) (s x : Operand) (t : TypeId)
    (ho : o.op = .call { callee := .builtin .append, args := #[s, x], argTypes := #[t, t] })
    (e : TypeId) (z : Value) (size bytes : Nat) (ht : P.underlying t = some (.slice e)) (hinfo : (P.info? e).map (fun i => (i.zero, i.size, i.bytes)) = some (some z, size, bytes)) (hzs : z.cells.size = size) (hsz : 0 < size)
    (A : Option Addr) (n c : Nat) (xs : List Value) (hs : a.eval s = .slice A n c) (hown : w.ownsRow 0 e size (.slice A n c) n xs)
    (ad : Addr) (m cc : Nat) (news : List Value) (hx : a.eval x = .slice (some ad) m cc) (hl : news.length = m * size) (hnews : ∀ j u, news[j]? = some u → w.cell? (ad.add j) = some u) (h1 : ∀ u ∈ news, u.oneCell' = true)
    (h63 : n + m ≤ maxLen) (hbytes : (n + m) * bytes ≤ 140737488355328)
    (h : ∀ A' c' w', w'.ownsRow 0 e size (.slice A' (n + m) c') (n + m) (xs ++ news) → Upd (A.map (·.block)).toList w w' → (A'.map (·.block) = A.map (·.block) ∨ A'.map (·.block) = some w.heap.size) → K (a.put o.dst (.slice A' (n + m) c')) w') :
    if Region.wanted o (yielded ops a.tmps) = true then Oper.wp P o a w K Q else E := by
  have hw : Region.wanted o (yielded ops a.tmps) = true := by simp [Region.wanted, hgd]
  rw [if_pos hw]
  exact wp_append_row s x t ho e z size bytes ht hinfo hzs hsz A n c xs hs hown ad m cc news hx hl hnews h1 h63 hbytes h
/-- append to a row of the call's own, told from a base on. -/
theorem wpList_append_base {P : Program} {w : World} {ops : Array Oper} {rest : List Oper} {o : Oper} {a : Act} {Q : Exit → Act → World → Prop} (hgd : o.guard = none) (s x : Operand) (t : TypeId)
    (ho : o.op = .call { callee := .builtin .append, args := #[s, x], argTypes := #[t, t] })
    (base : Nat) (e : TypeId) (z : Value) (size bytes : Nat) (ht : P.underlying t = some (.slice e)) (hinfo : (P.info? e).map (fun i => (i.zero, i.size, i.bytes)) = some (some z, size, bytes)) (hzs : z.cells.size = size) (hsz : 0 < size)
    (A : Option Addr) (n c : Nat) (xs : List Value) (hs : a.eval s = .slice A n c) (hown : w.ownsRow base e size (.slice A n c) n xs)
    (ad : Addr) (m cc : Nat) (news : List Value) (hx : a.eval x = .slice (some ad) m cc) (hl : news.length = m * size) (hnews : ∀ j u, news[j]? = some u → w.cell? (ad.add j) = some u) (h1 : ∀ u ∈ news, u.oneCell' = true)
    (h63 : n + m ≤ maxLen) (hbytes : (n + m) * bytes ≤ 140737488355328) (hbase : base ≤ w.heap.size)
    (h : ∀ A' c' w', w'.ownsRow base e size (.slice A' (n + m) c') (n + m) (xs ++ news) → Upd (A.map (·.block)).toList w w' → (A'.map (·.block) = A.map (·.block) ∨ A'.map (·.block) = some w.heap.size) → wpList P ops Q rest (a.put o.dst (.slice A' (n + m) c')) w') : wpList P ops Q (o :: rest) a w := by
  refine wpList_plain hgd fun K hK => ?_
  obtain ⟨i, hi, hz, hs1, hb1⟩ := info_parts hinfo
  obtain ⟨v', w', hr, h2, h3, _, h5⟩ := run_append_own_at (P := P) w base t o.type e i z size bytes ht hi hz hs1 hb1 hzs hsz _ n xs hown ad m cc news hl hnews h1 h63 hbytes hbase
  unfold Oper.wp execOp
  simp only [ho, resolve, invoke, builtin, Sem.run_bind, Sem.run_pure, Result.andThen_ok, List.map_toArray, List.map_cons, List.map_nil, hs, hx, hr]
  obtain ⟨A', c', rfl⟩ : ∃ A' c', v' = .slice A' (n + m) c' := by
    rcases h2.2 with ⟨hv, h0⟩ | ⟨g, cap, cur, hv, _⟩
    · exact ⟨none, 0, by rw [h0]; exact hv⟩
    · exact ⟨_, _, hv⟩
  rw [ownBlock_slice] at h3 h5
  rw [ownBlock_slice] at h5
  exact hK _ _ (h A' c' w' h2 ((Upd.refl _ w).grown h3 (fun k hk => .inl (by rw [hk]; simp))) h5)
/-- One element of two cells in a new block. -/
theorem cell_two_new (w : World) (x y : Value) (t : TypeId) : ∀ j u, [x, y][j]? = some u → (w.alloc (.cells #[x, y] t)).cell? ((⟨w.heap.size, 0, none⟩ : Addr).add j) = some u := by
  intro j u hj
  have e : (⟨w.heap.size, 0, none⟩ : Addr).add j = ⟨w.heap.size, j, none⟩ := by unfold Addr.add; split <;> simp_all
  rw [e, World.cell?_alloc_at _ _ _ _ rfl]
  simpa using hj
end Go.Proofs.YtafjolibfbccbaaGreatDoor

namespace Go.Proofs.YtafjolibfbccbaaGreatDoor
open Go.RowKit

theorem run_append_of_nil {P : Program} (w : World) (base : Nat) (t ty e : TypeId) (i : TypeInfo) (size : Nat) (ht : P.underlying t = some (.slice e)) (hi : P.info? e = some i)
    (v : Value) (n : Nat) (xs : List Value) (hown : w.ownsRow base e size v n xs) (c : Nat) : (Builtin.append_ #[t, t] ty #[v, .slice none 0 c]).run P w = .ok v w := by
  rcases hown.2 with ⟨rfl, rfl⟩ | ⟨g, cap, cur, rfl, _, _, hnc, _⟩
  · simp [Builtin.append_, run_underlying ht, sizeOf, typeInfo, hi, Builtin.lenOf, Builtin.firstCells]
  · simp [Builtin.append_, run_underlying ht, sizeOf, typeInfo, hi, Builtin.lenOf, Builtin.firstCells, hnc, storeCells]

theorem wpList_append_src {P : Program} {w : World} {ops : Array Oper} {rest : List Oper} {o : Oper} {a : Act} {Q : Exit → Act → World → Prop} (hgd : o.guard = none) (s x : Operand) (t : TypeId)
    (ho : o.op = .call { callee := .builtin .append, args := #[s, x], argTypes := #[t, t] })
    (base : Nat) (e : TypeId) (z : Value) (size bytes : Nat) (ht : P.underlying t = some (.slice e)) (hinfo : (P.info? e).map (fun i => (i.zero, i.size, i.bytes)) = some (some z, size, bytes)) (hzs : z.cells.size = size) (hsz : 0 < size)
    (A : Option Addr) (n c : Nat) (xs : List Value) (hs : a.eval s = .slice A n c) (hown : w.ownsRow base e size (.slice A n c) n xs)
    (A2 : Option Addr) (m cc : Nat) (news : List Value) (hx : a.eval x = .slice A2 m cc) (hl : news.length = m * size) (hsrc : (A2 = none ∧ m = 0) ∨ ∃ ad, A2 = some ad ∧ ∀ j u, news[j]? = some u → w.cell? (ad.add j) = some u) (h1 : ∀ u ∈ news, u.oneCell' = true)
    (h63 : n + m ≤ maxLen) (hbytes : (n + m) * bytes ≤ 140737488355328) (hbase : base ≤ w.heap.size)
    (h : ∀ A' c' w', w'.ownsRow base e size (.slice A' (n + m) c') (n + m) (xs ++ news) → Upd (A.map (·.block)).toList w w' → (A'.map (·.block) = A.map (·.block) ∨ A'.map (·.block) = some w.heap.size) → wpList P ops Q rest (a.put o.dst (.slice A' (n + m) c')) w') : wpList P ops Q (o :: rest) a w := by
  rcases hsrc with ⟨rfl, rfl⟩ | ⟨ad, rfl, hnews⟩
  · refine wpList_plain hgd fun K hK => ?_
    obtain ⟨i, hi, hz, hs1, hb1⟩ := info_parts hinfo
    have hn : news = [] := List.eq_nil_of_length_eq_zero (by simpa using hl)
    subst hn
    have hr := run_append_of_nil (P := P) w base t o.type e i size ht hi _ n xs hown cc
    unfold Oper.wp execOp
    simp only [ho, resolve, invoke, builtin, Sem.run_bind, Sem.run_pure, Result.andThen_ok, List.map_toArray, List.map_cons, List.map_nil, hs, hx, hr]
    exact hK _ _ (h A c w (by simpa using hown) (Upd.refl _ _) (.inl rfl))
  · exact wpList_append_base hgd s x t ho base e z size bytes ht hinfo hzs hsz A n c xs hs hown ad m cc news hx hl hnews h1 h63 hbytes hbase h

theorem own_new (base : Nat) (w : World) (u : Value) (t : TypeId) (hb : base ≤ w.heap.size) : (w.alloc (.cells #[u] t)).ownsRow base t 1 (.slice (some ⟨w.heap.size, 0, none⟩) 1 1) 1 [u] :=
  ⟨rfl, .inr ⟨w.heap.size, 1, #[u], rfl, hb, heap_alloc_new w _, Nat.le_refl _, by decide, rfl, rfl⟩⟩
theorem own_src {w : World} {base e n c : Nat} {A : Option Addr} {xs : List Value} (h : w.ownsRow base e 1 (.slice A n c) n xs) : (A = none ∧ n = 0) ∨ ∃ ad, A = some ad ∧ ∀ j u, xs[j]? = some u → w.cell? (ad.add j) = some u := by
  rcases h.2 with ⟨hv, h0⟩ | ⟨g, cap, cur, hv, _⟩
  · exact .inl ⟨by injection hv, h0⟩
  · obtain ⟨rfl, rfl⟩ : A = some ⟨g, 0, none⟩ ∧ c = cap := by simpa using hv
    refine .inr ⟨_, rfl, fun j u hj => ?_⟩
    have := World.ownsRow.cells h (g := g) rfl j u (by simpa using hj)
    exact this
end Go.Proofs.YtafjolibfbccbaaGreatDoor
