/-
  A row of bytes that a conversion of a string made, and appends to it.
  slices.Chunk on a row of bytes that holds a whole number of blocks.
-/
import Derived.Test.YtafjolibfbccbaaGreatDoorZ12JournalOpensAnythingCard
import Derived.Test.YtafjolibfbccbaaGreatDoorZ20JournalOpensAnythingCard
import Derived.Lib.ConvBytes
import Derived.ArgAppend

namespace Go.Proofs.YtafjolibfbccbaaGreatDoor
open Go.RowKit
set_option maxRecDepth 100000

/-- The row at g holds l, and room behind it; nothing in it is frozen. -/
def BRow (w : World) (g cap : Nat) (l : List Value) : Prop := ∃ cur fr, w.heap[g]? = some (.cells cur 5 fr) ∧ l.length ≤ cap ∧ cap ≤ maxLen ∧ cur.size = cap ∧ (∀ i, i < cap → ¬ (fr.1 ≤ i ∧ i < fr.2)) ∧ cur.toList.take l.length = l
variable {w w' : World} {g cap : Nat} {l : List Value}
theorem BRow.upd {F : List Nat} (h : BRow w g cap l) (hu : Upd F w w') (hg : g ∉ F) : BRow w' g cap l := by
  obtain ⟨cur, fr, h1, h2⟩ := h
  exact ⟨cur, fr, (hu.block g (Array.getElem?_eq_some_iff.1 h1).1 hg).trans h1, h2⟩
theorem BRow.lt (h : BRow w g cap l) : g < w.heap.size := by
  obtain ⟨cur, fr, h1, _⟩ := h
  exact (Array.getElem?_eq_some_iff.1 h1).1
theorem BRow.cap_le (h : BRow w g cap l) : cap ≤ maxLen := by
  obtain ⟨cur, fr, _, _, h1, _⟩ := h
  exact h1
theorem BRow.le (h : BRow w g cap l) : l.length ≤ cap := by
  obtain ⟨cur, fr, _, h1, _⟩ := h
  exact h1
theorem BRow.cell (h : BRow w g cap l) {j : Nat} {u : Value} (hj : l[j]? = some u) : w.cell? ⟨g, j, none⟩ = some u := by
  obtain ⟨cur, fr, h1, _, _, _, _, h5⟩ := h
  have hl := (List.getElem?_eq_some_iff.1 hj).1
  rw [← h5, List.getElem?_take_of_lt hl] at hj
  simp only [World.cell?, h1]
  rw [← Array.getElem?_toList]
  exact hj
theorem BRow.conv (w : World) (s : ByteArray) (hs : s.size ≤ maxLen) : BRow (Lib.bytesWorld w 5 s) w.heap.size (grownCap w s.size 0 5) (bCells s.data.toList) ∧ Upd [] w (Lib.bytesWorld w 5 s) := by
  have hge := grownCap_ge w s.size 0 5
  have hm := grownCap_le_maxLen w s.size 0 5 hs
  have hl : (bCells s.data.toList).length = s.size := by rw [bCells_length]; exact Lib.size_eq s ▸ rfl
  have hsz : (Lib.bytesCells w 5 s).size = grownCap w s.size 0 5 := by
    unfold Lib.bytesCells
    rw [Array.size_append, Array.size_map, Array.size_replicate]
    have e : s.data.size = s.size := rfl
    omega
  refine ⟨⟨_, _, Lib.bytesWorld_at_new w _ s, by rw [hl]; exact hge, hm, hsz, fun i hi h => ?_, ?_⟩, ⟨?_, ?_, ?_, ?_, fun k hk _ => Lib.bytesWorld_at_old w _ s k hk⟩⟩
  · have := h.1
    simp only at this
    omega
  · have e1 : (s.data.map fun b => Value.int .u8 b.toNat).toList.length = s.size := by rw [Array.length_toList, Array.size_map]; rfl
    unfold Lib.bytesCells
    rw [Array.toList_append, List.take_append_of_le_length (by rw [hl, e1]; exact Nat.le_refl _), List.take_of_length_le (by rw [hl, e1]; exact Nat.le_refl _), Array.toList_map]
    rfl
  · unfold Lib.bytesWorld World.freeze
    rw [if_neg (by decide)]
    rfl
  · unfold Lib.bytesWorld World.freeze
    rw [if_neg (by decide)]
    rfl
  · unfold Lib.bytesWorld World.freeze
    rw [if_neg (by decide)]
    rfl
  · rw [Lib.bytesWorld_size]; omega
theorem run_append_brow (w : World) {g cap n : Nat} {l : List Value} (t ty : TypeId) (ht : Tryz.prog.underlying t = some (.slice 5)) (h : BRow w g cap l) (hn : l.length = n) (ad : Addr) (c : Nat) (x : Int) (hx : w.cell? (ad.add 0) = some (.int .u8 x)) (hl : n + 1 ≤ 1000000000000) :
    ∃ g' c' w', (Builtin.append_ #[t, t] ty #[.slice (some ⟨g, 0, none⟩) n cap, .slice (some ad) 1 c]).run Tryz.prog w = .ok (.slice (some ⟨g', 0, none⟩) (n + 1) c') w' ∧ BRow w' g' c' (l ++ [.int .u8 x]) ∧ Upd [g] w w' ∧ (g' = g ∨ w.heap.size ≤ g') := by
  obtain ⟨i, hi, hz, hs1, hb1⟩ := info_parts it_info_byte
  have hnews : ∀ j u, [Value.int .u8 x][j]? = some u → w.cell? (ad.add j) = some u := by
    intro j u hj
    match j, hj with
    | 0, hj => cases hj; exact hx
    | j + 1, hj => cases hj
  by_cases hr : n + 1 ≤ cap
  · obtain ⟨cur, fr, h1, h2, h3, h4, h5, h6⟩ := h
    have hcs : ∀ j, j < [Value.int .u8 x].length → (w.cell? ⟨g, 0 + n * i.size + j, none⟩).isSome = true := by
      intro j hj
      obtain rfl : j = 0 := by simpa using hj
      rw [hs1]
      simp only [World.cell?, h1, Nat.zero_add, Nat.mul_one, Nat.add_zero]
      rw [Array.getElem?_eq_getElem (by omega)]
      rfl
    have hfs : ∀ j, j < [Value.int .u8 x].length → w.frozen? ⟨g, 0 + n * i.size + j, none⟩ = false := by
      intro j hj
      obtain rfl : j = 0 := by simpa using hj
      rw [hs1]
      simp only [World.frozen?, h1, Nat.zero_add, Nat.mul_one, Nat.add_zero]
      have := h5 n (by omega)
      simpa using this
    have hrun := run_append_room_cells (P := Tryz.prog) (w := w) t ty 5 i ht hi g 0 n cap ad 1 c [.int .u8 x] (by rw [hs1]; rfl) hnews (by simp [Value.oneCell']) hr hcs hfs
    rw [hs1, Nat.zero_add, Nat.mul_one] at hrun
    have hw : w.setCells g n [.int .u8 x] = w.setCell ⟨g, n, none⟩ (.int .u8 x) := rfl
    rw [hw] at hrun
    refine ⟨g, cap, _, hrun, ⟨cur.setIfInBounds n (.int .u8 x), fr, ?_, by rw [List.length_append, hn]; exact hr, h3, by simpa using h4, h5, ?_⟩, (Upd.refl _ _).setCell (.inl (by simp)) _, .inl rfl⟩
    · simp only [World.setCell]
      rw [Array.getElem?_modify, if_pos rfl, h1]
      rfl
    · rw [List.length_append, List.length_singleton, hn, Array.toList_setIfInBounds, List.take_add_one, List.getElem?_set_self (by rw [Array.length_toList]; omega), List.take_set_of_le (Nat.le_refl _)]
      rw [hn] at h6
      rw [h6]
      rfl
  · obtain ⟨v', w', hrun, hown, hgr⟩ := run_append_arg_grows (P := Tryz.prog) (w := w) t ty 5 i (.int .u8 0) 1 1 ht hi hz hs1 hb1 rfl (by decide) ⟨g, 0, none⟩ n cap l (by omega) (fun j u hj => by
      have e : (⟨g, 0, none⟩ : Addr).add j = ⟨g, j, none⟩ := by unfold Addr.add; split <;> simp_all
      rw [e]
      exact h.cell hj) ad 1 c [.int .u8 x] rfl hnews (by omega) (by unfold maxLen; omega) (by omega)
    obtain ⟨h1, h2 | ⟨g', cap', cur, rfl, hb, hg, q1, q2, q3, q4⟩⟩ := hown
    · omega
    · refine ⟨g', cap', w', hrun, ⟨cur, (0, 0), hg, by rw [List.length_append, hn]; exact q1, q2, by rw [q3, Nat.mul_one], fun i _ h => by simp at h, ?_⟩, (Upd.refl _ _).grown hgr (fun k hk => by cases hk), .inr hb⟩
      rw [List.length_append, hn]
      simpa using q4
theorem wpListIn_append_brow {F : Fence} {n : Nat} {w : World} {ops : Array Oper} {rest : List Oper} {o : Oper} {a : Act} {Q : Exit → Act → World → Prop}
    (hgd : o.guard = none) (s x : Operand) (t : TypeId) (hop : o.op = Op.call { callee := Callee.builtin Builtin.append, args := #[s, x], argTypes := #[t, t] }) (ht : Tryz.prog.underlying t = some (.slice 5))
    (g cap k : Nat) (l : List Value) (hs : a.eval s = .slice (some ⟨g, 0, none⟩) k cap) (hB : BRow w g cap l) (hk : l.length = k) (ad : Addr) (c : Nat) (y : Int) (hx : a.eval x = .slice (some ad) 1 c) (hc : w.cell? (ad.add 0) = some (.int .u8 y)) (hl : k + 1 ≤ 1000000000000)
    (hK : ∀ g' c' w', BRow w' g' c' (l ++ [.int .u8 y]) → Upd [g] w w' → (g' = g ∨ w.heap.size ≤ g') → wpListIn F n Tryz.prog ops Q rest (a.put o.dst (.slice (some ⟨g', 0, none⟩) (k + 1) c')) w') :
    wpListIn F n Tryz.prog ops Q (o :: rest) a w := by
  refine wpListIn_plain hgd fun K hK' => ?_
  obtain ⟨g', c', w', hrun, r1, r2, r3⟩ := run_append_brow w t o.type ht hB hk ad c y hc hl
  unfold Oper.wpIn
  refine ⟨?_, ?_⟩
  · simp [Oper.about, hop, resolve, Target.leads, Sem.run_pure]
  · rw [Oper.semAt_plain F _ _ (by rw [hop]; intro c hc'; cases hc')]
    simp [execOp, hop, resolve, invoke, builtin, hs, hx, hrun, Result.andThen]
    exact hK' _ _ (hK g' c' w' r1 r2 r3)
end Go.Proofs.YtafjolibfbccbaaGreatDoor

namespace Go.Proofs.YtafjolibfbccbaaGreatDoor
open Go.RowKit Go.Shelf
set_option maxRecDepth 100000
attribute [local go_sem] Oper.semAt_some

theorem boxed_upd {w w' : World} {b t : Nat} {v : Value} {l : List Nat} (h : Boxed w b t v) (hu : Upd l w w') (hn : b ∉ l := by simp) : Boxed w' b t v := (hu.block b h.lt hn).trans h
set_option maxHeartbeats 4000000 in
theorem chunk1_in (n : Nat) (hn : 2 ≤ n) (l g cap m b1 b2 B : Nat) (hm : 64 * m ≤ 1000000000000) (hcap : 64 * m ≤ cap) (hcm : cap ≤ maxLen) (out : List Nat) (J : List Nat → World → Prop)
    (hJ : ∀ pre A C, J pre A → Upd [] A C → J pre C)
    (hY : ∀ pre x W, J pre W → x < m → pre.length < m → YieldAt Fence.wide (n - 1) Tryz.prog l #[.slice (some ⟨g, 64 * x, none⟩) 64 64] W fun e W' => e = .returned (.bool true) ∧ J (pre ++ [x]) W' ∧ KeepX B out W W')
    (W : World) (h1 : Boxed W b1 39 (.slice (some ⟨g, 0, none⟩) (64 * m) cap)) (h2 : Boxed W b2 3 (.int .i64 64)) (hb1 : b1 < B) (hb2 : b2 < B) (ho1 : b1 ∉ out) (ho2 : b2 ∉ out) (hB : B ≤ W.heap.size) (h0 : J [] W) :
    CallsIn Fence.wide n Tryz.prog 143 #[.func (.yield l) #[] #[], .pointer (some ⟨b1, 0, none⟩), .pointer (some ⟨b2, 0, none⟩)] W fun e W' => (∃ v, e = .returned v) ∧ ∃ ys, ys = List.range m ∧ J ys W' := by
  refine callsIn_of_wp Tryz.func143 rfl trivial ?_ rfl
  simp only [Tryz.ntmps143, List.size_toArray, List.length_cons, List.length_nil, Nat.reduceAdd, Nat.reduceSub, Array.replicate_succ, Array.replicate_zero, List.push_toArray, List.append_toArray, List.nil_append, List.cons_append]
  have HY := hide hY
  have HJ := hide hJ
  have HM := hide hm
  have HCAP := hide hcap
  have HCM := hide hcm
  have hn1 : 1 ≤ n := by omega
  obtain ⟨N, hN⟩ : ∃ N, 64 * m = N := ⟨_, rfl⟩
  rw [hN] at h1 HM HCAP
  have HN := hide hN
  clear hY hJ hm hcap hcm hN
  gi_wp2
  gi_loopw [4] (fun s4 wr => ∃ k q : Nat, Hid (64 * k = q) ∧ k ≤ m ∧ s4 = .int .i64 q ∧ Hid (J (List.range k) wr) ∧ Hid (Boxed wr b1 39 (.slice (some ⟨g, 0, none⟩) N cap)) ∧ Hid (Boxed wr b2 3 (.int .i64 64)) ∧ Hid (B ≤ wr.heap.size)) (fun s _ => 64 * m - (intOf s).toNat)
  case atStart => exact ⟨0, 0, rfl, Nat.zero_le _, rfl, hide h0, hide h1, hide h2, hide hB⟩
  case round =>
    obtain ⟨k, q, hq, hk, rfl, hj, hB1, hB2, hBB⟩ := hrel
    have c1 := hB1.out.cell
    have c2 := hB2.out.cell
    have HK := hide hk
    have HQ := hide (show 64 * m = N from HN.out)
    by_cases hkm : k < m
    case neg =>
      obtain rfl : k = m := by omega
      have hqN : ¬ (q : Int) < (N : Int) := by have := hq.out; have := HN.out; omega
      clear hk
      gi_wp2
      go_end0
      exact ⟨⟨_, rfl⟩, hj.out⟩
    have hqN : (q : Int) < (N : Int) := by have := hq.out; have := HN.out; omega
    have hqN' : q < N := by have := hq.out; have := HN.out; omega
    have hle : (q : Int) + 64 ≤ (N : Int) := by have := hq.out; have := HN.out; omega
    have hNc : (N : Int) ≤ (cap : Int) := by have := HCAP.out; omega
    have hNc' : N ≤ cap := HCAP.out
    have hcq : ¬ cap = q := by have := HCAP.out; omega
    have hcm : cap ≤ 9223372036854775807 := by have := HCM.out; unfold maxLen at this; omega
    have hmin : min 64 ((N - q : Nat) : Int) = 64 := by omega
    have hw64 : IntKind.i64.wrap ((q : Int) + 64) = (q : Int) + 64 := Go.IntWalk.i64_in _ (by omega)
    gi_wp2
    gi_region
    obtain ⟨wd, hwd⟩ : ∃ x, wr.drew = x := ⟨_, rfl⟩
    have u : Upd [] wr wd := by rw [← hwd]; exact (Upd.refl [] _).drew
    rw [hwd]
    clear hwd hmin
    have hJd := HJ.out _ _ _ hj.out u
    have hB1d := hide (show Boxed wd b1 _ _ from boxed_upd hB1.out u)
    have hB2d := hide (show Boxed wd b2 _ _ from boxed_upd hB2.out u)
    have hBd := hide (Nat.le_trans hBB.out u.size)
    obtain ⟨fn, tmps, assign, body, hy, hR⟩ := HY.out (List.range k) k wd hJd hkm (by simpa using hkm)
    have HR := hide hR
    rw [hq.out] at hy
    replace c1 := hB1d.out.cell
    replace c2 := hB2d.out.cell
    have hw1 : (q : Int) + 64 ≤ (cap : Int) := by omega
    have hcq2 : ¬ q = q + 64 := by omega
    clear hR u hJd hj hB1 hB2 hBB
    gi_wp2
    refine HR.out.mono ?_
    rintro e W3 ⟨rfl, hJ3, hk3⟩
    have HJ3 := hide hJ3
    have hB13 := hide (show Boxed W3 b1 _ _ from (hk3.2 b1 hb1 ho1).trans hB1d.out)
    have hB23 := hide (show Boxed W3 b2 _ _ from (hk3.2 b2 hb2 ho2).trans hB2d.out)
    have hB3 := hide (Nat.le_trans hBd.out hk3.1)
    replace c1 := hB13.out.cell
    replace c2 := hB23.out.cell
    clear hJ3 hk3
    gi_wp2
    go_roundw
    case rel => exact ⟨k + 1, q + 64, hide (by have := hq.out; omega), by omega, by go_num, hide (by rw [List.range_succ]; exact HJ3.out), hB13, hB23, hB3⟩
    case measure => have := hq.out; simp [intOf] <;> omega
theorem chunk_told (n : Nat) (hn : 2 ≤ n) (g cap m b1 b2 B : Nat) (hm : 64 * m ≤ 1000000000000) (hcap : 64 * m ≤ cap) (hcm : cap ≤ maxLen) (out : List Nat) (w : World)
    (h1 : Boxed w b1 39 (.slice (some ⟨g, 0, none⟩) (64 * m) cap)) (h2 : Boxed w b2 3 (.int .i64 64)) (hb1 : b1 < B) (hb2 : b2 < B) (ho1 : b1 ∉ out) (ho2 : b2 ∉ out) (hB : B ≤ w.heap.size) :
    SeqTold Fence.wide n Tryz.prog 143 #[.pointer (some ⟨b1, 0, none⟩), .pointer (some ⟨b2, 0, none⟩)] (fun x : Nat => #[.slice (some ⟨g, 64 * x, none⟩) 64 64]) (fun x _ => x < m) [] (KeepX B out) (fun ys => ys = List.range m) m w := fun l J W hW hJ hY h0 =>
  chunk1_in n hn l g cap m b1 b2 B hm hcap hcm out J hJ hY W ((hW.block b1 h1.lt).trans h1) ((hW.block b2 h2.lt).trans h2) hb1 hb2 ho1 ho2 (Nat.le_trans hB hW.size) h0
theorem chunk_any (a : Option Addr) (k cap : Nat) (w : World) :
    Calls Tryz.prog 128 #[.slice a k cap, .int .i64 64] w fun e w' => e = .returned (.func (.func 143) #[] #[.pointer (some ⟨w.heap.size, 0, none⟩), .pointer (some ⟨w.heap.size + 1, 0, none⟩)]) ∧
      (w.alloc (.cells #[.slice a k cap] 39)).alloc (.cells #[.int .i64 64] 3) = w' := by
  have hmf : ∀ (fn : Fn) (first cap : Array Value) (w : World), (Instr.makeFunc fn first cap).run Tryz.prog w = .ok (.func fn first cap) w := fun _ _ _ _ => rfl
  go_enter Tryz.func128, Tryz.ntmps128
  go_wp2
  go_ret
  exact ⟨rfl, rfl⟩
end Go.Proofs.YtafjolibfbccbaaGreatDoor
