/-
  digest.schedule: the words of a block.
  mixed, three turns.
-/
import Derived.Test.YtafjolibfbccbaaGreatDoorZ6JournalOpensAnythingCard
import Derived.Deep.RegionHeld3
import Derived.Deep.CutBlock

namespace Go.Proofs.YtafjolibfbccbaaGreatDoor
open Go.RowKit
set_option maxRecDepth 100000
set_option maxHeartbeats 40000000

def wordS (a b c d : Nat) : Int := bits .or .u32 (bits .or .u32 (bits .or .u32 ((a : Int) * 16777216) ((b : Int) * 65536)) ((c : Int) * 256)) (d : Int)
def first16 (bs : List UInt8) : List Int := (List.range 16).map fun k => wordS (bs[4 * k]?.getD 0).toNat (bs[4 * k + 1]?.getD 0).toNat (bs[4 * k + 2]?.getD 0).toNat (bs[4 * k + 3]?.getD 0).toNat
theorem first16_length (bs : List UInt8) : (first16 bs).length = 16 := by simp [first16]
/-- The words so far, and zeros behind them. -/
def wCells (ws : List Int) : List Value := ws.map (Value.int .u32) ++ List.replicate (64 - ws.length) (.int .u32 0)
theorem wCells_free {ws : List Int} {k : Nat} (h : ws.length ≤ k) (hk : k < 64) : (wCells ws)[k]? = some (.int .u32 0) := by
  unfold wCells
  rw [List.getElem?_append_right (by rw [List.length_map]; exact h), List.getElem?_replicate, List.length_map, if_pos (by omega)]
theorem wCells_at {ws : List Int} {k : Nat} {x : Int} (h : ws[k]? = some x) : (wCells ws)[k]? = some (.int .u32 x) := by
  unfold wCells
  have := (List.getElem?_eq_some_iff.1 h).1
  rw [List.getElem?_append_left (by rw [List.length_map]; exact this), List.getElem?_map, h]
  rfl
theorem wCells_set (ws : List Int) (x : Int) (h : ws.length < 64) : (wCells ws).set ws.length (.int .u32 x) = wCells (ws ++ [x]) := by
  unfold wCells
  obtain ⟨d, hd⟩ : ∃ d, 64 - ws.length = d + 1 := ⟨63 - ws.length, by omega⟩
  rw [List.set_append_right _ _ (by rw [List.length_map]; exact Nat.le_refl _), List.length_map, Nat.sub_self, hd, List.replicate_succ, List.set_cons_zero, List.length_append, List.map_append, List.append_assoc]
  rw [show 64 - (ws.length + [x].length) = d by simp; omega]
  rfl
theorem far_cell {w : World} {a : Addr} {v : Value} (p : Addr) (u : Value) (h : w.cell? a = some v) (hp : a.block ≠ p.block) : (w.setCell p u).cell? a = some v :=
  (World.cell?_of_block (w := w) (Below.heap_setCell w p u a.block hp)).trans h
def schedNext (a x c y : Int) : Int := IntKind.u32.wrap (IntKind.u32.wrap (IntKind.u32.wrap (a + bits .xor .u32 (mixS [7, 18] x) (x / 8)) + c) + bits .xor .u32 (mixS [17, 19] y) (y / 1024))
def schedTo (bs : List UInt8) : Nat → List Int
  | 0 => first16 bs
  | n + 1 => schedTo bs n ++ [schedNext ((schedTo bs n)[n]?.getD 0) ((schedTo bs n)[n + 1]?.getD 0) ((schedTo bs n)[n + 9]?.getD 0) ((schedTo bs n)[n + 14]?.getD 0)]
theorem schedTo_length (bs : List UInt8) (n : Nat) : (schedTo bs n).length = n + 16 := by
  induction n with
  | zero => exact first16_length bs
  | succ n ih =>
    show (schedTo bs n ++ [_]).length = _
    rw [List.length_append, ih, List.length_singleton, Nat.add_right_comm]
theorem wrap_word (x : Int) : Word (IntKind.u32.wrap x) := by
  unfold Word
  rw [IntKind.wrap_u32]
  omega
theorem sched_word (bs : List UInt8) (n : Nat) : ∀ x ∈ schedTo bs n, Word x := by
  induction n with
  | zero =>
    intro x hx
    have hx' : x ∈ first16 bs := hx
    unfold first16 at hx'
    obtain ⟨k, _, rfl⟩ := List.mem_map.1 hx'
    exact bits_word _ _ _
  | succ n ih =>
    intro x hx
    have hx' : x ∈ schedTo bs n ++ [_] := hx
    rcases List.mem_append.1 hx' with hx | hx
    · exact ih x hx
    · rw [List.mem_singleton.1 hx]
      exact wrap_word _
theorem mixed_two (a b : Nat) (x : Int) (g : Nat) (w : World) (hab : (1 ≤ a ∧ a < 32) ∧ (1 ≤ b ∧ b < 32)) (hx : Word x) (hB : Blk w g 3 [.int .i64 (a : Int), .int .i64 (b : Int)]) :
    Calls Tryz.prog 145 #[.int .u32 x, .slice (some ⟨g, 0, none⟩) 2 2] w fun e w' => e = .returned (.int .u32 (mixS [a, b] x)) ∧ w = w' :=
  mixed_any (n₀ := w.heap.size) x [a, b] (some ⟨g, 0, none⟩) 2 w hx (fun n hn => by
    rcases List.mem_cons.1 hn with rfl | hn
    · exact hab.1
    · obtain rfl := List.mem_singleton.1 hn
      exact hab.2) (.inr ⟨g, 0, 2, rfl, hB.lt, fun j hj => by
        rw [Nat.zero_add, hB.cell]
        match j, hj with
        | 0, _ => rfl
        | 1, _ => rfl⟩) (by simp)
theorem keepB {W W' : World} {g t : Nat} {cs : List Value} (h : Blk W g t cs) (hu : Upd [] W W') : Blk W' g t cs := h.upd hu (by simp)
theorem far_at {w : World} {b i j : Nat} {t : Nat} {cs : List Value} {v : Value} (u : Value) (hb : Blk w b t cs) (h : w.cell? ⟨b, i, none⟩ = some v) (hp : i ≠ j) : (w.setCell ⟨b, j, none⟩ u).cell? ⟨b, i, none⟩ = some v := by
  rw [(hb.set_ j u).cell, List.getElem?_set_ne (Ne.symm hp), ← hb.cell]
  exact h
def BytesAt (W : World) (g o : Nat) (bs : List UInt8) : Prop := ∀ i x, bs[i]? = some x → W.cell? ⟨g, o + i, none⟩ = some (.int .u8 (x.toNat : Int))
theorem setRow_same {w : World} {g t : Nat} {cs : List Value} (h : Blk w g t cs) : w.setRow g cs.toArray = w := by
  simp only [World.setRow]
  congr 1
  apply Array.ext_getElem?
  intro i
  rw [Array.getElem?_modify]
  by_cases hi : g = i
  · subst hi
    rw [if_pos rfl]
    have h9 : w.heap[g]? = some (.cells cs.toArray t (0, 0)) := h
    rw [h9]
    rfl
  · rw [if_neg hi]
theorem schedule_any (gb go c : Nat) (bs : List UInt8) (w : World) (hb : BytesAt w gb go bs) (hlt : gb < w.heap.size) (hl : bs.length = 64) :
    Calls Tryz.prog 144 #[.slice (some ⟨gb, go, none⟩) 64 c] w fun e w' => e = .returned (.agg ((schedTo bs 48).map (Value.int .u32)).toArray) ∧ Upd [] w w' := by
  have HB := hide hb
  have HL := hide hl
  have HLT := hide hlt
  clear hb hl hlt
  go_enter Tryz.func144, Tryz.ntmps144
  go_upto_region 1 with fail
  obtain ⟨w1, hw⟩ : ∃ x, w.alloc (.cells #[.int .u32 0, .int .u32 0, .int .u32 0, .int .u32 0, .int .u32 0, .int .u32 0, .int .u32 0, .int .u32 0, .int .u32 0, .int .u32 0, .int .u32 0, .int .u32 0, .int .u32 0, .int .u32 0, .int .u32 0, .int .u32 0, .int .u32 0, .int .u32 0, .int .u32 0, .int .u32 0, .int .u32 0, .int .u32 0, .int .u32 0, .int .u32 0, .int .u32 0, .int .u32 0, .int .u32 0, .int .u32 0, .int .u32 0, .int .u32 0, .int .u32 0, .int .u32 0, .int .u32 0, .int .u32 0, .int .u32 0, .int .u32 0, .int .u32 0, .int .u32 0, .int .u32 0, .int .u32 0, .int .u32 0, .int .u32 0, .int .u32 0, .int .u32 0, .int .u32 0, .int .u32 0, .int .u32 0, .int .u32 0, .int .u32 0, .int .u32 0, .int .u32 0, .int .u32 0, .int .u32 0, .int .u32 0, .int .u32 0, .int .u32 0, .int .u32 0, .int .u32 0, .int .u32 0, .int .u32 0, .int .u32 0, .int .u32 0, .int .u32 0, .int .u32 0] 214) = x := ⟨_, rfl⟩
  have BW := hide (show Blk w1 w.heap.size 214 (wCells []) by rw [← hw]; exact Blk.new w _ _)
  have UW := hide (show Upd [] w w1 by rw [← hw]; exact (Upd.refl [] _).alloc _)
  rw [hw]
  clear hw
  obtain ⟨bw, hbw⟩ : ∃ b, w.heap.size = b := ⟨_, rfl⟩
  rw [hbw] at BW HLT ⊢
  have HBW := hide hbw
  clear hbw
  go_wp2_with fail
  go_loopw [7] (fun s7 wr => ∃ k : Nat, k ≤ 16 ∧ s7 = .int .i64 k ∧ Hid (Blk wr bw 214 (wCells ((first16 bs).take k))) ∧ Hid (Upd [bw] w1 wr)) (fun s _ => 16 - (intOf s).toNat)
  case atStart => exact ⟨0, Nat.zero_le _, rfl, hide (by rw [List.take_zero]; exact BW.out), Upd.refl _ _⟩
  case round =>
    obtain ⟨k, hk, rfl, hB, hu⟩ := hrel
    obtain ⟨wo, rfl⟩ : ∃ x : World, x = wr := ⟨_, rfl⟩
    by_cases hk16 : k < 16
    case pos =>
      have hki : (k : Int) < 16 := by omega
      have hkw : IntKind.i64.wrap ((k : Int) + 1) = (k : Int) + 1 := Go.IntWalk.i64_in _ (by omega)
      obtain ⟨q, hq⟩ : ∃ q, 4 * k = q := ⟨_, rfl⟩
      have hq0 : IntKind.i64.wrap (4 * (k : Int)) = (q : Int) := by rw [Go.IntWalk.i64_in _ (by omega)]; omega
      obtain ⟨q0, he0⟩ : ∃ x, q + 0 = x := ⟨_, rfl⟩
      obtain ⟨q1, he1⟩ : ∃ x, q + 1 = x := ⟨_, rfl⟩
      have hq1 : IntKind.i64.wrap ((q : Int) + 1) = (q1 : Int) := by rw [Go.IntWalk.i64_in _ (by omega)]; omega
      obtain ⟨q2, he2⟩ : ∃ x, q + 2 = x := ⟨_, rfl⟩
      have hq2 : IntKind.i64.wrap ((q : Int) + 2) = (q2 : Int) := by rw [Go.IntWalk.i64_in _ (by omega)]; omega
      obtain ⟨q3, he3⟩ : ∃ x, q + 3 = x := ⟨_, rfl⟩
      have hq3 : IntKind.i64.wrap ((q : Int) + 3) = (q3 : Int) := by rw [Go.IntWalk.i64_in _ (by omega)]; omega
      obtain ⟨x0, hx0⟩ : ∃ x, bs[q0]? = some x := ⟨_, List.getElem?_eq_getElem (by have := HL.out; omega)⟩
      obtain ⟨y0, hy0⟩ : ∃ y : Nat, x0.toNat = y := ⟨_, rfl⟩
      have hz0 : y0 ≤ 255 := by rw [← hy0]; have := x0.toNat_lt; omega
      have c0 : wo.cell? ⟨gb, go + q0, none⟩ = some (.int .u8 (y0 : Int)) := by
        have h9 := HB.out q0 x0 hx0
        rw [hy0] at h9
        exact ((hu.out.cell (p := ⟨gb, _, none⟩) (Nat.lt_of_lt_of_le HLT.out (by have := UW.out.size; have := HBW.out; omega)) (by simp; have := HLT.out; omega))).trans ((UW.out.cell (p := ⟨gb, _, none⟩) (by have := HLT.out; have := HBW.out; simp; omega) (by simp)).trans h9)
      obtain ⟨x1, hx1⟩ : ∃ x, bs[q1]? = some x := ⟨_, List.getElem?_eq_getElem (by have := HL.out; omega)⟩
      obtain ⟨y1, hy1⟩ : ∃ y : Nat, x1.toNat = y := ⟨_, rfl⟩
      have hz1 : y1 ≤ 255 := by rw [← hy1]; have := x1.toNat_lt; omega
      have c1 : wo.cell? ⟨gb, go + q1, none⟩ = some (.int .u8 (y1 : Int)) := by
        have h9 := HB.out q1 x1 hx1
        rw [hy1] at h9
        exact ((hu.out.cell (p := ⟨gb, _, none⟩) (Nat.lt_of_lt_of_le HLT.out (by have := UW.out.size; have := HBW.out; omega)) (by simp; have := HLT.out; omega))).trans ((UW.out.cell (p := ⟨gb, _, none⟩) (by have := HLT.out; have := HBW.out; simp; omega) (by simp)).trans h9)
      obtain ⟨x2, hx2⟩ : ∃ x, bs[q2]? = some x := ⟨_, List.getElem?_eq_getElem (by have := HL.out; omega)⟩
      obtain ⟨y2, hy2⟩ : ∃ y : Nat, x2.toNat = y := ⟨_, rfl⟩
      have hz2 : y2 ≤ 255 := by rw [← hy2]; have := x2.toNat_lt; omega
      have c2 : wo.cell? ⟨gb, go + q2, none⟩ = some (.int .u8 (y2 : Int)) := by
        have h9 := HB.out q2 x2 hx2
        rw [hy2] at h9
        exact ((hu.out.cell (p := ⟨gb, _, none⟩) (Nat.lt_of_lt_of_le HLT.out (by have := UW.out.size; have := HBW.out; omega)) (by simp; have := HLT.out; omega))).trans ((UW.out.cell (p := ⟨gb, _, none⟩) (by have := HLT.out; have := HBW.out; simp; omega) (by simp)).trans h9)
      obtain ⟨x3, hx3⟩ : ∃ x, bs[q3]? = some x := ⟨_, List.getElem?_eq_getElem (by have := HL.out; omega)⟩
      obtain ⟨y3, hy3⟩ : ∃ y : Nat, x3.toNat = y := ⟨_, rfl⟩
      have hz3 : y3 ≤ 255 := by rw [← hy3]; have := x3.toNat_lt; omega
      have c3 : wo.cell? ⟨gb, go + q3, none⟩ = some (.int .u8 (y3 : Int)) := by
        have h9 := HB.out q3 x3 hx3
        rw [hy3] at h9
        exact ((hu.out.cell (p := ⟨gb, _, none⟩) (Nat.lt_of_lt_of_le HLT.out (by have := UW.out.size; have := HBW.out; omega)) (by simp; have := HLT.out; omega))).trans ((UW.out.cell (p := ⟨gb, _, none⟩) (by have := HLT.out; have := HBW.out; simp; omega) (by simp)).trans h9)
      obtain rfl : q = q0 := he0
      have fz := hB.out.frozen k
      have ck : wo.cell? ⟨bw, k, none⟩ = some (.int .u32 0) := (hB.out.cell k).trans (wCells_free (by rw [List.length_take, first16_length]; omega) (by omega))
      have HV := hide (show (first16 bs)[k]? = some (wordS y0 y1 y2 y3) by
        unfold first16
        rw [List.getElem?_map, List.getElem?_range hk16]
        show some (wordS (bs[4 * k]?.getD 0).toNat (bs[4 * k + 1]?.getD 0).toNat (bs[4 * k + 2]?.getD 0).toNat (bs[4 * k + 3]?.getD 0).toNat) = _
        rw [hq, he1, he2, he3, hx0, hx1, hx2, hx3]
        simp only [Option.getD_some, hy0, hy1, hy2, hy3])
      have HQ := hide hq
      clear hq hx0 hx1 hx2 hx3 hy0 hy1 hy2 hy3
      have hqb0 : q < 64 := by have := HQ.out; omega
      have hqi0 : (q : Int) < 64 := by omega
      have hqb1 : q1 < 64 := by have := HQ.out; omega
      have hqi1 : (q1 : Int) < 64 := by omega
      have hqb2 : q2 < 64 := by have := HQ.out; omega
      have hqi2 : (q2 : Int) < 64 := by omega
      have hqb3 : q3 < 64 := by have := HQ.out; omega
      have hqi3 : (q3 : Int) < 64 := by omega
      clear he1 he2 he3
      have hk64 : (k : Int) < 64 := by omega
      have wy0 : IntKind.u32.wrap (y0 : Int) = y0 := by rw [IntKind.wrap_u32]; omega
      have wm0 : IntKind.u32.wrap ((y0 : Int) * 16777216) = (y0 : Int) * 16777216 := by rw [IntKind.wrap_u32]; omega
      have wy1 : IntKind.u32.wrap (y1 : Int) = y1 := by rw [IntKind.wrap_u32]; omega
      have wm1 : IntKind.u32.wrap ((y1 : Int) * 65536) = (y1 : Int) * 65536 := by rw [IntKind.wrap_u32]; omega
      have wy2 : IntKind.u32.wrap (y2 : Int) = y2 := by rw [IntKind.wrap_u32]; omega
      have wm2 : IntKind.u32.wrap ((y2 : Int) * 256) = (y2 : Int) * 256 := by rw [IntKind.wrap_u32]; omega
      have wy3 : IntKind.u32.wrap (y3 : Int) = y3 := by rw [IntKind.wrap_u32]; omega
      go_wp2_with fail
      refine wp_region_held_drew (S := (fun w' => w'.cell? ⟨gb, go + q, none⟩ = some (.int .u8 (y0 : Int)) ∧ w'.cell? ⟨gb, go + q1, none⟩ = some (.int .u8 (y1 : Int)) ∧ w'.cell? ⟨gb, go + q2, none⟩ = some (.int .u8 (y2 : Int)) ∧ w'.cell? ⟨gb, go + q3, none⟩ = some (.int .u8 (y3 : Int)))) (by kernel_rfl) (by exact ⟨c0, c1, c2, c3⟩) (fun hHeld => ?_)
      refine wpAnyH_take (i := 0) (oi := ?oi0M2) (v := ?v0M2) ?oi0_0M2 (by kernel_rfl) ?ff0M2 ?rr0M2 ?hq0M2 (Or.inl ⟨?hw0M2, ?hy0M2⟩) (by assumption) ?rest0M2
      case oi0_0M2 => conv => lhs; whnf; arg 1; whnf
      case hq0M2 => exact fun _ _ _ h => h
      case ff0M2 | rr0M2 => kernel_rfl
      case hw0M2 => rfl
      case hy0M2 => intro w hSw; (try dsimp only at hSw); first | (go_simp; done) | (go_simp; with_reducible rfl)
      try simp only [Act.put, List.setIfInBounds_toArray, List.set_cons_zero, List.set_cons_succ]
      refine wpAnyH_take (i := 1) (oi := ?oi1M2) (v := ?v1M2) ?oi0_1M2 (by kernel_rfl) ?ff1M2 ?rr1M2 ?hq1M2 (Or.inl ⟨?hw1M2, ?hy1M2⟩) (by assumption) ?rest1M2
      case oi0_1M2 => conv => lhs; whnf; arg 1; whnf
      case hq1M2 => exact fun _ _ _ h => h
      case ff1M2 | rr1M2 => kernel_rfl
      case hw1M2 => rfl
      case hy1M2 => intro w hSw; (try dsimp only at hSw); first | (go_simp; done) | (go_simp; with_reducible rfl)
      try simp only [Act.put, List.setIfInBounds_toArray, List.set_cons_zero, List.set_cons_succ]
      refine wpAnyH_take (i := 2) (oi := ?oi2M2) (v := ?v2M2) ?oi0_2M2 (by kernel_rfl) ?ff2M2 ?rr2M2 ?hq2M2 (Or.inl ⟨?hw2M2, ?hy2M2⟩) (by assumption) ?rest2M2
      case oi0_2M2 => conv => lhs; whnf; arg 1; whnf
      case hq2M2 => exact fun _ _ _ h => h
      case ff2M2 | rr2M2 => kernel_rfl
      case hw2M2 => rfl
      case hy2M2 => intro w hSw; (try dsimp only at hSw); first | (go_simp; done) | (go_simp; with_reducible rfl)
      try simp only [Act.put, List.setIfInBounds_toArray, List.set_cons_zero, List.set_cons_succ]
      refine wpAnyH_take (i := 3) (oi := ?oi3M2) (v := ?v3M2) ?oi0_3M2 (by kernel_rfl) ?ff3M2 ?rr3M2 ?hq3M2 (Or.inl ⟨?hw3M2, ?hy3M2⟩) (by assumption) ?rest3M2
      case oi0_3M2 => conv => lhs; whnf; arg 1; whnf
      case hq3M2 => exact fun _ _ _ h => h
      case ff3M2 | rr3M2 => kernel_rfl
      case hw3M2 => rfl
      case hy3M2 => intro w hSw; (try dsimp only at hSw); first | (go_simp; done) | (go_simp; with_reducible rfl)
      try simp only [Act.put, List.setIfInBounds_toArray, List.set_cons_zero, List.set_cons_succ]
      refine wpAnyH_take (i := 4) (oi := ?oi4M2) (v := ?v4M2) ?oi0_4M2 (by kernel_rfl) ?ff4M2 ?rr4M2 ?hq4M2 (Or.inl ⟨?hw4M2, ?hy4M2⟩) (by assumption) ?rest4M2
      case oi0_4M2 => conv => lhs; whnf; arg 1; whnf
      case hq4M2 => exact fun _ _ _ h => h
      case ff4M2 | rr4M2 => kernel_rfl
      case hw4M2 => rfl
      case hy4M2 => intro w hSw; (try dsimp only at hSw); first | (go_simp; done) | (go_simp; with_reducible rfl)
      try simp only [Act.put, List.setIfInBounds_toArray, List.set_cons_zero, List.set_cons_succ]
      refine wpAnyH_take (i := 5) (oi := ?oi5M2) (v := ?v5M2) ?oi0_5M2 (by kernel_rfl) ?ff5M2 ?rr5M2 ?hq5M2 (Or.inl ⟨?hw5M2, ?hy5M2⟩) (by assumption) ?rest5M2
      case oi0_5M2 => conv => lhs; whnf; arg 1; whnf
      case hq5M2 => exact fun _ _ _ h => h
      case ff5M2 | rr5M2 => kernel_rfl
      case hw5M2 => rfl
      case hy5M2 => intro w hSw; (try dsimp only at hSw); first | (go_simp; done) | (go_simp; with_reducible rfl)
      try simp only [Act.put, List.setIfInBounds_toArray, List.set_cons_zero, List.set_cons_succ]
      refine wpAnyH_take (i := 6) (oi := ?oi6M2) (v := ?v6M2) ?oi0_6M2 (by kernel_rfl) ?ff6M2 ?rr6M2 ?hq6M2 (Or.inl ⟨?hw6M2, ?hy6M2⟩) (by assumption) ?rest6M2
      case oi0_6M2 => conv => lhs; whnf; arg 1; whnf
      case hq6M2 => exact fun _ _ _ h => h
      case ff6M2 | rr6M2 => kernel_rfl
      case hw6M2 => rfl
      case hy6M2 => intro w hSw; (try dsimp only at hSw); first | (go_simp; done) | (go_simp; with_reducible rfl)
      try simp only [Act.put, List.setIfInBounds_toArray, List.set_cons_zero, List.set_cons_succ]
      refine wpAnyH_take (i := 7) (oi := ?oi7M2) (v := ?v7M2) ?oi0_7M2 (by kernel_rfl) ?ff7M2 ?rr7M2 ?hq7M2 (Or.inl ⟨?hw7M2, ?hy7M2⟩) (by assumption) ?rest7M2
      case oi0_7M2 => conv => lhs; whnf; arg 1; whnf
      case hq7M2 => exact fun _ _ _ h => h
      case ff7M2 | rr7M2 => kernel_rfl
      case hw7M2 => rfl
      case hy7M2 => intro w hSw; (try dsimp only at hSw); first | (go_simp; done) | (go_simp; with_reducible rfl)
      try simp only [Act.put, List.setIfInBounds_toArray, List.set_cons_zero, List.set_cons_succ]
      refine wpAnyH_take (i := 8) (oi := ?oi8M2) (v := ?v8M2) ?oi0_8M2 (by kernel_rfl) ?ff8M2 ?rr8M2 ?hq8M2 (Or.inl ⟨?hw8M2, ?hy8M2⟩) (by assumption) ?rest8M2
      case oi0_8M2 => conv => lhs; whnf; arg 1; whnf
      case hq8M2 => exact fun _ _ _ h => h
      case ff8M2 | rr8M2 => kernel_rfl
      case hw8M2 => rfl
      case hy8M2 => intro w hSw; (try dsimp only at hSw); first | (go_simp; done) | (go_simp; with_reducible rfl)
      try simp only [Act.put, List.setIfInBounds_toArray, List.set_cons_zero, List.set_cons_succ]
      refine wpAnyH_take (i := 9) (oi := ?oi9M2) (v := ?v9M2) ?oi0_9M2 (by kernel_rfl) ?ff9M2 ?rr9M2 ?hq9M2 (Or.inl ⟨?hw9M2, ?hy9M2⟩) (by assumption) ?rest9M2
      case oi0_9M2 => conv => lhs; whnf; arg 1; whnf
      case hq9M2 => exact fun _ _ _ h => h
      case ff9M2 | rr9M2 => kernel_rfl
      case hw9M2 => rfl
      case hy9M2 => intro w hSw; (try dsimp only at hSw); first | (go_simp; done) | (go_simp; with_reducible rfl)
      try simp only [Act.put, List.setIfInBounds_toArray, List.set_cons_zero, List.set_cons_succ]
      refine wpAnyH_take (i := 10) (oi := ?oi10M2) (v := ?v10M2) ?oi0_10M2 (by kernel_rfl) ?ff10M2 ?rr10M2 ?hq10M2 (Or.inl ⟨?hw10M2, ?hy10M2⟩) (by assumption) ?rest10M2
      case oi0_10M2 => conv => lhs; whnf; arg 1; whnf
      case hq10M2 => exact fun _ _ _ h => h
      case ff10M2 | rr10M2 => kernel_rfl
      case hw10M2 => rfl
      case hy10M2 => intro w hSw; (try dsimp only at hSw); first | (go_simp; done) | (go_simp; with_reducible rfl)
      try simp only [Act.put, List.setIfInBounds_toArray, List.set_cons_zero, List.set_cons_succ]
      refine wpAnyH_take (i := 11) (oi := ?oi11M2) (v := ?v11M2) ?oi0_11M2 (by kernel_rfl) ?ff11M2 ?rr11M2 ?hq11M2 (Or.inl ⟨?hw11M2, ?hy11M2⟩) (by assumption) ?rest11M2
      case oi0_11M2 => conv => lhs; whnf; arg 1; whnf
      case hq11M2 => exact fun _ _ _ h => h
      case ff11M2 | rr11M2 => kernel_rfl
      case hw11M2 => rfl
      case hy11M2 => intro w hSw; (try dsimp only at hSw); first | (go_simp; done) | (go_simp; with_reducible rfl)
      try simp only [Act.put, List.setIfInBounds_toArray, List.set_cons_zero, List.set_cons_succ]
      refine wpAnyH_take (i := 12) (oi := ?oi12M2) (v := ?v12M2) ?oi0_12M2 (by kernel_rfl) ?ff12M2 ?rr12M2 ?hq12M2 (Or.inl ⟨?hw12M2, ?hy12M2⟩) (by assumption) ?rest12M2
      case oi0_12M2 => conv => lhs; whnf; arg 1; whnf
      case hq12M2 => exact fun _ _ _ h => h
      case ff12M2 | rr12M2 => kernel_rfl
      case hw12M2 => rfl
      case hy12M2 => intro w hSw; (try dsimp only at hSw); first | (go_simp; done) | (go_simp; with_reducible rfl)
      try simp only [Act.put, List.setIfInBounds_toArray, List.set_cons_zero, List.set_cons_succ]
      refine wpAnyH_take (i := 13) (oi := ?oi13M2) (v := ?v13M2) ?oi0_13M2 (by kernel_rfl) ?ff13M2 ?rr13M2 ?hq13M2 (Or.inl ⟨?hw13M2, ?hy13M2⟩) (by assumption) ?rest13M2
      case oi0_13M2 => conv => lhs; whnf; arg 1; whnf
      case hq13M2 => exact fun _ _ _ h => h
      case ff13M2 | rr13M2 => kernel_rfl
      case hw13M2 => rfl
      case hy13M2 => intro w hSw; (try dsimp only at hSw); first | (go_simp; done) | (go_simp; with_reducible rfl)
      try simp only [Act.put, List.setIfInBounds_toArray, List.set_cons_zero, List.set_cons_succ]
      refine wpAnyH_take (i := 14) (oi := ?oi14M2) (v := ?v14M2) ?oi0_14M2 (by kernel_rfl) ?ff14M2 ?rr14M2 ?hq14M2 (Or.inl ⟨?hw14M2, ?hy14M2⟩) (by assumption) ?rest14M2
      case oi0_14M2 => conv => lhs; whnf; arg 1; whnf
      case hq14M2 => exact fun _ _ _ h => h
      case ff14M2 | rr14M2 => kernel_rfl
      case hw14M2 => rfl
      case hy14M2 => intro w hSw; (try dsimp only at hSw); first | (go_simp; done) | (go_simp; with_reducible rfl)
      try simp only [Act.put, List.setIfInBounds_toArray, List.set_cons_zero, List.set_cons_succ]
      refine wpAnyH_take (i := 15) (oi := ?oi15M2) (v := ?v15M2) ?oi0_15M2 (by kernel_rfl) ?ff15M2 ?rr15M2 ?hq15M2 (Or.inl ⟨?hw15M2, ?hy15M2⟩) (by assumption) ?rest15M2
      case oi0_15M2 => conv => lhs; whnf; arg 1; whnf
      case hq15M2 => exact fun _ _ _ h => h
      case ff15M2 | rr15M2 => kernel_rfl
      case hw15M2 => rfl
      case hy15M2 => intro w hSw; (try dsimp only at hSw); first | (go_simp; done) | (go_simp; with_reducible rfl)
      try simp only [Act.put, List.setIfInBounds_toArray, List.set_cons_zero, List.set_cons_succ]
      refine wpAnyH_take (i := 16) (oi := ?oi16M2) (v := ?v16M2) ?oi0_16M2 (by kernel_rfl) ?ff16M2 ?rr16M2 ?hq16M2 (Or.inl ⟨?hw16M2, ?hy16M2⟩) (by assumption) ?rest16M2
      case oi0_16M2 => conv => lhs; whnf; arg 1; whnf
      case hq16M2 => exact fun _ _ _ h => h
      case ff16M2 | rr16M2 => kernel_rfl
      case hw16M2 => rfl
      case hy16M2 => intro w hSw; (try dsimp only at hSw); first | (go_simp; done) | (go_simp; with_reducible rfl)
      try simp only [Act.put, List.setIfInBounds_toArray, List.set_cons_zero, List.set_cons_succ]
      refine wpAnyH_take (i := 17) (oi := ?oi17M2) (v := ?v17M2) ?oi0_17M2 (by kernel_rfl) ?ff17M2 ?rr17M2 ?hq17M2 (Or.inl ⟨?hw17M2, ?hy17M2⟩) (by assumption) ?rest17M2
      case oi0_17M2 => conv => lhs; whnf; arg 1; whnf
      case hq17M2 => exact fun _ _ _ h => h
      case ff17M2 | rr17M2 => kernel_rfl
      case hw17M2 => rfl
      case hy17M2 => intro w hSw; (try dsimp only at hSw); first | (go_simp; done) | (go_simp; with_reducible rfl)
      try simp only [Act.put, List.setIfInBounds_toArray, List.set_cons_zero, List.set_cons_succ]
      refine wpAnyH_take (i := 18) (oi := ?oi18M2) (v := ?v18M2) ?oi0_18M2 (by kernel_rfl) ?ff18M2 ?rr18M2 ?hq18M2 (Or.inl ⟨?hw18M2, ?hy18M2⟩) (by assumption) ?rest18M2
      case oi0_18M2 => conv => lhs; whnf; arg 1; whnf
      case hq18M2 => exact fun _ _ _ h => h
      case ff18M2 | rr18M2 => kernel_rfl
      case hw18M2 => rfl
      case hy18M2 => intro w hSw; (try dsimp only at hSw); first | (go_simp; done) | (go_simp; with_reducible rfl)
      try simp only [Act.put, List.setIfInBounds_toArray, List.set_cons_zero, List.set_cons_succ]
      refine wpAnyH_take (i := 19) (oi := ?oi19M2) (v := ?v19M2) ?oi0_19M2 (by kernel_rfl) ?ff19M2 ?rr19M2 ?hq19M2 (Or.inl ⟨?hw19M2, ?hy19M2⟩) (by assumption) ?rest19M2
      case oi0_19M2 => conv => lhs; whnf; arg 1; whnf
      case hq19M2 => exact fun _ _ _ h => h
      case ff19M2 | rr19M2 => kernel_rfl
      case hw19M2 => rfl
      case hy19M2 => intro w hSw; (try dsimp only at hSw); first | (go_simp; done) | (go_simp; with_reducible rfl)
      try simp only [Act.put, List.setIfInBounds_toArray, List.set_cons_zero, List.set_cons_succ]
      refine wpAnyH_take (i := 20) (oi := ?oi20M2) (v := ?v20M2) ?oi0_20M2 (by kernel_rfl) ?ff20M2 ?rr20M2 ?hq20M2 (Or.inl ⟨?hw20M2, ?hy20M2⟩) (by assumption) ?rest20M2
      case oi0_20M2 => conv => lhs; whnf; arg 1; whnf
      case hq20M2 => exact fun _ _ _ h => h
      case ff20M2 | rr20M2 => kernel_rfl
      case hw20M2 => rfl
      case hy20M2 => intro w hSw; (try dsimp only at hSw); first | (go_simp; done) | (go_simp; with_reducible rfl)
      try simp only [Act.put, List.setIfInBounds_toArray, List.set_cons_zero, List.set_cons_succ]
      refine wpAnyH_take (i := 21) (oi := ?oi21M2) (v := ?v21M2) ?oi0_21M2 (by kernel_rfl) ?ff21M2 ?rr21M2 ?hq21M2 (Or.inl ⟨?hw21M2, ?hy21M2⟩) (by assumption) ?rest21M2
      case oi0_21M2 => conv => lhs; whnf; arg 1; whnf
      case hq21M2 => exact fun _ _ _ h => h
      case ff21M2 | rr21M2 => kernel_rfl
      case hw21M2 => rfl
      case hy21M2 => intro w hSw; (try dsimp only at hSw); first | (go_simp; done) | (go_simp; with_reducible rfl)
      try simp only [Act.put, List.setIfInBounds_toArray, List.set_cons_zero, List.set_cons_succ]
      refine wpAnyH_take (i := 22) (oi := ?oi22M2) (v := ?v22M2) ?oi0_22M2 (by kernel_rfl) ?ff22M2 ?rr22M2 ?hq22M2 (Or.inl ⟨?hw22M2, ?hy22M2⟩) (by assumption) ?rest22M2
      case oi0_22M2 => conv => lhs; whnf; arg 1; whnf
      case hq22M2 => exact fun _ _ _ h => h
      case ff22M2 | rr22M2 => kernel_rfl
      case hw22M2 => rfl
      case hy22M2 => intro w hSw; (try dsimp only at hSw); first | (go_simp; done) | (go_simp; with_reducible rfl)
      try simp only [Act.put, List.setIfInBounds_toArray, List.set_cons_zero, List.set_cons_succ]
      refine wpAnyH_take (i := 23) (oi := ?oi23M2) (v := ?v23M2) ?oi0_23M2 (by kernel_rfl) ?ff23M2 ?rr23M2 ?hq23M2 (Or.inl ⟨?hw23M2, ?hy23M2⟩) (by assumption) ?rest23M2
      case oi0_23M2 => conv => lhs; whnf; arg 1; whnf
      case hq23M2 => exact fun _ _ _ h => h
      case ff23M2 | rr23M2 => kernel_rfl
      case hw23M2 => rfl
      case hy23M2 => intro w hSw; (try dsimp only at hSw); first | (go_simp; done) | (go_simp; with_reducible rfl)
      try simp only [Act.put, List.setIfInBounds_toArray, List.set_cons_zero, List.set_cons_succ]
      refine wpAnyH_take (i := 24) (oi := ?oi24M2) (v := ?v24M2) ?oi0_24M2 (by kernel_rfl) ?ff24M2 ?rr24M2 ?hq24M2 (Or.inl ⟨?hw24M2, ?hy24M2⟩) (by assumption) ?rest24M2
      case oi0_24M2 => conv => lhs; whnf; arg 1; whnf
      case hq24M2 => exact fun _ _ _ h => h
      case ff24M2 | rr24M2 => kernel_rfl
      case hw24M2 => rfl
      case hy24M2 => intro w hSw; (try dsimp only at hSw); first | (go_simp; done) | (go_simp; with_reducible rfl)
      try simp only [Act.put, List.setIfInBounds_toArray, List.set_cons_zero, List.set_cons_succ]
      refine wpAnyH_take (i := 25) (oi := ?oi25M2) (v := ?v25M2) ?oi0_25M2 (by kernel_rfl) ?ff25M2 ?rr25M2 ?hq25M2 (Or.inl ⟨?hw25M2, ?hy25M2⟩) (by assumption) ?rest25M2
      case oi0_25M2 => conv => lhs; whnf; arg 1; whnf
      case hq25M2 => exact fun _ _ _ h => h
      case ff25M2 | rr25M2 => kernel_rfl
      case hw25M2 => rfl
      case hy25M2 => intro w hSw; (try dsimp only at hSw); first | (go_simp; done) | (go_simp; with_reducible rfl)
      try simp only [Act.put, List.setIfInBounds_toArray, List.set_cons_zero, List.set_cons_succ]
      refine wpAnyH_take (i := 26) (oi := ?oi26M2) (v := ?v26M2) ?oi0_26M2 (by kernel_rfl) ?ff26M2 ?rr26M2 ?hq26M2 (Or.inl ⟨?hw26M2, ?hy26M2⟩) (by assumption) ?rest26M2
      case oi0_26M2 => conv => lhs; whnf; arg 1; whnf
      case hq26M2 => exact fun _ _ _ h => h
      case ff26M2 | rr26M2 => kernel_rfl
      case hw26M2 => rfl
      case hy26M2 => intro w hSw; (try dsimp only at hSw); first | (go_simp; done) | (go_simp; with_reducible rfl)
      try simp only [Act.put, List.setIfInBounds_toArray, List.set_cons_zero, List.set_cons_succ]
      refine wpAnyH_take (i := 27) (oi := ?oi27M2) (v := ?v27M2) ?oi0_27M2 (by kernel_rfl) ?ff27M2 ?rr27M2 ?hq27M2 (Or.inl ⟨?hw27M2, ?hy27M2⟩) (by assumption) ?rest27M2
      case oi0_27M2 => conv => lhs; whnf; arg 1; whnf
      case hq27M2 => exact fun _ _ _ h => h
      case ff27M2 | rr27M2 => kernel_rfl
      case hw27M2 => rfl
      case hy27M2 => intro w hSw; (try dsimp only at hSw); first | (go_simp; done) | (go_simp; with_reducible rfl)
      try simp only [Act.put, List.setIfInBounds_toArray, List.set_cons_zero, List.set_cons_succ]
      refine wpAnyH_take (i := 28) (oi := ?oi28M2) (v := ?v28M2) ?oi0_28M2 (by kernel_rfl) ?ff28M2 ?rr28M2 ?hq28M2 (Or.inl ⟨?hw28M2, ?hy28M2⟩) (by assumption) ?rest28M2
      case oi0_28M2 => conv => lhs; whnf; arg 1; whnf
      case hq28M2 => exact fun _ _ _ h => h
      case ff28M2 | rr28M2 => kernel_rfl
      case hw28M2 => rfl
      case hy28M2 => intro w hSw; (try dsimp only at hSw); first | (go_simp; done) | (go_simp; with_reducible rfl)
      try simp only [Act.put, List.setIfInBounds_toArray, List.set_cons_zero, List.set_cons_succ]
      refine wpAnyH_take (i := 29) (oi := ?oi29M2) (v := ?v29M2) ?oi0_29M2 (by kernel_rfl) ?ff29M2 ?rr29M2 ?hq29M2 (Or.inl ⟨?hw29M2, ?hy29M2⟩) (by assumption) ?rest29M2
      case oi0_29M2 => conv => lhs; whnf; arg 1; whnf
      case hq29M2 => exact fun _ _ _ h => h
      case ff29M2 | rr29M2 => kernel_rfl
      case hw29M2 => rfl
      case hy29M2 => intro w hSw; (try dsimp only at hSw); first | (go_simp; done) | (go_simp; with_reducible rfl)
      try simp only [Act.put, List.setIfInBounds_toArray, List.set_cons_zero, List.set_cons_succ]
      refine wpAnyH_take (i := 30) (oi := ?oi30M2) (v := ?v30M2) ?oi0_30M2 (by kernel_rfl) ?ff30M2 ?rr30M2 ?hq30M2 (Or.inl ⟨?hw30M2, ?hy30M2⟩) (by assumption) ?rest30M2
      case oi0_30M2 => conv => lhs; whnf; arg 1; whnf
      case hq30M2 => exact fun _ _ _ h => h
      case ff30M2 | rr30M2 => kernel_rfl
      case hw30M2 => rfl
      case hy30M2 => intro w hSw; (try dsimp only at hSw); first | (go_simp; done) | (go_simp; with_reducible rfl)
      try simp only [Act.put, List.setIfInBounds_toArray, List.set_cons_zero, List.set_cons_succ]
      refine wpAnyH_take (i := 31) (oi := ?oi31M2) (v := ?v31M2) ?oi0_31M2 (by kernel_rfl) ?ff31M2 ?rr31M2 ?hq31M2 (Or.inl ⟨?hw31M2, ?hy31M2⟩) (by assumption) ?rest31M2
      case oi0_31M2 => conv => lhs; whnf; arg 1; whnf
      case hq31M2 => exact fun _ _ _ h => h
      case ff31M2 | rr31M2 => kernel_rfl
      case hw31M2 => rfl
      case hy31M2 => intro w hSw; (try dsimp only at hSw); first | (go_simp; done) | (go_simp; with_reducible rfl)
      try simp only [Act.put, List.setIfInBounds_toArray, List.set_cons_zero, List.set_cons_succ]
      refine wpAnyH_take (i := 32) (oi := ?oi32M2) (v := ?v32M2) ?oi0_32M2 (by kernel_rfl) ?ff32M2 ?rr32M2 ?hq32M2 (Or.inl ⟨?hw32M2, ?hy32M2⟩) (by assumption) ?rest32M2
      case oi0_32M2 => conv => lhs; whnf; arg 1; whnf
      case hq32M2 => exact fun _ _ _ h => h
      case ff32M2 | rr32M2 => kernel_rfl
      case hw32M2 => rfl
      case hy32M2 => intro w hSw; (try dsimp only at hSw); first | (go_simp; done) | (go_simp; with_reducible rfl)
      try simp only [Act.put, List.setIfInBounds_toArray, List.set_cons_zero, List.set_cons_succ]
      refine wpAnyH_take (i := 33) (oi := ?oi33M2) (v := ?v33M2) ?oi0_33M2 (by kernel_rfl) ?ff33M2 ?rr33M2 ?hq33M2 (Or.inl ⟨?hw33M2, ?hy33M2⟩) (by assumption) ?rest33M2
      case oi0_33M2 => conv => lhs; whnf; arg 1; whnf
      case hq33M2 => exact fun _ _ _ h => h
      case ff33M2 | rr33M2 => kernel_rfl
      case hw33M2 => rfl
      case hy33M2 => intro w hSw; (try dsimp only at hSw); first | (go_simp; done) | (go_simp; with_reducible rfl)
      try simp only [Act.put, List.setIfInBounds_toArray, List.set_cons_zero, List.set_cons_succ]
      refine wpAnyH_take (i := 34) (oi := ?oi34M2) (v := ?v34M2) ?oi0_34M2 (by kernel_rfl) ?ff34M2 ?rr34M2 ?hq34M2 (Or.inl ⟨?hw34M2, ?hy34M2⟩) (by assumption) ?rest34M2
      case oi0_34M2 => conv => lhs; whnf; arg 1; whnf
      case hq34M2 => exact fun _ _ _ h => h
      case ff34M2 | rr34M2 => kernel_rfl
      case hw34M2 => rfl
      case hy34M2 => intro w hSw; (try dsimp only at hSw); first | (go_simp; done) | (go_simp; with_reducible rfl)
      try simp only [Act.put, List.setIfInBounds_toArray, List.set_cons_zero, List.set_cons_succ]
      refine wpAnyH_ready (rs := [35]) (by kernel_rfl) (by simp) (AllReadyH.cons (o := ?oi35M3) ?oi0_35M3 (fun K hK => ?_) AllReadyH.nil)
      case oi0_35M3 => conv => lhs; whnf; arg 1; whnf
      go_simp
      (try dsimp only)
      refine hK.out _ _ (by exact ⟨far_cell _ _ c0 (by simp; have := HLT.out; omega), far_cell _ _ c1 (by simp; have := HLT.out; omega), far_cell _ _ c2 (by simp; have := HLT.out; omega), far_cell _ _ c3 (by simp; have := HLT.out; omega)⟩) (fun hHeld => ?_)
      clear hK K
      try simp only [Act.put, List.setIfInBounds_toArray, List.set_cons_zero, List.set_cons_succ]
      refine wpAnyH_done (by kernel_rfl) ?_ _
      go_wp2_with fail
      go_roundw
      case rel => exact ⟨k + 1, by omega, by go_num, hide (by rw [List.take_add_one, HV.out, Option.toList_some, ← wCells_set _ _ (by rw [List.length_take, first16_length]; omega), List.length_take, first16_length, Nat.min_eq_left hk]; exact hB.out.drew.set_ k _), hide ((hu.out.drew).setCell (.inl (by simp)) _)⟩
      case measure => simp [intOf] <;> omega
    obtain rfl : k = 16 := by omega
    have B1 := hide (show Blk wo bw 214 (wCells (schedTo bs 0)) by have h9 := hB.out; rwa [List.take_of_length_le (by rw [first16_length]; exact Nat.le_refl _)] at h9)
    have U1 := hu
    clear hB hu
    go_wp2_with fail
    go_loopw [4] (fun s4 wr => ∃ i n : Nat, n + 16 = i ∧ n ≤ 48 ∧ s4 = .int .i64 i ∧ Hid (Blk wr bw 214 (wCells (schedTo bs n))) ∧ Hid (Upd [bw] w1 wr)) (fun s _ => 64 - (intOf s).toNat)
    case atStart => exact ⟨16, 0, rfl, Nat.zero_le _, rfl, B1, U1⟩
    case round =>
      obtain ⟨i, n, hin, hn, rfl, hB, hu⟩ := hrel
      obtain ⟨wx, rfl⟩ : ∃ x : World, x = wr := ⟨_, rfl⟩
      by_cases hn48 : n < 48
      case neg =>
        obtain rfl : n = 48 := by omega
        obtain rfl : i = 64 := by omega
        have H64 := hide (show wCells (schedTo bs 48) = (schedTo bs 48).map (Value.int .u32) by unfold wCells; rw [schedTo_length]; simp)
        have H64l := hide (show (wCells (schedTo bs 48)).length = 64 by rw [H64.out, List.length_map, schedTo_length])
        go_upto_region 11 with fail
        go_wp2_with (first
          | refine wpList_load_row rfl 214 _ rfl bw rfl 214 _ (0, 0) _ hB.out Tryz.underlying214 rfl (by rw [List.size_toArray, H64l.out]; kernel_rfl) ?_
          | refine wpList_store_row rfl 214 _ _ rfl bw _ rfl rfl 214 _ hB.out (by rw [List.size_toArray, H64l.out]; kernel_rfl) rfl (by rw [H64.out]; simp [Value.oneCell']) ?_)
        obtain ⟨we, hwe⟩ : ∃ x, wx.setRow bw (wCells (schedTo bs 48)).toArray = x := ⟨_, rfl⟩
        obtain rfl : wx = we := (setRow_same hB.out).symm.trans hwe
        clear hwe
        rw [setRow_same hB.out]
        refine bodyPost_ret (v := .agg ((schedTo bs 48).map (Value.int .u32)).toArray) ?_ rfl ⟨rfl, ?_⟩
        · rw [← H64.out]
          exact results_cell_row rfl _ wx bw _ _ (0, 0) _ rfl hB.out Tryz.underlying214 rfl (by rw [List.size_toArray, H64l.out]; kernel_rfl)
        · exact UW.out.trans (hu.out) (by simp; have := HBW.out; omega)

      have hi64 : i < 64 := by omega
      have hii : (i : Int) < 64 := by omega
      have hiw : IntKind.i64.wrap ((i : Int) + 1) = (i : Int) + 1 := Go.IntWalk.i64_in _ (by omega)
      obtain ⟨i16, he16⟩ : ∃ x, x + 16 = i := ⟨i - 16, by omega⟩
      have hw16 : IntKind.i64.wrap ((i : Int) - 16) = (i16 : Int) := by rw [Go.IntWalk.i64_in _ (by omega)]; omega
      have hl16 : (i16 : Int) < 64 := by omega
      have hm16 : i16 < 64 := by omega
      obtain ⟨x16, hx16⟩ : ∃ x, (schedTo bs n)[i16]? = some x := ⟨_, List.getElem?_eq_getElem (by rw [schedTo_length]; omega)⟩
      have c16 : wx.cell? ⟨bw, i16, none⟩ = some (.int .u32 x16) := (hB.out.cell i16).trans (wCells_at hx16)
      have hd16 := sched_word bs n x16 (List.mem_of_getElem? hx16)
      obtain ⟨i15, he15⟩ : ∃ x, x + 15 = i := ⟨i - 15, by omega⟩
      have hw15 : IntKind.i64.wrap ((i : Int) - 15) = (i15 : Int) := by rw [Go.IntWalk.i64_in _ (by omega)]; omega
      have hl15 : (i15 : Int) < 64 := by omega
      have hm15 : i15 < 64 := by omega
      obtain ⟨x15, hx15⟩ : ∃ x, (schedTo bs n)[i15]? = some x := ⟨_, List.getElem?_eq_getElem (by rw [schedTo_length]; omega)⟩
      have c15 : wx.cell? ⟨bw, i15, none⟩ = some (.int .u32 x15) := (hB.out.cell i15).trans (wCells_at hx15)
      have hd15 := sched_word bs n x15 (List.mem_of_getElem? hx15)
      obtain ⟨i7, he7⟩ : ∃ x, x + 7 = i := ⟨i - 7, by omega⟩
      have hw7 : IntKind.i64.wrap ((i : Int) - 7) = (i7 : Int) := by rw [Go.IntWalk.i64_in _ (by omega)]; omega
      have hl7 : (i7 : Int) < 64 := by omega
      have hm7 : i7 < 64 := by omega
      obtain ⟨x7, hx7⟩ : ∃ x, (schedTo bs n)[i7]? = some x := ⟨_, List.getElem?_eq_getElem (by rw [schedTo_length]; omega)⟩
      have c7 : wx.cell? ⟨bw, i7, none⟩ = some (.int .u32 x7) := (hB.out.cell i7).trans (wCells_at hx7)
      have hd7 := sched_word bs n x7 (List.mem_of_getElem? hx7)
      obtain ⟨i2, he2⟩ : ∃ x, x + 2 = i := ⟨i - 2, by omega⟩
      have hw2 : IntKind.i64.wrap ((i : Int) - 2) = (i2 : Int) := by rw [Go.IntWalk.i64_in _ (by omega)]; omega
      have hl2 : (i2 : Int) < 64 := by omega
      have hm2 : i2 < 64 := by omega
      obtain ⟨x2, hx2⟩ : ∃ x, (schedTo bs n)[i2]? = some x := ⟨_, List.getElem?_eq_getElem (by rw [schedTo_length]; omega)⟩
      have c2 : wx.cell? ⟨bw, i2, none⟩ = some (.int .u32 x2) := (hB.out.cell i2).trans (wCells_at hx2)
      have hd2 := sched_word bs n x2 (List.mem_of_getElem? hx2)
      have HS := hide (show schedTo bs (n + 1) = schedTo bs n ++ [schedNext x16 x15 x7 x2] by
        show schedTo bs n ++ [schedNext ((schedTo bs n)[n]?.getD 0) ((schedTo bs n)[n + 1]?.getD 0) ((schedTo bs n)[n + 9]?.getD 0) ((schedTo bs n)[n + 14]?.getD 0)] = _
        rw [show n = i16 by omega] at *
        rw [show i16 + 1 = i15 by omega, show i16 + 9 = i7 by omega, show i16 + 14 = i2 by omega, hx16, hx15, hx7, hx2]
        rfl)
      have HD15 := hide hd15
      have HD2 := hide hd2
      clear hd16 hd15 hd7 hd2 hx16 hx15 hx7 hx2
      have fz := hB.out.frozen i
      have ci : wx.cell? ⟨bw, i, none⟩ = some (.int .u32 0) := (hB.out.cell i).trans (wCells_free (by rw [schedTo_length]; omega) hi64)
      have hbwl := hB.out.lt
      go_wp2_with fail
      refine wp_region_held_drew (S := (fun w' => w'.cell? ⟨bw, i15, none⟩ = some (.int .u32 x15) ∧ w'.cell? ⟨bw, i2, none⟩ = some (.int .u32 x2))) (by kernel_rfl) (by exact ⟨c15, c2⟩) (fun hHeld => ?_)
      refine wpAnyH_take (i := 0) (oi := ?oi0M5) (v := ?v0M5) ?oi0_0M5 (by kernel_rfl) ?ff0M5 ?rr0M5 ?hq0M5 (Or.inl ⟨?hw0M5, ?hy0M5⟩) (by assumption) ?rest0M5
      case oi0_0M5 => conv => lhs; whnf; arg 1; whnf
      case hq0M5 => exact fun _ _ _ h => h
      case ff0M5 | rr0M5 => kernel_rfl
      case hw0M5 => rfl
      case hy0M5 => intro w hSw; (try dsimp only at hSw); first | (go_simp; done) | (go_simp; with_reducible rfl)
      try simp only [Act.put, List.setIfInBounds_toArray, List.set_cons_zero, List.set_cons_succ]
      refine wpAnyH_take (i := 1) (oi := ?oi1M5) (v := ?v1M5) ?oi0_1M5 (by kernel_rfl) ?ff1M5 ?rr1M5 ?hq1M5 (Or.inl ⟨?hw1M5, ?hy1M5⟩) (by assumption) ?rest1M5
      case oi0_1M5 => conv => lhs; whnf; arg 1; whnf
      case hq1M5 => exact fun _ _ _ h => h
      case ff1M5 | rr1M5 => kernel_rfl
      case hw1M5 => rfl
      case hy1M5 => intro w hSw; (try dsimp only at hSw); first | (go_simp; done) | (go_simp; with_reducible rfl)
      try simp only [Act.put, List.setIfInBounds_toArray, List.set_cons_zero, List.set_cons_succ]
      refine wpAnyH_take (i := 2) (oi := ?oi2M5) (v := ?v2M5) ?oi0_2M5 (by kernel_rfl) ?ff2M5 ?rr2M5 ?hq2M5 (Or.inl ⟨?hw2M5, ?hy2M5⟩) (by assumption) ?rest2M5
      case oi0_2M5 => conv => lhs; whnf; arg 1; whnf
      case hq2M5 => exact fun _ _ _ h => h
      case ff2M5 | rr2M5 => kernel_rfl
      case hw2M5 => rfl
      case hy2M5 => intro w hSw; (try dsimp only at hSw); first | (go_simp; done) | (go_simp; with_reducible rfl)
      try simp only [Act.put, List.setIfInBounds_toArray, List.set_cons_zero, List.set_cons_succ]
      refine wpAnyH_take (i := 3) (oi := ?oi3M5) (v := ?v3M5) ?oi0_3M5 (by kernel_rfl) ?ff3M5 ?rr3M5 ?hq3M5 (Or.inl ⟨?hw3M5, ?hy3M5⟩) (by assumption) ?rest3M5
      case oi0_3M5 => conv => lhs; whnf; arg 1; whnf
      case hq3M5 => exact fun _ _ _ h => h
      case ff3M5 | rr3M5 => kernel_rfl
      case hw3M5 => rfl
      case hy3M5 => intro w hSw; (try dsimp only at hSw); first | (go_simp; done) | (go_simp; with_reducible rfl)
      try simp only [Act.put, List.setIfInBounds_toArray, List.set_cons_zero, List.set_cons_succ]
      refine wpAnyH_take (i := 4) (oi := ?oi4M5) (v := ?v4M5) ?oi0_4M5 (by kernel_rfl) ?ff4M5 ?rr4M5 ?hq4M5 (Or.inl ⟨?hw4M5, ?hy4M5⟩) (by assumption) ?rest4M5
      case oi0_4M5 => conv => lhs; whnf; arg 1; whnf
      case hq4M5 => exact fun _ _ _ h => h
      case ff4M5 | rr4M5 => kernel_rfl
      case hw4M5 => rfl
      case hy4M5 => intro w hSw; (try dsimp only at hSw); first | (go_simp; done) | (go_simp; with_reducible rfl)
      try simp only [Act.put, List.setIfInBounds_toArray, List.set_cons_zero, List.set_cons_succ]
      refine wpAnyH_take (i := 5) (oi := ?oi5M5) (v := ?v5M5) ?oi0_5M5 (by kernel_rfl) ?ff5M5 ?rr5M5 ?hq5M5 (Or.inl ⟨?hw5M5, ?hy5M5⟩) (by assumption) ?rest5M5
      case oi0_5M5 => conv => lhs; whnf; arg 1; whnf
      case hq5M5 => exact fun _ _ _ h => h
      case ff5M5 | rr5M5 => kernel_rfl
      case hw5M5 => rfl
      case hy5M5 => intro w hSw; (try dsimp only at hSw); first | (go_simp; done) | (go_simp; with_reducible rfl)
      try simp only [Act.put, List.setIfInBounds_toArray, List.set_cons_zero, List.set_cons_succ]
      refine wpAnyH_take (i := 6) (oi := ?oi6M5) (v := ?v6M5) ?oi0_6M5 (by kernel_rfl) ?ff6M5 ?rr6M5 ?hq6M5 (Or.inl ⟨?hw6M5, ?hy6M5⟩) (by assumption) ?rest6M5
      case oi0_6M5 => conv => lhs; whnf; arg 1; whnf
      case hq6M5 => exact fun _ _ _ h => h
      case ff6M5 | rr6M5 => kernel_rfl
      case hw6M5 => rfl
      case hy6M5 => intro w hSw; (try dsimp only at hSw); first | (go_simp; done) | (go_simp; with_reducible rfl)
      try simp only [Act.put, List.setIfInBounds_toArray, List.set_cons_zero, List.set_cons_succ]
      refine wpAnyH_take (i := 7) (oi := ?oi7M5) (v := ?v7M5) ?oi0_7M5 (by kernel_rfl) ?ff7M5 ?rr7M5 ?hq7M5 (Or.inl ⟨?hw7M5, ?hy7M5⟩) (by assumption) ?rest7M5
      case oi0_7M5 => conv => lhs; whnf; arg 1; whnf
      case hq7M5 => exact fun _ _ _ h => h
      case ff7M5 | rr7M5 => kernel_rfl
      case hw7M5 => rfl
      case hy7M5 => intro w hSw; (try dsimp only at hSw); first | (go_simp; done) | (go_simp; with_reducible rfl)
      try simp only [Act.put, List.setIfInBounds_toArray, List.set_cons_zero, List.set_cons_succ]
      refine wpAnyH_take (i := 8) (oi := ?oi8M5) (v := ?v8M5) ?oi0_8M5 (by kernel_rfl) ?ff8M5 ?rr8M5 ?hq8M5 (Or.inl ⟨?hw8M5, ?hy8M5⟩) (by assumption) ?rest8M5
      case oi0_8M5 => conv => lhs; whnf; arg 1; whnf
      case hq8M5 => exact fun _ _ _ h => h
      case ff8M5 | rr8M5 => kernel_rfl
      case hw8M5 => rfl
      case hy8M5 => intro w hSw; (try dsimp only at hSw); first | (go_simp; done) | (go_simp; with_reducible rfl)
      try simp only [Act.put, List.setIfInBounds_toArray, List.set_cons_zero, List.set_cons_succ]
      refine wpAnyH_take (i := 9) (oi := ?oi9M5) (v := ?v9M5) ?oi0_9M5 (by kernel_rfl) ?ff9M5 ?rr9M5 ?hq9M5 (Or.inl ⟨?hw9M5, ?hy9M5⟩) (by assumption) ?rest9M5
      case oi0_9M5 => conv => lhs; whnf; arg 1; whnf
      case hq9M5 => exact fun _ _ _ h => h
      case ff9M5 | rr9M5 => kernel_rfl
      case hw9M5 => rfl
      case hy9M5 => intro w hSw; (try dsimp only at hSw); first | (go_simp; done) | (go_simp; with_reducible rfl)
      try simp only [Act.put, List.setIfInBounds_toArray, List.set_cons_zero, List.set_cons_succ]
      refine wpAnyH_done (by kernel_rfl) ?_ _
      obtain ⟨wy, hwy⟩ : ∃ x, wx.drew = x := ⟨_, rfl⟩
      have uy : Upd [] wx wy := by rw [← hwy]; exact (Upd.refl [] _).drew
      rw [hwy]
      clear hwy
      replace hB := hide (keepB hB.out uy)
      replace hu := hide (hu.out.trans uy (by simp))
      have C16 := hide (keepc _ _ _ _ uy c16)
      have C7 := hide (keepc _ _ _ _ uy c7)
      clear c16 c15 c7 c2 ci fz uy
      go_wp2_with fail
      refine wp_region_held_drew (S := (fun w' => w'.cell? ⟨bw, i16, none⟩ = some (.int .u32 x16) ∧ w'.cell? ⟨bw, i7, none⟩ = some (.int .u32 x7))) (by kernel_rfl) (by exact ⟨C16.out, C7.out⟩) (fun hHeld => ?_)
      obtain ⟨wz, hwz⟩ : ∃ x, wy.drew = x := ⟨_, rfl⟩
      have UZ := hide (show Upd [] wy wz by rw [← hwz]; exact (Upd.refl [] _).drew)
      rw [hwz] at hHeld ⊢
      clear hwz
      refine wpAnyH_take (i := 0) (oi := ?oi0M8) (v := ?v0M8) ?oi0_0M8 (by kernel_rfl) ?ff0M8 ?rr0M8 ?hq0M8 (Or.inl ⟨?hw0M8, ?hy0M8⟩) (by assumption) ?rest0M8
      case oi0_0M8 => conv => lhs; whnf; arg 1; whnf
      case hq0M8 => exact fun _ _ _ h => h
      case ff0M8 | rr0M8 => kernel_rfl
      case hw0M8 => rfl
      case hy0M8 => intro w hSw; (try dsimp only at hSw); first | (go_simp; done) | (go_simp; with_reducible rfl)
      try simp only [Act.put, List.setIfInBounds_toArray, List.set_cons_zero, List.set_cons_succ]
      refine wpAnyH_take (i := 1) (oi := ?oi1M8) (v := ?v1M8) ?oi0_1M8 (by kernel_rfl) ?ff1M8 ?rr1M8 ?hq1M8 (Or.inl ⟨?hw1M8, ?hy1M8⟩) (by assumption) ?rest1M8
      case oi0_1M8 => conv => lhs; whnf; arg 1; whnf
      case hq1M8 => exact fun _ _ _ h => h
      case ff1M8 | rr1M8 => kernel_rfl
      case hw1M8 => rfl
      case hy1M8 => intro w hSw; (try dsimp only at hSw); first | (go_simp; done) | (go_simp; with_reducible rfl)
      try simp only [Act.put, List.setIfInBounds_toArray, List.set_cons_zero, List.set_cons_succ]
      refine wpAnyH_take (i := 2) (oi := ?oi2M8) (v := ?v2M8) ?oi0_2M8 (by kernel_rfl) ?ff2M8 ?rr2M8 ?hq2M8 (Or.inl ⟨?hw2M8, ?hy2M8⟩) (by assumption) ?rest2M8
      case oi0_2M8 => conv => lhs; whnf; arg 1; whnf
      case hq2M8 => exact fun _ _ _ h => h
      case ff2M8 | rr2M8 => kernel_rfl
      case hw2M8 => rfl
      case hy2M8 => intro w hSw; (try dsimp only at hSw); first | (go_simp; done) | (go_simp; with_reducible rfl)
      try simp only [Act.put, List.setIfInBounds_toArray, List.set_cons_zero, List.set_cons_succ]
      refine wpAnyH_take (i := 3) (oi := ?oi3M8) (v := ?v3M8) ?oi0_3M8 (by kernel_rfl) ?ff3M8 ?rr3M8 ?hq3M8 (Or.inl ⟨?hw3M8, ?hy3M8⟩) (by assumption) ?rest3M8
      case oi0_3M8 => conv => lhs; whnf; arg 1; whnf
      case hq3M8 => exact fun _ _ _ h => h
      case ff3M8 | rr3M8 => kernel_rfl
      case hw3M8 => rfl
      case hy3M8 => intro w hSw; (try dsimp only at hSw); first | (go_simp; done) | (go_simp; with_reducible rfl)
      try simp only [Act.put, List.setIfInBounds_toArray, List.set_cons_zero, List.set_cons_succ]
      refine wpAnyH_take (i := 4) (oi := ?oi4M8) (v := ?v4M8) ?oi0_4M8 (by kernel_rfl) ?ff4M8 ?rr4M8 ?hq4M8 (Or.inl ⟨?hw4M8, ?hy4M8⟩) (by assumption) ?rest4M8
      case oi0_4M8 => conv => lhs; whnf; arg 1; whnf
      case hq4M8 => exact fun _ _ _ h => h
      case ff4M8 | rr4M8 => kernel_rfl
      case hw4M8 => rfl
      case hy4M8 => intro w hSw; (try dsimp only at hSw); first | (go_simp; done) | (go_simp; with_reducible rfl)
      try simp only [Act.put, List.setIfInBounds_toArray, List.set_cons_zero, List.set_cons_succ]
      refine wpAnyH_take (i := 5) (oi := ?oi5M8) (v := ?v5M8) ?oi0_5M8 (by kernel_rfl) ?ff5M8 ?rr5M8 ?hq5M8 (Or.inl ⟨?hw5M8, ?hy5M8⟩) (by assumption) ?rest5M8
      case oi0_5M8 => conv => lhs; whnf; arg 1; whnf
      case hq5M8 => exact fun _ _ _ h => h
      case ff5M8 | rr5M8 => kernel_rfl
      case hw5M8 => rfl
      case hy5M8 => intro w hSw; (try dsimp only at hSw); first | (go_simp; done) | (go_simp; with_reducible rfl)
      try simp only [Act.put, List.setIfInBounds_toArray, List.set_cons_zero, List.set_cons_succ]
      refine wpAnyH_take (i := 8) (oi := ?oi8M8) (v := ?v8M8) ?oi0_8M8 (by kernel_rfl) ?ff8M8 ?rr8M8 ?hq8M8 (Or.inl ⟨?hw8M8, ?hy8M8⟩) (by assumption) ?rest8M8
      case oi0_8M8 => conv => lhs; whnf; arg 1; whnf
      case hq8M8 => exact fun _ _ _ h => h
      case ff8M8 | rr8M8 => kernel_rfl
      case hw8M8 => rfl
      case hy8M8 => intro w hSw; (try dsimp only at hSw); first | (go_simp; done) | (go_simp; with_reducible rfl)
      try simp only [Act.put, List.setIfInBounds_toArray, List.set_cons_zero, List.set_cons_succ]
      refine wpAnyH_take (i := 9) (oi := ?oi9M8) (v := ?v9M8) ?oi0_9M8 (by kernel_rfl) ?ff9M8 ?rr9M8 ?hq9M8 (Or.inl ⟨?hw9M8, ?hy9M8⟩) (by assumption) ?rest9M8
      case oi0_9M8 => conv => lhs; whnf; arg 1; whnf
      case hq9M8 => exact fun _ _ _ h => h
      case ff9M8 | rr9M8 => kernel_rfl
      case hw9M8 => rfl
      case hy9M8 => intro w hSw; (try dsimp only at hSw); first | (go_simp; done) | (go_simp; with_reducible rfl)
      try simp only [Act.put, List.setIfInBounds_toArray, List.set_cons_zero, List.set_cons_succ]
      refine wpAnyH_take (i := 12) (oi := ?oi12M8) (v := ?v12M8) ?oi0_12M8 (by kernel_rfl) ?ff12M8 ?rr12M8 ?hq12M8 (Or.inl ⟨?hw12M8, ?hy12M8⟩) (by assumption) ?rest12M8
      case oi0_12M8 => conv => lhs; whnf; arg 1; whnf
      case hq12M8 => exact fun _ _ _ h => h
      case ff12M8 | rr12M8 => kernel_rfl
      case hw12M8 => rfl
      case hy12M8 => intro w hSw; (try dsimp only at hSw); first | (go_simp; done) | (go_simp; with_reducible rfl)
      try simp only [Act.put, List.setIfInBounds_toArray, List.set_cons_zero, List.set_cons_succ]
      refine wpAnyH_take (i := 13) (oi := ?oi13M8) (v := ?v13M8) ?oi0_13M8 (by kernel_rfl) ?ff13M8 ?rr13M8 ?hq13M8 (Or.inl ⟨?hw13M8, ?hy13M8⟩) (by assumption) ?rest13M8
      case oi0_13M8 => conv => lhs; whnf; arg 1; whnf
      case hq13M8 => exact fun _ _ _ h => h
      case ff13M8 | rr13M8 => kernel_rfl
      case hw13M8 => rfl
      case hy13M8 => intro w hSw; (try dsimp only at hSw); first | (go_simp; done) | (go_simp; with_reducible rfl)
      try simp only [Act.put, List.setIfInBounds_toArray, List.set_cons_zero, List.set_cons_succ]
      refine wpAnyH_take (i := 14) (oi := ?oi14M8) (v := ?v14M8) ?oi0_14M8 (by kernel_rfl) ?ff14M8 ?rr14M8 ?hq14M8 (Or.inl ⟨?hw14M8, ?hy14M8⟩) (by assumption) ?rest14M8
      case oi0_14M8 => conv => lhs; whnf; arg 1; whnf
      case hq14M8 => exact fun _ _ _ h => h
      case ff14M8 | rr14M8 => kernel_rfl
      case hw14M8 => rfl
      case hy14M8 => intro w hSw; (try dsimp only at hSw); first | (go_simp; done) | (go_simp; with_reducible rfl)
      try simp only [Act.put, List.setIfInBounds_toArray, List.set_cons_zero, List.set_cons_succ]
      refine wpAnyH_take (i := 15) (oi := ?oi15M8) (v := ?v15M8) ?oi0_15M8 (by kernel_rfl) ?ff15M8 ?rr15M8 ?hq15M8 (Or.inl ⟨?hw15M8, ?hy15M8⟩) (by assumption) ?rest15M8
      case oi0_15M8 => conv => lhs; whnf; arg 1; whnf
      case hq15M8 => exact fun _ _ _ h => h
      case ff15M8 | rr15M8 => kernel_rfl
      case hw15M8 => rfl
      case hy15M8 => intro w hSw; (try dsimp only at hSw); first | (go_simp; done) | (go_simp; with_reducible rfl)
      try simp only [Act.put, List.setIfInBounds_toArray, List.set_cons_zero, List.set_cons_succ]
      refine wpAnyH_take (i := 17) (oi := ?oi17M8) (v := ?v17M8) ?oi0_17M8 (by kernel_rfl) ?ff17M8 ?rr17M8 ?hq17M8 (Or.inl ⟨?hw17M8, ?hy17M8⟩) (by assumption) ?rest17M8
      case oi0_17M8 => conv => lhs; whnf; arg 1; whnf
      case hq17M8 => exact fun _ _ _ h => h
      case ff17M8 | rr17M8 => kernel_rfl
      case hw17M8 => rfl
      case hy17M8 => intro w hSw; (try dsimp only at hSw); first | (go_simp; done) | (go_simp; with_reducible rfl)
      try simp only [Act.put, List.setIfInBounds_toArray, List.set_cons_zero, List.set_cons_succ]
      refine wpAnyH_take (i := 20) (oi := ?oi20M8) (v := ?v20M8) ?oi0_20M8 (by kernel_rfl) ?ff20M8 ?rr20M8 ?hq20M8 (Or.inl ⟨?hw20M8, ?hy20M8⟩) (by assumption) ?rest20M8
      case oi0_20M8 => conv => lhs; whnf; arg 1; whnf
      case hq20M8 => exact fun _ _ _ h => h
      case ff20M8 | rr20M8 => kernel_rfl
      case hw20M8 => rfl
      case hy20M8 => intro w hSw; (try dsimp only at hSw); first | (go_simp; done) | (go_simp; with_reducible rfl)
      try simp only [Act.put, List.setIfInBounds_toArray, List.set_cons_zero, List.set_cons_succ]
      refine wpAnyH_take (i := 21) (oi := ?oi21M8) (v := ?v21M8) ?oi0_21M8 (by kernel_rfl) ?ff21M8 ?rr21M8 ?hq21M8 (Or.inl ⟨?hw21M8, ?hy21M8⟩) (by assumption) ?rest21M8
      case oi0_21M8 => conv => lhs; whnf; arg 1; whnf
      case hq21M8 => exact fun _ _ _ h => h
      case ff21M8 | rr21M8 => kernel_rfl
      case hw21M8 => rfl
      case hy21M8 => intro w hSw; (try dsimp only at hSw); first | (go_simp; done) | (go_simp; with_reducible rfl)
      try simp only [Act.put, List.setIfInBounds_toArray, List.set_cons_zero, List.set_cons_succ]
      refine wpAnyH_ready (rs := [6, 18]) (by kernel_rfl) (by simp) (AllReadyH.cons (o := ?oi6O9) ?oi0_6O9 (fun K hK => ?k6O9) (AllReadyH.cons (o := ?oi18O9) ?oi0_18O9 (fun K hK => ?k18O9) (AllReadyH.nil)))
      case oi0_6O9 => conv => lhs; whnf; arg 1; whnf
      case oi0_18O9 => conv => lhs; whnf; arg 1; whnf
      case k6O9 =>
        go_simp
        obtain ⟨wl1, hwl⟩ : ∃ x, wz.alloc (.cells #[.int .i64 7, .int .i64 18] 3) = x := ⟨_, rfl⟩
        have ul : Upd [] wz wl1 := by rw [← hwl]; exact (Upd.refl [] _).alloc _
        have L1 := hide (show Blk wl1 wz.heap.size 3 [.int .i64 7, .int .i64 18] by rw [← hwl]; exact Blk.new wz _ _)
        have UO1 := hide (UZ.out.trans ul (by simp))
        rw [hwl]
        clear hwl ul
        (try dsimp only)
        refine hK.out _ _ (by exact ⟨keepc _ _ _ _ UO1.out C16.out, keepc _ _ _ _ UO1.out C7.out⟩) (fun hHeld => ?_)
        clear hK K
        try simp only [Act.put, List.setIfInBounds_toArray, List.set_cons_zero, List.set_cons_succ]
        refine wpAnyH_ready (rs := [7, 18]) (by kernel_rfl) (by simp) (AllReadyH.cons (o := ?oi7O10) ?oi0_7O10 (fun K hK => ?k7O10) (AllReadyH.cons (o := ?oi18O10) ?oi0_18O10 (fun K hK => ?k18O10) (AllReadyH.nil)))
        case oi0_7O10 => conv => lhs; whnf; arg 1; whnf
        case oi0_18O10 => conv => lhs; whnf; arg 1; whnf
        case k7O10 =>
          go_simp
          go_at_call 145
          with_reducible (refine (mixed_two 7 18 x15 _ wl1 (by decide) HD15.out L1.out).mono ?_)
          rintro e w' ⟨rfl, rfl⟩
          (try dsimp only)
          refine hK.out _ _ (by exact ⟨keepc _ _ _ _ UO1.out C16.out, keepc _ _ _ _ UO1.out C7.out⟩) (fun hHeld => ?_)
          clear hK K
          try simp only [Act.put, List.setIfInBounds_toArray, List.set_cons_zero, List.set_cons_succ]
          refine wpAnyH_take (i := 10) (oi := ?oi10M11) (v := ?v10M11) ?oi0_10M11 (by kernel_rfl) ?ff10M11 ?rr10M11 ?hq10M11 (Or.inl ⟨?hw10M11, ?hy10M11⟩) (by assumption) ?rest10M11
          case oi0_10M11 => conv => lhs; whnf; arg 1; whnf
          case hq10M11 => exact fun _ _ _ h => h
          case ff10M11 | rr10M11 => kernel_rfl
          case hw10M11 => rfl
          case hy10M11 => intro w hSw; (try dsimp only at hSw); first | (go_simp; done) | (go_simp; with_reducible rfl)
          try simp only [Act.put, List.setIfInBounds_toArray, List.set_cons_zero, List.set_cons_succ]
          refine wpAnyH_take (i := 11) (oi := ?oi11M11) (v := ?v11M11) ?oi0_11M11 (by kernel_rfl) ?ff11M11 ?rr11M11 ?hq11M11 (Or.inl ⟨?hw11M11, ?hy11M11⟩) (by assumption) ?rest11M11
          case oi0_11M11 => conv => lhs; whnf; arg 1; whnf
          case hq11M11 => exact fun _ _ _ h => h
          case ff11M11 | rr11M11 => kernel_rfl
          case hw11M11 => rfl
          case hy11M11 => intro w hSw; (try dsimp only at hSw); first | (go_simp; done) | (go_simp; with_reducible rfl)
          try simp only [Act.put, List.setIfInBounds_toArray, List.set_cons_zero, List.set_cons_succ]
          refine wpAnyH_take (i := 16) (oi := ?oi16M11) (v := ?v16M11) ?oi0_16M11 (by kernel_rfl) ?ff16M11 ?rr16M11 ?hq16M11 (Or.inl ⟨?hw16M11, ?hy16M11⟩) (by assumption) ?rest16M11
          case oi0_16M11 => conv => lhs; whnf; arg 1; whnf
          case hq16M11 => exact fun _ _ _ h => h
          case ff16M11 | rr16M11 => kernel_rfl
          case hw16M11 => rfl
          case hy16M11 => intro w hSw; (try dsimp only at hSw); first | (go_simp; done) | (go_simp; with_reducible rfl)
          try simp only [Act.put, List.setIfInBounds_toArray, List.set_cons_zero, List.set_cons_succ]
          refine wpAnyH_ready (rs := [18]) (by kernel_rfl) (by simp) (AllReadyH.cons (o := ?oi18O12) ?oi0_18O12 (fun K hK => ?k18O12) (AllReadyH.nil))
          case oi0_18O12 => conv => lhs; whnf; arg 1; whnf
          case k18O12 =>
            go_simp
            obtain ⟨wl3, hwl⟩ : ∃ x, wl1.alloc (.cells #[.int .i64 17, .int .i64 19] 3) = x := ⟨_, rfl⟩
            have ul : Upd [] wl1 wl3 := by rw [← hwl]; exact (Upd.refl [] _).alloc _
            have L3 := hide (show Blk wl3 wl1.heap.size 3 [.int .i64 17, .int .i64 19] by rw [← hwl]; exact Blk.new wl1 _ _)
            have L1_3 := hide (keepB L1.out ul)
            have UO3 := hide (UO1.out.trans ul (by simp))
            rw [hwl]
            clear hwl ul
            (try dsimp only)
            refine hK.out _ _ (by exact ⟨keepc _ _ _ _ UO3.out C16.out, keepc _ _ _ _ UO3.out C7.out⟩) (fun hHeld => ?_)
            clear hK K
            try simp only [Act.put, List.setIfInBounds_toArray, List.set_cons_zero, List.set_cons_succ]
            refine wpAnyH_ready (rs := [19]) (by kernel_rfl) (by simp) (AllReadyH.cons (o := ?oi19O13) ?oi0_19O13 (fun K hK => ?k19O13) (AllReadyH.nil))
            case oi0_19O13 => conv => lhs; whnf; arg 1; whnf
            case k19O13 =>
              go_simp
              go_at_call 145
              with_reducible (refine (mixed_two 17 19 x2 _ wl3 (by decide) HD2.out L3.out).mono ?_)
              rintro e w' ⟨rfl, rfl⟩
              (try dsimp only)
              refine hK.out _ _ (by exact ⟨keepc _ _ _ _ UO3.out C16.out, keepc _ _ _ _ UO3.out C7.out⟩) (fun hHeld => ?_)
              clear hK K
              try simp only [Act.put, List.setIfInBounds_toArray, List.set_cons_zero, List.set_cons_succ]
              refine wpAnyH_take (i := 22) (oi := ?oi22M14) (v := ?v22M14) ?oi0_22M14 (by kernel_rfl) ?ff22M14 ?rr22M14 ?hq22M14 (Or.inl ⟨?hw22M14, ?hy22M14⟩) (by assumption) ?rest22M14
              case oi0_22M14 => conv => lhs; whnf; arg 1; whnf
              case hq22M14 => exact fun _ _ _ h => h
              case ff22M14 | rr22M14 => kernel_rfl
              case hw22M14 => rfl
              case hy22M14 => intro w hSw; (try dsimp only at hSw); first | (go_simp; done) | (go_simp; with_reducible rfl)
              try simp only [Act.put, List.setIfInBounds_toArray, List.set_cons_zero, List.set_cons_succ]
              refine wpAnyH_take (i := 23) (oi := ?oi23M14) (v := ?v23M14) ?oi0_23M14 (by kernel_rfl) ?ff23M14 ?rr23M14 ?hq23M14 (Or.inl ⟨?hw23M14, ?hy23M14⟩) (by assumption) ?rest23M14
              case oi0_23M14 => conv => lhs; whnf; arg 1; whnf
              case hq23M14 => exact fun _ _ _ h => h
              case ff23M14 | rr23M14 => kernel_rfl
              case hw23M14 => rfl
              case hy23M14 => intro w hSw; (try dsimp only at hSw); first | (go_simp; done) | (go_simp; with_reducible rfl)
              try simp only [Act.put, List.setIfInBounds_toArray, List.set_cons_zero, List.set_cons_succ]
              refine wpAnyH_take (i := 24) (oi := ?oi24M14) (v := ?v24M14) ?oi0_24M14 (by kernel_rfl) ?ff24M14 ?rr24M14 ?hq24M14 (Or.inl ⟨?hw24M14, ?hy24M14⟩) (by assumption) ?rest24M14
              case oi0_24M14 => conv => lhs; whnf; arg 1; whnf
              case hq24M14 => exact fun _ _ _ h => h
              case ff24M14 | rr24M14 => kernel_rfl
              case hw24M14 => rfl
              case hy24M14 => intro w hSw; (try dsimp only at hSw); first | (go_simp; done) | (go_simp; with_reducible rfl)
              try simp only [Act.put, List.setIfInBounds_toArray, List.set_cons_zero, List.set_cons_succ]
              have cq := (keepB hB.out UO3.out).cell i |>.trans (wCells_free (by rw [schedTo_length]; omega) hi64)
              have fq := (keepB hB.out UO3.out).frozen i
              have lq := (keepB hB.out UO3.out).lt
              refine wpAnyH_ready (rs := [25]) (by kernel_rfl) (by simp) (AllReadyH.cons (o := ?oi25M15) ?oi0_25M15 (fun K hK => ?_) AllReadyH.nil)
              case oi0_25M15 => conv => lhs; whnf; arg 1; whnf
              go_simp
              (try dsimp only)
              refine hK.out _ _ (by exact ⟨far_at (j := i) _ (keepB hB.out UO3.out) (keepc _ _ _ _ UO3.out C16.out) (by omega), far_at (j := i) _ (keepB hB.out UO3.out) (keepc _ _ _ _ UO3.out C7.out) (by omega)⟩) (fun hHeld => ?_)
              clear hK K
              try simp only [Act.put, List.setIfInBounds_toArray, List.set_cons_zero, List.set_cons_succ]
              refine wpAnyH_done (by kernel_rfl) ?_ _
              go_wp2_with fail
              go_roundw
              case rel =>
                (repeat apply Exists.intro)
                refine ⟨?relb, rfl⟩
                case relb => exact ⟨i + 1, n + 1, by omega, by omega, by go_num, hide (by rw [HS.out, ← wCells_set _ _ (by rw [schedTo_length]; omega), schedTo_length, hin]; exact (keepB hB.out UO3.out).set_ i _), hide ((hu.out.trans UO3.out (by simp)).setCell (.inl (by simp)) _)⟩
              case measure => simp [intOf] <;> omega
        case k18O10 =>
          go_simp
          obtain ⟨wl5, hwl⟩ : ∃ x, wl1.alloc (.cells #[.int .i64 17, .int .i64 19] 3) = x := ⟨_, rfl⟩
          have ul : Upd [] wl1 wl5 := by rw [← hwl]; exact (Upd.refl [] _).alloc _
          have L5 := hide (show Blk wl5 wl1.heap.size 3 [.int .i64 17, .int .i64 19] by rw [← hwl]; exact Blk.new wl1 _ _)
          have L1_5 := hide (keepB L1.out ul)
          have UO5 := hide (UO1.out.trans ul (by simp))
          rw [hwl]
          clear hwl ul
          (try dsimp only)
          refine hK.out _ _ (by exact ⟨keepc _ _ _ _ UO5.out C16.out, keepc _ _ _ _ UO5.out C7.out⟩) (fun hHeld => ?_)
          clear hK K
          try simp only [Act.put, List.setIfInBounds_toArray, List.set_cons_zero, List.set_cons_succ]
          refine wpAnyH_ready (rs := [7]) (by kernel_rfl) (by simp) (AllReadyH.cons (o := ?oi7O16) ?oi0_7O16 (fun K hK => ?k7O16) (AllReadyH.nil))
          case oi0_7O16 => conv => lhs; whnf; arg 1; whnf
          case k7O16 =>
            go_simp
            go_at_call 145
            with_reducible (refine (mixed_two 7 18 x15 _ wl5 (by decide) HD15.out L1_5.out).mono ?_)
            rintro e w' ⟨rfl, rfl⟩
            (try dsimp only)
            refine hK.out _ _ (by exact ⟨keepc _ _ _ _ UO5.out C16.out, keepc _ _ _ _ UO5.out C7.out⟩) (fun hHeld => ?_)
            clear hK K
            try simp only [Act.put, List.setIfInBounds_toArray, List.set_cons_zero, List.set_cons_succ]
            refine wpAnyH_take (i := 10) (oi := ?oi10M17) (v := ?v10M17) ?oi0_10M17 (by kernel_rfl) ?ff10M17 ?rr10M17 ?hq10M17 (Or.inl ⟨?hw10M17, ?hy10M17⟩) (by assumption) ?rest10M17
            case oi0_10M17 => conv => lhs; whnf; arg 1; whnf
            case hq10M17 => exact fun _ _ _ h => h
            case ff10M17 | rr10M17 => kernel_rfl
            case hw10M17 => rfl
            case hy10M17 => intro w hSw; (try dsimp only at hSw); first | (go_simp; done) | (go_simp; with_reducible rfl)
            try simp only [Act.put, List.setIfInBounds_toArray, List.set_cons_zero, List.set_cons_succ]
            refine wpAnyH_take (i := 11) (oi := ?oi11M17) (v := ?v11M17) ?oi0_11M17 (by kernel_rfl) ?ff11M17 ?rr11M17 ?hq11M17 (Or.inl ⟨?hw11M17, ?hy11M17⟩) (by assumption) ?rest11M17
            case oi0_11M17 => conv => lhs; whnf; arg 1; whnf
            case hq11M17 => exact fun _ _ _ h => h
            case ff11M17 | rr11M17 => kernel_rfl
            case hw11M17 => rfl
            case hy11M17 => intro w hSw; (try dsimp only at hSw); first | (go_simp; done) | (go_simp; with_reducible rfl)
            try simp only [Act.put, List.setIfInBounds_toArray, List.set_cons_zero, List.set_cons_succ]
            refine wpAnyH_take (i := 16) (oi := ?oi16M17) (v := ?v16M17) ?oi0_16M17 (by kernel_rfl) ?ff16M17 ?rr16M17 ?hq16M17 (Or.inl ⟨?hw16M17, ?hy16M17⟩) (by assumption) ?rest16M17
            case oi0_16M17 => conv => lhs; whnf; arg 1; whnf
            case hq16M17 => exact fun _ _ _ h => h
            case ff16M17 | rr16M17 => kernel_rfl
            case hw16M17 => rfl
            case hy16M17 => intro w hSw; (try dsimp only at hSw); first | (go_simp; done) | (go_simp; with_reducible rfl)
            try simp only [Act.put, List.setIfInBounds_toArray, List.set_cons_zero, List.set_cons_succ]
            refine wpAnyH_ready (rs := [19]) (by kernel_rfl) (by simp) (AllReadyH.cons (o := ?oi19O18) ?oi0_19O18 (fun K hK => ?k19O18) (AllReadyH.nil))
            case oi0_19O18 => conv => lhs; whnf; arg 1; whnf
            case k19O18 =>
              go_simp
              go_at_call 145
              with_reducible (refine (mixed_two 17 19 x2 _ wl5 (by decide) HD2.out L5.out).mono ?_)
              rintro e w' ⟨rfl, rfl⟩
              (try dsimp only)
              refine hK.out _ _ (by exact ⟨keepc _ _ _ _ UO5.out C16.out, keepc _ _ _ _ UO5.out C7.out⟩) (fun hHeld => ?_)
              clear hK K
              try simp only [Act.put, List.setIfInBounds_toArray, List.set_cons_zero, List.set_cons_succ]
              refine wpAnyH_take (i := 22) (oi := ?oi22M19) (v := ?v22M19) ?oi0_22M19 (by kernel_rfl) ?ff22M19 ?rr22M19 ?hq22M19 (Or.inl ⟨?hw22M19, ?hy22M19⟩) (by assumption) ?rest22M19
              case oi0_22M19 => conv => lhs; whnf; arg 1; whnf
              case hq22M19 => exact fun _ _ _ h => h
              case ff22M19 | rr22M19 => kernel_rfl
              case hw22M19 => rfl
              case hy22M19 => intro w hSw; (try dsimp only at hSw); first | (go_simp; done) | (go_simp; with_reducible rfl)
              try simp only [Act.put, List.setIfInBounds_toArray, List.set_cons_zero, List.set_cons_succ]
              refine wpAnyH_take (i := 23) (oi := ?oi23M19) (v := ?v23M19) ?oi0_23M19 (by kernel_rfl) ?ff23M19 ?rr23M19 ?hq23M19 (Or.inl ⟨?hw23M19, ?hy23M19⟩) (by assumption) ?rest23M19
              case oi0_23M19 => conv => lhs; whnf; arg 1; whnf
              case hq23M19 => exact fun _ _ _ h => h
              case ff23M19 | rr23M19 => kernel_rfl
              case hw23M19 => rfl
              case hy23M19 => intro w hSw; (try dsimp only at hSw); first | (go_simp; done) | (go_simp; with_reducible rfl)
              try simp only [Act.put, List.setIfInBounds_toArray, List.set_cons_zero, List.set_cons_succ]
              refine wpAnyH_take (i := 24) (oi := ?oi24M19) (v := ?v24M19) ?oi0_24M19 (by kernel_rfl) ?ff24M19 ?rr24M19 ?hq24M19 (Or.inl ⟨?hw24M19, ?hy24M19⟩) (by assumption) ?rest24M19
              case oi0_24M19 => conv => lhs; whnf; arg 1; whnf
              case hq24M19 => exact fun _ _ _ h => h
              case ff24M19 | rr24M19 => kernel_rfl
              case hw24M19 => rfl
              case hy24M19 => intro w hSw; (try dsimp only at hSw); first | (go_simp; done) | (go_simp; with_reducible rfl)
              try simp only [Act.put, List.setIfInBounds_toArray, List.set_cons_zero, List.set_cons_succ]
              have cq := (keepB hB.out UO5.out).cell i |>.trans (wCells_free (by rw [schedTo_length]; omega) hi64)
              have fq := (keepB hB.out UO5.out).frozen i
              have lq := (keepB hB.out UO5.out).lt
              refine wpAnyH_ready (rs := [25]) (by kernel_rfl) (by simp) (AllReadyH.cons (o := ?oi25M20) ?oi0_25M20 (fun K hK => ?_) AllReadyH.nil)
              case oi0_25M20 => conv => lhs; whnf; arg 1; whnf
              go_simp
              (try dsimp only)
              refine hK.out _ _ (by exact ⟨far_at (j := i) _ (keepB hB.out UO5.out) (keepc _ _ _ _ UO5.out C16.out) (by omega), far_at (j := i) _ (keepB hB.out UO5.out) (keepc _ _ _ _ UO5.out C7.out) (by omega)⟩) (fun hHeld => ?_)
              clear hK K
              try simp only [Act.put, List.setIfInBounds_toArray, List.set_cons_zero, List.set_cons_succ]
              refine wpAnyH_done (by kernel_rfl) ?_ _
              go_wp2_with fail
              go_roundw
              case rel =>
                (repeat apply Exists.intro)
                refine ⟨?relb, rfl⟩
                case relb => exact ⟨i + 1, n + 1, by omega, by omega, by go_num, hide (by rw [HS.out, ← wCells_set _ _ (by rw [schedTo_length]; omega), schedTo_length, hin]; exact (keepB hB.out UO5.out).set_ i _), hide ((hu.out.trans UO5.out (by simp)).setCell (.inl (by simp)) _)⟩
              case measure => simp [intOf] <;> omega
      case k18O9 =>
        go_simp
        obtain ⟨wl8, hwl⟩ : ∃ x, wz.alloc (.cells #[.int .i64 17, .int .i64 19] 3) = x := ⟨_, rfl⟩
        have ul : Upd [] wz wl8 := by rw [← hwl]; exact (Upd.refl [] _).alloc _
        have L8 := hide (show Blk wl8 wz.heap.size 3 [.int .i64 17, .int .i64 19] by rw [← hwl]; exact Blk.new wz _ _)
        have UO8 := hide (UZ.out.trans ul (by simp))
        rw [hwl]
        clear hwl ul
        (try dsimp only)
        refine hK.out _ _ (by exact ⟨keepc _ _ _ _ UO8.out C16.out, keepc _ _ _ _ UO8.out C7.out⟩) (fun hHeld => ?_)
        clear hK K
        try simp only [Act.put, List.setIfInBounds_toArray, List.set_cons_zero, List.set_cons_succ]
        refine wpAnyH_ready (rs := [6]) (by kernel_rfl) (by simp) (AllReadyH.cons (o := ?oi6O21) ?oi0_6O21 (fun K hK => ?k6O21) (AllReadyH.nil))
        case oi0_6O21 => conv => lhs; whnf; arg 1; whnf
        case k6O21 =>
          go_simp
          obtain ⟨wl9, hwl⟩ : ∃ x, wl8.alloc (.cells #[.int .i64 7, .int .i64 18] 3) = x := ⟨_, rfl⟩
          have ul : Upd [] wl8 wl9 := by rw [← hwl]; exact (Upd.refl [] _).alloc _
          have L9 := hide (show Blk wl9 wl8.heap.size 3 [.int .i64 7, .int .i64 18] by rw [← hwl]; exact Blk.new wl8 _ _)
          have L8_9 := hide (keepB L8.out ul)
          have UO9 := hide (UO8.out.trans ul (by simp))
          rw [hwl]
          clear hwl ul
          (try dsimp only)
          refine hK.out _ _ (by exact ⟨keepc _ _ _ _ UO9.out C16.out, keepc _ _ _ _ UO9.out C7.out⟩) (fun hHeld => ?_)
          clear hK K
          try simp only [Act.put, List.setIfInBounds_toArray, List.set_cons_zero, List.set_cons_succ]
          refine wpAnyH_ready (rs := [7]) (by kernel_rfl) (by simp) (AllReadyH.cons (o := ?oi7O22) ?oi0_7O22 (fun K hK => ?k7O22) (AllReadyH.nil))
          case oi0_7O22 => conv => lhs; whnf; arg 1; whnf
          case k7O22 =>
            go_simp
            go_at_call 145
            with_reducible (refine (mixed_two 7 18 x15 _ wl9 (by decide) HD15.out L9.out).mono ?_)
            rintro e w' ⟨rfl, rfl⟩
            (try dsimp only)
            refine hK.out _ _ (by exact ⟨keepc _ _ _ _ UO9.out C16.out, keepc _ _ _ _ UO9.out C7.out⟩) (fun hHeld => ?_)
            clear hK K
            try simp only [Act.put, List.setIfInBounds_toArray, List.set_cons_zero, List.set_cons_succ]
            refine wpAnyH_take (i := 10) (oi := ?oi10M23) (v := ?v10M23) ?oi0_10M23 (by kernel_rfl) ?ff10M23 ?rr10M23 ?hq10M23 (Or.inl ⟨?hw10M23, ?hy10M23⟩) (by assumption) ?rest10M23
            case oi0_10M23 => conv => lhs; whnf; arg 1; whnf
            case hq10M23 => exact fun _ _ _ h => h
            case ff10M23 | rr10M23 => kernel_rfl
            case hw10M23 => rfl
            case hy10M23 => intro w hSw; (try dsimp only at hSw); first | (go_simp; done) | (go_simp; with_reducible rfl)
            try simp only [Act.put, List.setIfInBounds_toArray, List.set_cons_zero, List.set_cons_succ]
            refine wpAnyH_take (i := 11) (oi := ?oi11M23) (v := ?v11M23) ?oi0_11M23 (by kernel_rfl) ?ff11M23 ?rr11M23 ?hq11M23 (Or.inl ⟨?hw11M23, ?hy11M23⟩) (by assumption) ?rest11M23
            case oi0_11M23 => conv => lhs; whnf; arg 1; whnf
            case hq11M23 => exact fun _ _ _ h => h
            case ff11M23 | rr11M23 => kernel_rfl
            case hw11M23 => rfl
            case hy11M23 => intro w hSw; (try dsimp only at hSw); first | (go_simp; done) | (go_simp; with_reducible rfl)
            try simp only [Act.put, List.setIfInBounds_toArray, List.set_cons_zero, List.set_cons_succ]
            refine wpAnyH_take (i := 16) (oi := ?oi16M23) (v := ?v16M23) ?oi0_16M23 (by kernel_rfl) ?ff16M23 ?rr16M23 ?hq16M23 (Or.inl ⟨?hw16M23, ?hy16M23⟩) (by assumption) ?rest16M23
            case oi0_16M23 => conv => lhs; whnf; arg 1; whnf
            case hq16M23 => exact fun _ _ _ h => h
            case ff16M23 | rr16M23 => kernel_rfl
            case hw16M23 => rfl
            case hy16M23 => intro w hSw; (try dsimp only at hSw); first | (go_simp; done) | (go_simp; with_reducible rfl)
            try simp only [Act.put, List.setIfInBounds_toArray, List.set_cons_zero, List.set_cons_succ]
            refine wpAnyH_ready (rs := [19]) (by kernel_rfl) (by simp) (AllReadyH.cons (o := ?oi19O24) ?oi0_19O24 (fun K hK => ?k19O24) (AllReadyH.nil))
            case oi0_19O24 => conv => lhs; whnf; arg 1; whnf
            case k19O24 =>
              go_simp
              go_at_call 145
              with_reducible (refine (mixed_two 17 19 x2 _ wl9 (by decide) HD2.out L8_9.out).mono ?_)
              rintro e w' ⟨rfl, rfl⟩
              (try dsimp only)
              refine hK.out _ _ (by exact ⟨keepc _ _ _ _ UO9.out C16.out, keepc _ _ _ _ UO9.out C7.out⟩) (fun hHeld => ?_)
              clear hK K
              try simp only [Act.put, List.setIfInBounds_toArray, List.set_cons_zero, List.set_cons_succ]
              refine wpAnyH_take (i := 22) (oi := ?oi22M25) (v := ?v22M25) ?oi0_22M25 (by kernel_rfl) ?ff22M25 ?rr22M25 ?hq22M25 (Or.inl ⟨?hw22M25, ?hy22M25⟩) (by assumption) ?rest22M25
              case oi0_22M25 => conv => lhs; whnf; arg 1; whnf
              case hq22M25 => exact fun _ _ _ h => h
              case ff22M25 | rr22M25 => kernel_rfl
              case hw22M25 => rfl
              case hy22M25 => intro w hSw; (try dsimp only at hSw); first | (go_simp; done) | (go_simp; with_reducible rfl)
              try simp only [Act.put, List.setIfInBounds_toArray, List.set_cons_zero, List.set_cons_succ]
              refine wpAnyH_take (i := 23) (oi := ?oi23M25) (v := ?v23M25) ?oi0_23M25 (by kernel_rfl) ?ff23M25 ?rr23M25 ?hq23M25 (Or.inl ⟨?hw23M25, ?hy23M25⟩) (by assumption) ?rest23M25
              case oi0_23M25 => conv => lhs; whnf; arg 1; whnf
              case hq23M25 => exact fun _ _ _ h => h
              case ff23M25 | rr23M25 => kernel_rfl
              case hw23M25 => rfl
              case hy23M25 => intro w hSw; (try dsimp only at hSw); first | (go_simp; done) | (go_simp; with_reducible rfl)
              try simp only [Act.put, List.setIfInBounds_toArray, List.set_cons_zero, List.set_cons_succ]
              refine wpAnyH_take (i := 24) (oi := ?oi24M25) (v := ?v24M25) ?oi0_24M25 (by kernel_rfl) ?ff24M25 ?rr24M25 ?hq24M25 (Or.inl ⟨?hw24M25, ?hy24M25⟩) (by assumption) ?rest24M25
              case oi0_24M25 => conv => lhs; whnf; arg 1; whnf
              case hq24M25 => exact fun _ _ _ h => h
              case ff24M25 | rr24M25 => kernel_rfl
              case hw24M25 => rfl
              case hy24M25 => intro w hSw; (try dsimp only at hSw); first | (go_simp; done) | (go_simp; with_reducible rfl)
              try simp only [Act.put, List.setIfInBounds_toArray, List.set_cons_zero, List.set_cons_succ]
              have cq := (keepB hB.out UO9.out).cell i |>.trans (wCells_free (by rw [schedTo_length]; omega) hi64)
              have fq := (keepB hB.out UO9.out).frozen i
              have lq := (keepB hB.out UO9.out).lt
              refine wpAnyH_ready (rs := [25]) (by kernel_rfl) (by simp) (AllReadyH.cons (o := ?oi25M26) ?oi0_25M26 (fun K hK => ?_) AllReadyH.nil)
              case oi0_25M26 => conv => lhs; whnf; arg 1; whnf
              go_simp
              (try dsimp only)
              refine hK.out _ _ (by exact ⟨far_at (j := i) _ (keepB hB.out UO9.out) (keepc _ _ _ _ UO9.out C16.out) (by omega), far_at (j := i) _ (keepB hB.out UO9.out) (keepc _ _ _ _ UO9.out C7.out) (by omega)⟩) (fun hHeld => ?_)
              clear hK K
              try simp only [Act.put, List.setIfInBounds_toArray, List.set_cons_zero, List.set_cons_succ]
              refine wpAnyH_done (by kernel_rfl) ?_ _
              go_wp2_with fail
              go_roundw
              case rel =>
                (repeat apply Exists.intro)
                refine ⟨?relb, rfl⟩
                case relb => exact ⟨i + 1, n + 1, by omega, by omega, by go_num, hide (by rw [HS.out, ← wCells_set _ _ (by rw [schedTo_length]; omega), schedTo_length, hin]; exact (keepB hB.out UO9.out).set_ i _), hide ((hu.out.trans UO9.out (by simp)).setCell (.inl (by simp)) _)⟩
              case measure => simp [intOf] <;> omega
end Go.Proofs.YtafjolibfbccbaaGreatDoor

namespace Go.Proofs.YtafjolibfbccbaaGreatDoor
open Go.RowKit

theorem mixed_three (a b c : Nat) (x : Int) (g : Nat) (w : World) (habc : (1 ≤ a ∧ a < 32) ∧ (1 ≤ b ∧ b < 32) ∧ (1 ≤ c ∧ c < 32)) (hx : Word x)
    (hB : Blk w g 3 [.int .i64 (a : Int), .int .i64 (b : Int), .int .i64 (c : Int)]) :
    Calls Tryz.prog 145 #[.int .u32 x, .slice (some ⟨g, 0, none⟩) 3 3] w fun e w' => e = .returned (.int .u32 (mixS [a, b, c] x)) ∧ w = w' :=
  mixed_any (n₀ := w.heap.size) x [a, b, c] (some ⟨g, 0, none⟩) 3 w hx (fun n hn => by
    rcases List.mem_cons.1 hn with rfl | hn
    · exact habc.1
    · rcases List.mem_cons.1 hn with rfl | hn
      · exact habc.2.1
      · obtain rfl := List.mem_singleton.1 hn
        exact habc.2.2) (.inr ⟨g, 0, 3, rfl, hB.lt, fun j hj => by
        rw [Nat.zero_add, hB.cell]
        match j, hj with
        | 0, _ => rfl
        | 1, _ => rfl
        | 2, _ => rfl⟩) (by simp)

end Go.Proofs.YtafjolibfbccbaaGreatDoor
