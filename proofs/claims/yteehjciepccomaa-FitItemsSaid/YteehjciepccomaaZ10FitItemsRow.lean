/-
  Ranging over a set of seconds: which seconds come, in order.
-/
import Derived.Test.YteehjciepccomaaZ9FitItemsRow
import Derived.RangeFuncNested
import Derived.RangeFuncBound
import Derived.RangeFuncCalls
import Derived.RangeFuncLeaves
import Derived.RangeFuncBox
import Derived.Shelf.Abstract
import Derived.Shelf.RegionOpen
import Derived.OwnWalkIn
import Derived.TacticsInMore
import Derived.LoopNIn
import Derived.LoopIn

namespace Go.Proofs.Yteehjciepccomaa
open Go.RowKit Go.Shelf
attribute [local go_sem] Oper.semAt_some

/-- The seconds below k that are in L, in order. -/
def memb (L : List Int) (k : Nat) : List Int := ((List.range k).filter fun i : Nat => decide ((i : Int) ∈ L)).map fun i : Nat => (i : Int)
theorem memb_yes {L : List Int} {k : Nat} (h : (k : Int) ∈ L) : memb L (k + 1) = memb L k ++ [(k : Int)] := by
  unfold memb
  rw [List.range_succ, List.filter_append, List.map_append]
  simp [h]
theorem memb_no {L : List Int} {k : Nat} (h : (k : Int) ∉ L) : memb L (k + 1) = memb L k := by
  unfold memb
  rw [List.range_succ, List.filter_append, List.map_append]
  simp [h]
theorem memb_length (L : List Int) (k : Nat) : (memb L k).length ≤ k := by
  unfold memb
  rw [List.length_map]
  exact Nat.le_trans (List.length_filter_le _ _) (by simp)

theorem memb_mem {L : List Int} (h : ∀ x ∈ L, 0 ≤ x ∧ x ≤ 72000) (x : Int) : x ∈ memb L 72001 ↔ x ∈ L := by
  unfold memb
  simp only [List.mem_map, List.mem_filter, List.mem_range, decide_eq_true_eq]
  constructor
  · rintro ⟨i, ⟨_, hi⟩, rfl⟩
    exact hi
  · intro hx
    have := h x hx
    refine ⟨x.toNat, ⟨by omega, ?_⟩, by omega⟩
    rw [show ((x.toNat : Nat) : Int) = x by omega]
    exact hx

theorem skip_leads {p : FuncId → Prop} {q : Prop} (h : q) : (∀ f, p f → Fence.wide.fn f) ∧ q := ⟨fun _ _ => trivial, h⟩
/-- What an iterator over a set asks of a round: its two blocks stay. -/
def Keep2 (b g : Nat) (W W' : World) : Prop := W'.heap[b]? = W.heap[b]? ∧ W'.heap[g]? = W.heap[g]?
theorem Keep2.refl (b g : Nat) (W : World) : Keep2 b g W W := ⟨rfl, rfl⟩
theorem Keep2.trans {b g : Nat} {A B C : World} (h : Keep2 b g A B) (k : Keep2 b g B C) : Keep2 b g A C := ⟨k.1.trans h.1, k.2.trans h.2⟩
theorem Keep2.put {b g : Nat} {w : World} (hb : b < w.heap.size) (hg : g < w.heap.size) (W : World) (l : Nat) (o o' : Obj) (hl : w.heap.size ≤ l) (h : W.heap[l]? = some o) (_ : o.isCells = false) (_ : o.isWalk = false) : Keep2 b g W (W.putObj l o') := by
  have hlt := (Array.getElem?_eq_some_iff.1 h).1
  have hg' := grownBy_putObj' W l o'
  exact ⟨hg'.block b (by omega) (by intro e; cases e; omega), hg'.block g (by omega) (by intro e; cases e; omega)⟩
/-- A second of a set. -/
abbrev InL (L : List Int) := { x : Int // x ∈ L }

set_option maxRecDepth 100000 in
set_option maxHeartbeats 2000000 in
theorem all1_in (n : Nat) (hn : 1 ≤ n) (l Bs g : Nat) (L : List Int) (J Jx : List (InL L) → World → Prop)
    (hY : ∀ pre x W, J pre W → pre.length < 72001 → YieldAt Fence.wide (n - 1) Try.prog l #[.int .i64 x.1] W fun e W' =>
      (e = .returned (.bool true) ∧ J (pre ++ [x]) W' ∧ Keep2 Bs g W W') ∨ (e = .returned (.bool false) ∧ Jx (pre ++ [x]) W'))
    (W : World) (hBs : W.cell? ⟨Bs, 0, none⟩ = some (.pointer (some ⟨g, 0, none⟩))) (hc : SetIs W g L) (h0 : J [] W) :
    CallsIn Fence.wide n Try.prog 86 #[.func (.yield l) #[] #[], .pointer (some ⟨Bs, 0, none⟩)] W fun e W' => (∃ v, e = .returned v) ∧
      ((∃ ys, ys.map Subtype.val = memb L 72001 ∧ J ys W') ∨ ∃ pre, Jx pre W') := by
  refine callsIn_of_wp Try.func86 rfl trivial ?_ rfl
  simp only [Try.ntmps86, List.size_toArray, List.length_cons, List.length_nil, Nat.reduceAdd, Nat.reduceSub, Array.replicate_succ, Array.replicate_zero, List.push_toArray, List.append_toArray, List.nil_append, List.cons_append]
  have hfn : Fence.wide.fn 51 := trivial
  have HC := hide hc
  have HY := hide hY
  clear hc hY
  obtain ⟨N, HN⟩ : ∃ N : Nat, Hid (N = 72001) := ⟨_, rfl⟩
  gi_wp2
  gi_loopw [4] (fun i wr => ∃ (k : Nat) (pre : List (InL L)), (k : Int) ≤ 72001 ∧ i = .int .i64 k ∧ Hid (pre.map Subtype.val = memb L k) ∧ Hid (J pre wr) ∧ Hid (Keep2 Bs g W wr))
    (fun i _ => N - (intOf i).toNat)
  case atStart => exact ⟨0, [], by decide, rfl, rfl, h0, Keep2.refl _ _ _⟩
  case round =>
    obtain ⟨k, pre, hk, rfl, hpre, hJs, HB⟩ := hrel
    have hcx := (World.cell?_of_block (w := W) (a := ⟨Bs, 0, none⟩) HB.out.1).trans hBs
    by_cases hlt : (k : Int) < 72001
    · have hwrap : IntKind.i64.wrap ((k : Int) + 1) = (k : Int) + 1 := Go.IntWalk.i64_in _ (by omega)
      have HS := has_any g L (k : Int) wr (by
        obtain ⟨ws, h1, h2, h3⟩ := HC.out
        exact ⟨ws, h1, HB.out.2.trans h2, h3⟩)
      by_cases hin : (k : Int) ∈ L
      · rw [decide_eq_true hin] at HS
        have HS' := hide HS
        have HIN := hide hin
        have hlen : pre.length < 72001 := by have := memb_length L k; rw [← hpre.out, List.length_map] at this; omega
        obtain ⟨fn, tmps, assign, body, hy, hR⟩ := HY.out pre ⟨(k : Int), hin⟩ wr hJs.out hlen
        have HR := hide hR
        have HP2 := hide (show (pre ++ [(⟨(k : Int), hin⟩ : InL L)]).map Subtype.val = memb L (k + 1) by rw [List.map_append, hpre.out, memb_yes hin]; rfl)
        obtain ⟨pre2, hp2⟩ : ∃ pre2, (pre ++ [(⟨(k : Int), hin⟩ : InL L)] : List (InL L)) = pre2 := ⟨_, rfl⟩
        rw [hp2] at HR HP2
        replace hy : (Instr.yield l #[Value.int .i64 (k : Int)]).run Try.prog wr = .ok (.round l fn tmps assign body) wr := hy
        clear hR hlen HS hp2 hin
        gi_wp2_with (gi_at_call 51; refine (callsIn_wide.2 HS'.out).mono ?_; rintro e w' ⟨rfl, rfl⟩)
        refine HR.out.mono ?_
        rintro e W3 (⟨rfl, hJ3, hk3⟩ | ⟨rfl, hJx3⟩)
        · have HJ3 := hide hJ3
          have HK3 := hide (HB.out.trans hk3)
          clear hJ3 hk3
          gi_wp2
          go_roundw
          case rel => exact ⟨k + 1, pre2, by omega, by simp, HP2, HJ3, HK3⟩
          case measure => simp [intOf]; have := HN.out; omega
        · have HJ3 := hide hJx3
          clear hJx3
          gi_wp2
          refine bodyPost_ret (results_none rfl _ _ _) rfl ?_
          exact ⟨⟨_, rfl⟩, .inr ⟨_, HJ3.out⟩⟩
      · rw [decide_eq_false hin] at HS
        have HS' := hide HS
        have HP2 := hide (show pre.map Subtype.val = memb L (k + 1) by rw [hpre.out, memb_no hin])
        clear HS hin
        gi_wp2_with fail
        refine (callsIn_wide.2 HS'.out).mono ?_
        rintro e w' ⟨rfl, rfl⟩
        gi_wp2_with (apply skip_leads)
        go_roundw
        case rel => exact ⟨k + 1, pre, by omega, by simp, HP2, hJs, HB⟩
        case measure => simp [intOf]; have := HN.out; omega
    · obtain rfl : k = 72001 := by omega
      gi_wp2
      go_end0
      exact ⟨⟨_, rfl⟩, .inl ⟨pre, hpre.out, hJs.out⟩⟩

set_option maxRecDepth 100000 in
set_option maxHeartbeats 1000000 in
/-- all -/
theorem all_any (g : Nat) (w : World) :
    Calls Try.prog 69 #[.pointer (some ⟨g, 0, none⟩)] w fun e w' => e = .returned (.func (.func 86) #[] #[.pointer (some ⟨w.heap.size, 0, none⟩)]) ∧ w.alloc (.cells #[.pointer (some ⟨g, 0, none⟩)] 72) = w' := by
  go_enter Try.func69, Try.ntmps69
  go_wp2
  go_ret
  exact ⟨rfl, rfl⟩

theorem all_stops (n : Nat) (hn : 1 ≤ n) (Bs g : Nat) (L : List Int) (w : World) (hb : Bs < w.heap.size) (hBs : w.cell? ⟨Bs, 0, none⟩ = some (.pointer (some ⟨g, 0, none⟩))) (hS : SetIs w g L) :
    SeqStopsK Fence.wide n Try.prog 86 #[.pointer (some ⟨Bs, 0, none⟩)] (fun x : InL L => #[Value.int .i64 x.1]) (Keep2 Bs g) (fun ys => ys.map Subtype.val = memb L 72001) (fun _ => True) 72001 w := fun l J Jx W hW _ _ hY h0 => by
  refine (all1_in n hn l Bs g L J Jx hY W ((hW.cell (p := ⟨Bs, 0, none⟩) hb).trans hBs) ?_ h0).mono ?_
  · have hl := hS.lt
    obtain ⟨ws, h1, h2, h3⟩ := hS
    exact ⟨ws, h1, h2.below hW hl, h3⟩
  · rintro e W' ⟨he, ⟨ys, h1, h2⟩ | ⟨pre, h1⟩⟩
    · exact ⟨he, .inl ⟨ys, h1, h2⟩⟩
    · exact ⟨he, .inr ⟨pre, trivial, h1⟩⟩
end Go.Proofs.Yteehjciepccomaa
