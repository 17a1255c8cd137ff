/-
  A region that draws its order, within a round of a range over a function: walked by the laws for a region outside of one.
-/
import Derived.Test.YtafjolibfbccbaaGreatDoorZ5JournalOpensAnythingCard
import Derived.Deep.RegionHeld3
import Derived.OrdersIn

namespace Go.Proofs.YtafjolibfbccbaaGreatDoor
open Go.RowKit

def isDefer (o : Oper) : Bool := match o.op with | .defer _ => true | _ => false
theorem not_defer {ops : Array Oper} (hd : (ops.toList.all fun o => !isDefer o) = true) (i : Nat) (o : Oper) (h : ops[i]? = some o) (c : Call) : o.op ≠ Op.defer c := fun e => by
  have := List.all_eq_true.1 hd o (by rw [← Array.getElem?_toList] at h; exact List.mem_of_getElem? h)
  unfold isDefer at this
  rw [e] at this
  cases this
theorem rowsIn_wide {n : Nat} {P : Program} {row : String} {args : Array Value} {w : World} {R : Value → World → Prop} (h : Rows P row args w R) : RowsIn Fence.wide n P row args w R :=
  fun c cs _ => let ⟨v, w', r, s⟩ := h c cs; ⟨v, w', r, stepsIn_wide.2 s⟩
variable {P : Program} {ops : Array Oper} {Q : Exit → Act → World → Prop} {md : Region.Mode} {r n : Nat}
theorem operIn_of_oper {o : Oper} {a : Act} {w : World} {K : Act → World → Prop} (ho : ∀ c, o.op ≠ Op.defer c) (h : o.wp P a w K Q) : o.wpIn (Fence.wide.inRound r) n P a w K Q := by
  refine ⟨fun _ _ => trivial, ?_⟩
  rw [Oper.semAt_eq _ _ _ ho]
  unfold Oper.wp at h
  generalize (execOp a.eval o).run P w = x at *
  cases x with
  | ok x w' =>
    cases x with
    | value v => exact h
    | skip => exact h
    | defer d => exact h
    | enter f args => exact ⟨fun h => by simp [Fence.wide] at h, callsIn_wide.2 h⟩
    | row row args => exact ⟨fun h => by simp [Fence.wide] at h, rowsIn_wide h⟩
    | round l f tmps assign body => exact h.elim
    | _ => exact h.elim
  | halt x w' => cases x <;> first | exact h | exact h.elim
theorem anyIn_of_any (hd : (ops.toList.all fun o => !isDefer o) = true) (hQ : ¬ LetsOut Q) : ∀ (fuel : Nat) (listed : Array Bool) (a : Act) (w : World), wpAny P md ops Q fuel listed a w → wpAnyIn (Fence.wide.inRound r) n P md ops Q fuel listed a w := by
  intro fuel
  induction fuel with
  | zero => exact fun _ _ _ h => h
  | succ fuel ih =>
    rintro listed a w ⟨h0, h1⟩
    refine ⟨h0, fun i hi => ?_⟩
    have := h1 i hi
    unfold wpOp at this
    unfold wpOpIn
    cases ho : ops[i]? with
    | none => rw [ho] at this; exact ih _ _ _ this
    | some o =>
      rw [ho] at this
      simp only at this ⊢
      split
      · rename_i hw
        rw [if_pos hw] at this
        rcases this with h | h
        · exact Oper.wpIn_mono (fun a w => ih _ a w) (operIn_of_oper (not_defer hd i o ho) h)
        · exact absurd h.2 hQ
      · rename_i hw
        rw [if_neg hw] at this
        exact ⟨fun _ _ => trivial, ih _ _ _ this⟩
/-- The beginning, within a round. -/
theorem wpIn_round_held {S : World → Prop} {id : Nat} {a : Act} {w : World} (hm : P.follows .mixedOrders = true) (hd : (ops.toList.all fun o => !isDefer o) = true) (hQ : ¬ LetsOut Q) (hS : S w.drew)
    (h : S w.drew → wpAnyH P .any ops Q S ops.size (Array.replicate ops.size false) a w.drew) : (Code.region id ops true).wpIn (Fence.wide.inRound r) n P Q a w :=
  wpIn_region_any hm (anyIn_of_any hd hQ _ _ _ _ (wpAny_of_held _ _ _ _ (h hS)))
end Go.Proofs.YtafjolibfbccbaaGreatDoor
