/-
  Sets of seconds, as bits: has and add.
-/
import Derived.Test.YteehjciepccomaaZ4FitItemsRow
import Derived.Laws.Bits64

namespace Go.Proofs.Yteehjciepccomaa
open Go.RowKit
set_option maxRecDepth 100000
set_option maxHeartbeats 1000000

theorem ofInt_toNat (a : Nat) (ha : a < 18446744073709551616) : (BitVec.ofInt 64 (a : Int)).toNat = a := by
  rw [BitVec.ofInt_natCast, BitVec.toNat_ofNat]; exact Nat.mod_eq_of_lt (by omega)
theorem bits_or_nat (a b : Nat) (ha : a < 18446744073709551616) (hb : b < 18446744073709551616) : bits .or .u64 (a : Int) (b : Int) = ((a ||| b : Nat) : Int) := by
  have hx : a ||| b < 2 ^ 64 := Nat.or_lt_two_pow (by omega) (by omega)
  show IntKind.u64.wrap ((BitVec.ofInt 64 (a : Int) ||| BitVec.ofInt 64 (b : Int)).toNat : Int) = _
  rw [BitVec.toNat_or, ofInt_toNat a ha, ofInt_toNat b hb, IntKind.wrap_u64]
  omega
theorem bits_and_nat (a b : Nat) (ha : a < 18446744073709551616) (hb : b < 18446744073709551616) : bits .and .u64 (a : Int) (b : Int) = ((a &&& b : Nat) : Int) := by
  have hx : a &&& b < 2 ^ 64 := Nat.and_lt_two_pow _ (by omega)
  show IntKind.u64.wrap ((BitVec.ofInt 64 (a : Int) &&& BitVec.ofInt 64 (b : Int)).toNat : Int) = _
  rw [BitVec.toNat_and, ofInt_toNat a ha, ofInt_toNat b hb, IntKind.wrap_u64]
  omega
theorem bit_read (x m : Nat) (hx : x < 18446744073709551616) : (bits .and .u64 ((x : Int) / 2 ^ m) 1 == 1) = x.testBit m := by
  have e : ((x : Int) / 2 ^ m) = ((x / 2 ^ m : Nat) : Int) := by
    rw [Int.natCast_ediv]
    norm_cast
  rw [e, show (1 : Int) = ((1 : Nat) : Int) from rfl, bits_and_nat _ _ (Nat.lt_of_le_of_lt (Nat.div_le_self _ _) hx) (by omega), Nat.testBit_eq_decide_div_mod_eq, Nat.and_one_is_mod]
  by_cases h : x / 2 ^ m % 2 = 1
  · simp [h]
  · have : x / 2 ^ m % 2 = 0 := by omega
    simp [this]
theorem bit_set (x m : Nat) (hx : x < 18446744073709551616) (hm : m < 64) : bits .or .u64 (x : Int) (IntKind.u64.wrap (2 ^ m)) = ((x ||| 2 ^ m : Nat) : Int) := by
  have h2 : 2 ^ m < 18446744073709551616 := by
    have := Nat.pow_lt_pow_right (a := 2) (by omega) hm
    exact this
  have e : IntKind.u64.wrap (2 ^ m) = ((2 ^ m : Nat) : Int) := by
    rw [IntKind.wrap_u64]
    have e2 : (2 : Int) ^ m = ((2 ^ m : Nat) : Int) := by norm_cast
    rw [e2]
    generalize 2 ^ m = y at h2
    omega
  rw [e, bits_or_nat _ _ hx h2]

/-- The block g is a set of seconds that holds exactly those of L. -/
def SetIs (w : World) (g : Nat) (L : List Int) : Prop := ∃ ws : List Nat, ws.length = 1126 ∧ Blk w g 75 (ws.map fun x : Nat => Value.int .u64 (x : Int)) ∧ (∀ x ∈ ws, x < 18446744073709551616) ∧ (∀ q m : Nat, q < 1126 → m < 64 → (ws[q]?.getD 0).testBit m = decide (((q * 64 + m : Nat) : Int) ∈ L)) ∧ ∀ x ∈ L, 0 ≤ x ∧ x ≤ 72000
theorem SetIs.upd {w w' : World} {g : Nat} {L : List Int} {l : List Nat} (h : SetIs w g L) (hu : Upd l w w') (hg : g ∉ l) : SetIs w' g L := by
  obtain ⟨ws, h1, h2, h3⟩ := h
  exact ⟨ws, h1, h2.upd hu hg, h3⟩
theorem SetIs.lt {w : World} {g : Nat} {L : List Int} (h : SetIs w g L) : g < w.heap.size := by
  obtain ⟨ws, h1, h2, h3⟩ := h
  exact h2.lt
theorem SetIs.same {w : World} {g : Nat} {L L' : List Int} (h : SetIs w g L) (hs : ∀ x, x ∈ L ↔ x ∈ L') : SetIs w g L' := by
  obtain ⟨ws, h1, h2, h3, h4, h5⟩ := h
  refine ⟨ws, h1, h2, h3, fun q m hq hm => ?_, fun x hx => h5 x ((hs x).2 hx)⟩
  rw [h4 q m hq hm]
  exact decide_eq_decide.2 (hs _)

theorem has_at (g : Nat) (L : List Int) (t : Int) (q m : Nat) (w : World) (h : SetIs w g L) (hq : q < 1126) (hm : m < 64) (ht0 : 0 ≤ t) (ht : t ≤ 72000) (htq : t = ((q * 64 + m : Nat) : Int)) :
    Calls Try.prog 51 #[.pointer (some ⟨g, 0, none⟩), .int .i64 t] w fun e w' => e = .returned (.bool (decide (t ∈ L))) ∧ w = w' := by
  obtain ⟨ws, hl, hb, hx, hbit, _⟩ := h
  obtain ⟨x, hxx⟩ : ∃ x, ws[q]? = some x := ⟨_, List.getElem?_eq_getElem (by omega)⟩
  have hc : w.cell? ⟨g, q, none⟩ = some (.int .u64 x) := by rw [hb.cell, List.getElem?_map, hxx]; rfl
  have eq : t.tdiv 64 = (q : Int) := by rw [Int.tdiv_eq_ediv_of_nonneg ht0]; omega
  have er : t.tmod 64 = (m : Int) := by rw [Int.tmod_eq_emod_of_nonneg ht0]; omega
  have hb := hbit q m hq hm
  rw [hxx, ← htq] at hb
  have HB := hide hb
  have HX := hide (hx x (List.mem_of_getElem? hxx))
  clear hl hb hx hbit hxx htq
  go_enter Try.func51, Try.ntmps51
  go_wp2_with fail
  go_ret
  refine ⟨?_, rfl⟩
  show Ending.returned (Value.bool (bits BinOp.and IntKind.u64 ((x : Int) / 2 ^ m) 1 == 1)) = _
  rw [bit_read x m HX.out]
  exact congrArg (fun b => Ending.returned (Value.bool b)) HB.out
/-- has -/
theorem has_any (g : Nat) (L : List Int) (t : Int) (w : World) (h : SetIs w g L) :
    Calls Try.prog 51 #[.pointer (some ⟨g, 0, none⟩), .int .i64 t] w fun e w' => e = .returned (.bool (decide (t ∈ L))) ∧ w = w' := by
  have hb : ∀ x ∈ L, 0 ≤ x ∧ x ≤ 72000 := by obtain ⟨ws, h1, h2, h3, h4, h5⟩ := h; exact h5
  by_cases h0 : 0 ≤ t
  · by_cases h1 : t ≤ 72000
    · exact has_at g L t (t.toNat / 64) (t.toNat % 64) w h (by omega) (by omega) h0 h1 (by omega)
    · rw [decide_eq_false (fun hm : t ∈ L => h1 (hb t hm).2)]
      clear h hb
      go_enter Try.func51, Try.ntmps51
      go_wp2_with fail
      go_ret
      exact ⟨rfl, rfl⟩
  · rw [decide_eq_false (fun hm : t ∈ L => h0 (hb t hm).1)]
    clear h hb
    go_enter Try.func51, Try.ntmps51
    go_wp2_with fail
    go_ret
    exact ⟨rfl, rfl⟩

theorem set_added {w : World} {g : Nat} {L : List Int} {ws : List Nat} {x q m : Nat} (hl : ws.length = 1126) (hb : Blk w g 75 (ws.map fun x : Nat => Value.int .u64 (x : Int))) (hx : ∀ x ∈ ws, x < 18446744073709551616)
    (hbit : ∀ q m : Nat, q < 1126 → m < 64 → (ws[q]?.getD 0).testBit m = decide (((q * 64 + m : Nat) : Int) ∈ L)) (hL : ∀ x ∈ L, 0 ≤ x ∧ x ≤ 72000) (hq : q < 1126) (hm : m < 64) (hw : ws[q]? = some x) (ht : q * 64 + m ≤ 72000) :
    SetIs (w.setCell ⟨g, q, none⟩ (.int .u64 ((x ||| 2 ^ m : Nat) : Int))).drew g (((q * 64 + m : Nat) : Int) :: L) := by
  have h2 : 2 ^ m < 2 ^ 64 := Nat.pow_lt_pow_right (a := 2) (by omega) hm
  refine ⟨ws.set q (x ||| 2 ^ m), by simpa using hl, ?_, ?_, ?_, ?_⟩
  · rw [List.map_set]
    exact (hb.set_ q _).drew
  · intro y hy
    rcases List.mem_or_eq_of_mem_set hy with h | rfl
    · exact hx y h
    · exact Nat.or_lt_two_pow (n := 64) (hx x (List.mem_of_getElem? hw)) h2
  · intro q' m' hq' hm'
    rw [List.getElem?_set]
    by_cases e : q = q'
    · subst e
      have h1 := hbit q m' hq' hm'
      rw [hw] at h1
      simp only [Option.getD_some] at h1
      rw [if_pos rfl, if_pos (by omega)]
      simp only [Option.getD_some]
      rw [Nat.testBit_or, h1, Nat.testBit_two_pow]
      by_cases e2 : m = m'
      · subst e2; simp
      · have : ¬ ((q * 64 + m' : Nat) : Int) = ((q * 64 + m : Nat) : Int) := by omega
        simp only [List.mem_cons, this, false_or, e2, decide_false, Bool.or_false]
    · rw [if_neg e, hbit q' m' hq' hm']
      have : ¬ ((q' * 64 + m' : Nat) : Int) = ((q * 64 + m : Nat) : Int) := by omega
      simp only [List.mem_cons, this, false_or]
  · intro y hy
    rcases List.mem_cons.1 hy with rfl | h
    · omega
    · exact hL y h
theorem add_at (g : Nat) (L : List Int) (t : Int) (q m : Nat) (w : World) (h : SetIs w g L) (hq : q < 1126) (hm : m < 64) (ht0 : 0 ≤ t) (ht : t ≤ 72000) (htq : t = ((q * 64 + m : Nat) : Int)) :
    Calls Try.prog 70 #[.pointer (some ⟨g, 0, none⟩), .int .i64 t] w fun e w' => e = .returned (.tuple #[]) ∧ SetIs w' g (t :: L) ∧ Upd [g] w w' := by
  obtain ⟨ws, hl, hb, hx, hbit, hL⟩ := h
  obtain ⟨x, hxx⟩ : ∃ x, ws[q]? = some x := ⟨_, List.getElem?_eq_getElem (by omega)⟩
  have hc : w.cell? ⟨g, q, none⟩ = some (.int .u64 x) := by rw [hb.cell, List.getElem?_map, hxx]; rfl
  have hf := hb.frozen q
  have eq : t.tdiv 64 = (q : Int) := by rw [Int.tdiv_eq_ediv_of_nonneg ht0]; omega
  have er : t.tmod 64 = (m : Int) := by rw [Int.tmod_eq_emod_of_nonneg ht0]; omega
  have S1 := set_added (w := w) hl hb hx hbit hL hq hm hxx (by omega)
  rw [← htq] at S1
  rw [← bit_set x m (hx x (List.mem_of_getElem? hxx)) hm] at S1
  have HS := hide S1
  have U1 := hide ((((Upd.refl [g] w)).setCell (p := ⟨g, q, none⟩) (.inl (by simp)) (.int .u64 (bits .or .u64 (x : Int) (IntKind.u64.wrap (2 ^ m))))).drew)
  clear hl hb hx hbit hxx htq S1 hL
  go_enter Try.func70, Try.ntmps70
  go_region
  go_end0
  exact ⟨rfl, HS.out, U1.out⟩
/-- add -/
theorem add_any (g : Nat) (L : List Int) (t : Int) (w : World) (h : SetIs w g L) (ht0 : 0 ≤ t) (ht : t ≤ 72000) :
    Calls Try.prog 70 #[.pointer (some ⟨g, 0, none⟩), .int .i64 t] w fun e w' => e = .returned (.tuple #[]) ∧ SetIs w' g (t :: L) ∧ Upd [g] w w' :=
  add_at g L t (t.toNat / 64) (t.toNat % 64) w h (by omega) (by omega) ht0 ht (by omega)
end Go.Proofs.Yteehjciepccomaa
