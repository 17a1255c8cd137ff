/-
  Rows of pieces whose lengths lie anywhere; few.
-/
import Derived.Test.YteehjciepccomaaRRight
import Derived.Test.YteehjciepccomaaFMade2
namespace Go.Proofs.Yteehjciepccomaa
open Go.RowKit
set_option maxRecDepth 100000
set_option maxHeartbeats 20000000

/-- The cells of pieces: each with the value of its lengths. -/
def entCells (es : List (Value × Pc)) : List Value := es.flatMap fun e => [e.1, .int .i64 e.2.want, .int .i64 e.2.join]
theorem entCells_length (es : List (Value × Pc)) : (entCells es).length = es.length * 3 := by
  induction es with
  | nil => rfl
  | cons e es ih =>
    show ([_, _, _] ++ entCells es).length = _
    rw [List.length_append, ih, List.length_cons]
    simp
    omega
theorem entCells_snoc (es : List (Value × Pc)) (e : Value × Pc) : entCells (es ++ [e]) = entCells es ++ [e.1, .int .i64 e.2.want, .int .i64 e.2.join] := by
  unfold entCells
  rw [List.flatMap_append]
  rfl
theorem entCells_at : ∀ (es : List (Value × Pc)) (i : Nat) (e : Value × Pc) (t : Nat), es[i]? = some e → t < 3 → (entCells es)[i * 3 + t]? = [e.1, Value.int .i64 e.2.want, .int .i64 e.2.join][t]?
  | [], i, e, t, h, _ => by simp at h
  | f :: es, 0, e, t, h, ht => by
    obtain rfl : f = e := by simpa using h
    show ([_, _, _] ++ entCells es)[0 * 3 + t]? = _
    rw [List.getElem?_append_left (by simp; omega)]
    simp
  | f :: es, i + 1, e, t, h, ht => by
    show ([_, _, _] ++ entCells es)[(i + 1) * 3 + t]? = _
    rw [List.getElem?_append_right (by simp; omega)]
    have := entCells_at es i e t (by simpa using h) ht
    rw [← this]
    congr 1
    simp
    omega
/-- Each value is a slice that reads as the lengths. -/
def EntAt (n₀ : Nat) (w : World) (es : List (Value × Pc)) : Prop := ∀ e ∈ es, ∃ pa pn pc, e.1 = .slice pa pn pc ∧ Ints n₀ w (.slice pa pn pc) e.2.lens ∧ e.2.lens.length ≤ maxLen
theorem EntAt.upd {n₀ : Nat} {w w' : World} {es : List (Value × Pc)} {l : List Nat} (h : EntAt n₀ w es) (hu : Upd l w w') (hn : n₀ ≤ w.heap.size) (hl : ∀ x ∈ l, n₀ ≤ x) : EntAt n₀ w' es := fun e he => by
  obtain ⟨pa, pn, pc, h1, h2, h3⟩ := h e he
  exact ⟨pa, pn, pc, h1, h2.upd hu hn hl, h3⟩
theorem EntAt.snoc {n₀ : Nat} {w : World} {es : List (Value × Pc)} {e : Value × Pc} (h : EntAt n₀ w es) {pa : Option Addr} {pn pc : Nat} (h1 : e.1 = .slice pa pn pc) (h2 : Ints n₀ w (.slice pa pn pc) e.2.lens) (h3 : e.2.lens.length ≤ maxLen) : EntAt n₀ w (es ++ [e]) := fun f hf => by
  rcases List.mem_append.1 hf with hf | hf
  · exact h f hf
  · obtain rfl : f = e := by simpa using hf
    exact ⟨pa, pn, pc, h1, h2, h3⟩
theorem ent_pcs {n₀ : Nat} {w : World} {g : Nat} {t : TypeId} {es : List (Value × Pc)} {r : List Value} (hb : Blk w g t (entCells es ++ r)) (hE : EntAt n₀ w es) (hg : g < n₀) : PcsAt n₀ w (some ⟨g, 0, none⟩) (es.map (·.2)) := by
  intro i p hp
  rw [List.getElem?_map] at hp
  obtain ⟨e, he, rfl⟩ := Option.map_eq_some_iff.1 hp
  obtain ⟨pa, pn, pc, h1, h2, h3⟩ := hE e (List.mem_of_getElem? he)
  have hl := (List.getElem?_eq_some_iff.1 he).1
  have hlt : ∀ t, t < 3 → i * 3 + t < (entCells es).length := fun t ht => by rw [entCells_length]; omega
  have c : ∀ t, t < 3 → w.cell? ⟨g, 0 + (i * 3 + t), none⟩ = [e.1, Value.int .i64 e.2.want, .int .i64 e.2.join][t]? := fun t ht => by
    rw [Nat.zero_add, hb.cell, List.getElem?_append_left (hlt t ht), entCells_at es i e t he ht]
  refine ⟨g, 0, pa, pn, pc, rfl, hg, h2, h3, ?_, ?_, ?_⟩
  · rw [← h1]; exact c 0 (by omega)
  · exact c 1 (by omega)
  · exact c 2 (by omega)
theorem ent_row {n₀ : Nat} {w : World} {base k cap : Nat} {A : Option Addr} {es : List (Value × Pc)} (hrow : w.ownsRow base 50 3 (.slice A k cap) k (entCells es)) (hq : es.length = k) (hE : EntAt n₀ w es) (hn : n₀ ≤ w.heap.size) : PcsAt w.heap.size w A (es.map (·.2)) ∧ k ≤ cap := by
  rcases Nat.eq_zero_or_pos k with h0 | h0
  · subst h0
    have : es = [] := List.eq_nil_of_length_eq_zero hq
    subst this
    exact ⟨fun i p hp => by simp at hp, Nat.zero_le _⟩
  · obtain ⟨g, r, rfl, _, hb, hc⟩ := own_open3 hrow h0
    exact ⟨ent_pcs hb (fun e he => by obtain ⟨pa, pn, pc, h1, h2, h3⟩ := hE e he; exact ⟨pa, pn, pc, h1, h2.mono hn, h3⟩) hb.lt, hc⟩

theorem few_any {n₀ : Nat} (a : Option Addr) (n c m : Nat) (zs : List Int) (w : World) (hI : Ints n₀ w (.slice a n c) zs) (hnc : n ≤ c) (hc : c ≤ maxLen) (hm : m ≤ 100) :
    Calls Try.prog 12 #[.slice a n c, .int .i64 (m : Int)] w fun e w' => ∃ k c', e = .returned (.slice a k c') ∧ k ≤ m ∧ k ≤ n ∧ k ≤ c' ∧ c' ≤ c ∧ Ints n₀ w (.slice a k c') (zs.take k) ∧ w = w' := by
  have HI := hide hI
  have hl := hI.form.1
  have HL := hide hl
  have hc' : c ≤ 9223372036854775807 := by unfold maxLen at hc; omega
  clear hI hl hc
  go_enter Try.func12, Try.ntmps12
  by_cases h : n ≤ m
  · have h1 : (n : Int) ≤ m := by omega
    go_wp2_with fail
    go_ret
    exact ⟨n, c, rfl, h, Nat.le_refl _, hnc, Nat.le_refl _, HI.out.take n (by have := HL.out; omega), rfl⟩
  · have h1 : ¬ (n : Int) ≤ m := by omega
    have h2 : (m : Int) < n := by omega
    go_wp2_with fail
    go_ret
    exact ⟨m, c, rfl, Nat.le_refl _, by omega, by omega, Nat.le_refl _, HI.out.take m (by have := HL.out; omega), rfl⟩
end Go.Proofs.Yteehjciepccomaa
