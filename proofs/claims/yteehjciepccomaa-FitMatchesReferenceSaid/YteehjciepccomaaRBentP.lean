/-
  The reference's Bent: a copy of pieces with something changed.
-/
import Derived.Test.YteehjciepccomaaRCut
import Derived.Test.YteehjciepccomaaFLaw
import Derived.Deep.RegionHeld3
namespace Go.Proofs.Yteehjciepccomaa
open Go.RowKit
set_option maxRecDepth 100000
set_option maxHeartbeats 20000000

/-- Entries whose lengths are rows of the call's own. -/
def EntOwn (w : World) (base : Nat) (es : List (Value × Pc)) : Prop := ∀ e ∈ es, ∃ pa pc, e.1 = .slice pa e.2.lens.length pc ∧ w.ownsRow base 3 1 (.slice pa e.2.lens.length pc) e.2.lens.length (e.2.lens.map (Value.int .i64)) ∧ PcOk e.2
theorem EntOwn.ent {w : World} {base : Nat} {es : List (Value × Pc)} (h : EntOwn w base es) : EntAt w.heap.size w es := fun e he => by
  obtain ⟨pa, pc, h1, h2, h3⟩ := h e he
  exact ⟨pa, _, pc, h1, own_ints h2, by have := h3.1.2; unfold maxLen; omega⟩
theorem EntOwn.upd {w w' : World} {base : Nat} {es : List (Value × Pc)} {l : List Nat} (h : EntOwn w base es) (hu : Upd l w w') (hl : ∀ g ∈ l, w.heap.size ≤ g ∨ ∃ t cs, Blk w g t cs ∧ 3 ≠ t) : EntOwn w' base es := fun e he => by
  obtain ⟨pa, pc, h1, h2, h3⟩ := h e he
  refine ⟨pa, pc, h1, own_kept h2 hu fun q hq hm => ?_, h3⟩
  have hq2 := (row_lt h2 q hq).2
  rcases hl q hm with h | ⟨t, cs, hb, hne⟩
  · omega
  · exact own_blk_ne h2 hb hne q hq rfl
theorem entCells_set : ∀ (es : List (Value × Pc)) (i : Nat) (e f : Value × Pc) (r : List Value) (t : Nat) (u : Value), es[i]? = some e → t < 3 → [e.1, Value.int .i64 e.2.want, .int .i64 e.2.join].set t u = [f.1, Value.int .i64 f.2.want, .int .i64 f.2.join] → (entCells es ++ r).set (i * 3 + t) u = entCells (es.set i f) ++ r
  | [], i, e, f, r, t, u, h, _, _ => by simp at h
  | g :: es, 0, e, f, r, t, u, h, ht, hs => by
    obtain rfl : g = e := by simpa using h
    show ([_, _, _] ++ entCells es ++ r).set (0 * 3 + t) u = [_, _, _] ++ entCells es ++ r
    rw [List.append_assoc, List.append_assoc, ← hs, List.set_append_left _ _ (by simp; omega)]
    simp
  | g :: es, i + 1, e, f, r, t, u, h, ht, hs => by
    have := entCells_set es i e f r t u (by simpa using h) ht hs
    show ([_, _, _] ++ entCells es ++ r).set ((i + 1) * 3 + t) u = [_, _, _] ++ entCells (es.set i f) ++ r
    rw [List.append_assoc, List.append_assoc, ← this, List.set_append_right _ _ (by simp; omega)]
    congr 2
    simp
    omega
theorem EntAt.set {n₀ : Nat} {w : World} {es : List (Value × Pc)} (h : EntAt n₀ w es) (i : Nat) {f : Value × Pc} {pa : Option Addr} {pn pc : Nat} (h1 : f.1 = .slice pa pn pc) (h2 : Ints n₀ w (.slice pa pn pc) f.2.lens) (h3 : f.2.lens.length ≤ maxLen) : EntAt n₀ w (es.set i f) := fun e he => by
  rcases List.mem_or_eq_of_mem_set he with he | rfl
  · exact h e he
  · exact ⟨pa, pn, pc, h1, h2, h3⟩
/-- One cell of a block of numbers is written: every list still reads as numbers. -/
theorem Ints.write {n₀ : Nat} {w : World} {A : Option Addr} {n c : Nat} {zs : List Int} (h : Ints n₀ w (.slice A n c) zs) {g x : Nat} {t : TypeId} {cs : List Value} (hb : Blk w g t cs) (hx : x < cs.length) (y : Int) : ∃ zs', zs'.length = zs.length ∧ Ints n₀ (w.setCell ⟨g, x, none⟩ (.int .i64 y)) (.slice A n c) zs' := by
  have hrow : ∀ j, j < zs.length → ∃ z : Int, ∃ b o, A = some ⟨b, o, none⟩ ∧ b < n₀ ∧ (w.setCell ⟨g, x, none⟩ (.int .i64 y)).cell? ⟨b, o + j, none⟩ = some (.int .i64 z) := fun j hj => by
    obtain ⟨b, o, e, h1, h2⟩ := h.form.2 j _ (List.getElem?_eq_getElem hj)
    by_cases hbg : g = b
    · subst hbg
      by_cases hox : o + j = x
      · exact ⟨y, g, o, e, h1, by rw [hox, (hb.set_ x _).cell, List.getElem?_set, if_pos rfl, if_pos hx]⟩
      · exact ⟨zs[j], g, o, e, h1, by rw [(hb.set_ x _).cell, List.getElem?_set, if_neg (fun h => hox h.symm), ← hb.cell]; exact h2⟩
    · exact ⟨zs[j], b, o, e, h1, by rw [World.cell?_setCell_far _ _ _ _ (by show g ≠ b; exact hbg)]; exact h2⟩
  obtain ⟨zs', hl, hz⟩ := choose_list hrow
  exact ⟨zs', hl, Ints.of (by rw [hl]; exact h.form.1) fun j z hj => hz j z hj⟩
theorem EntAt.write {n₀ : Nat} {w : World} : ∀ {es : List (Value × Pc)} (_ : EntAt n₀ w es) {g x : Nat} {t : TypeId} {cs : List Value} (_ : Blk w g t cs) (_ : x < cs.length) (y : Int), ∃ es', es'.length = es.length ∧ entCells es' = entCells es ∧ EntAt n₀ (w.setCell ⟨g, x, none⟩ (.int .i64 y)) es'
  | [], _, _, _, _, _, _, _, _ => ⟨[], rfl, rfl, fun e he => by simp at he⟩
  | e :: es, h, g, x, t, cs, hb, hx, y => by
    obtain ⟨es', h1, h2, h3⟩ := EntAt.write (es := es) (fun f hf => h f (List.mem_cons_of_mem _ hf)) hb hx y
    obtain ⟨pa, pn, pc, q1, q2, q3⟩ := h e List.mem_cons_self
    obtain ⟨zs', z1, z2⟩ := q2.write hb hx y
    refine ⟨(e.1, ⟨zs', e.2.want, e.2.join⟩) :: es', by rw [List.length_cons, List.length_cons, h1], ?_, fun f hf => ?_⟩
    · show [_, _, _] ++ entCells es' = [_, _, _] ++ entCells es
      rw [h2]
    · rcases List.mem_cons.1 hf with rfl | hf
      · exact ⟨pa, pn, pc, q1, z2, by show zs'.length ≤ maxLen; rw [z1]; exact q3⟩
      · exact h3 f hf
theorem own_empty (base : Nat) (w : World) (t : TypeId) (hb : base ≤ w.heap.size) : (w.alloc (.cells #[] t)).ownsRow base t 1 (.slice (some ⟨w.heap.size, 0, none⟩) 0 0) 0 [] :=
  ⟨rfl, .inr ⟨w.heap.size, 0, #[], rfl, hb, heap_alloc_new w _, Nat.le_refl _, by decide, rfl, rfl⟩⟩
theorem EntOwn.app {w w' : World} {base b k cap : Nat} {A : Option Addr} {cells : List Value} {es : List (Value × Pc)} (h : EntOwn w base es) (hrow : w.ownsRow b 50 3 (.slice A k cap) k cells) (hu : Upd (A.map (·.block)).toList w w') : EntOwn w' base es := fun e he => by
  obtain ⟨pa, pc, h1, h2, h3⟩ := h e he
  refine ⟨pa, pc, h1, own_kept h2 hu fun q hq hm => ?_, h3⟩
  obtain ⟨g, r, rfl, _, hb, _⟩ := own_open1 h2 (by have := h3.1.1; omega)
  have hg : g = q := by simpa [Value.ownBlock] using hq
  exact own_blk_ne hrow hb (by decide) q (by rw [ownBlock_slice]; simpa using hm) hg.symm
theorem EntOwn.snoc {w : World} {base : Nat} {es : List (Value × Pc)} {e : Value × Pc} (h : EntOwn w base es) {pa : Option Addr} {pc : Nat} (h1 : e.1 = .slice pa e.2.lens.length pc) (h2 : w.ownsRow base 3 1 (.slice pa e.2.lens.length pc) e.2.lens.length (e.2.lens.map (Value.int .i64))) (h3 : PcOk e.2) : EntOwn w base (es ++ [e]) := fun f hf => by
  rcases List.mem_append.1 hf with hf | hf
  · exact h f hf
  · obtain rfl : f = e := by simpa using hf
    exact ⟨pa, pc, h1, h2, h3⟩
/-- The rows of lengths lie apart. -/
def Dis (es : List (Value × Pc)) : Prop := ∀ (i j : Nat) (e f : Value × Pc), es[i]? = some e → es[j]? = some f → i ≠ j → e.1.ownBlock ≠ f.1.ownBlock
theorem Dis.snoc {w : World} {base : Nat} {es : List (Value × Pc)} (hd : Dis es) (h : EntOwn w base es) {e : Value × Pc} {g : Nat} (hg : e.1.ownBlock = some g) (hgw : w.heap.size ≤ g) : Dis (es ++ [e]) := by
  have hold : ∀ (i : Nat) (f : Value × Pc), es[i]? = some f → f.1.ownBlock ≠ some g := fun i f hf hq => by
    obtain ⟨pa, pc, h1, h2, h3⟩ := h f (List.mem_of_getElem? hf)
    rw [h1] at hq
    have := (row_lt h2 g hq).2
    omega
  have hat : ∀ (i : Nat) (f : Value × Pc), (es ++ [e])[i]? = some f → (i < es.length ∧ es[i]? = some f) ∨ (i = es.length ∧ f = e) := fun i f hf => by
    rcases Nat.lt_or_ge i es.length with hi | hi
    · rw [List.getElem?_append_left hi] at hf
      exact .inl ⟨hi, hf⟩
    · rw [List.getElem?_append_right hi] at hf
      have h2 := (List.getElem?_eq_some_iff.1 hf).1
      simp at h2
      obtain rfl : i = es.length := by omega
      simp at hf
      exact .inr ⟨rfl, hf.symm⟩
  intro i j a b ha hb hij
  rcases hat i a ha with ⟨h1, h2⟩ | ⟨h1, rfl⟩ <;> rcases hat j b hb with ⟨h3, h4⟩ | ⟨h3, rfl⟩
  · exact hd i j a b h2 h4 hij
  · rw [hg]; exact hold i a h2
  · rw [hg]; exact fun h => hold j b h4 h.symm
  · omega
theorem EntOwn.but {w w' w2 : World} {base b : Nat} {es : List (Value × Pc)} (h : EntOwn w base es) (hd : Dis es) {y : Nat} {e f : Value × Pc} {ge : Nat} (he : es[y]? = some e) (hg : e.1.ownBlock = some ge) (hu : Upd [ge] w w')
    {g : Nat} {t : TypeId} {cs : List Value} (hb : Blk w' g t cs) (hne : 3 ≠ t) (hu2 : Upd [g] w' w2)
    {pa : Option Addr} {pc : Nat} (h1 : f.1 = .slice pa f.2.lens.length pc) (h2 : w'.ownsRow b 3 1 (.slice pa f.2.lens.length pc) f.2.lens.length (f.2.lens.map (Value.int .i64))) (h3 : f.2.lens.length ≤ maxLen) : EntAt w2.heap.size w2 (es.set y f) := fun x hx => by
  obtain ⟨i, hi⟩ := List.getElem?_of_mem hx
  rw [List.getElem?_set] at hi
  split at hi
  · split at hi
    · obtain rfl : f = x := by simpa using hi
      exact ⟨pa, _, pc, h1, own_ints (own_kept h2 hu2 fun q hq hm => own_blk_ne h2 hb hne q hq (by simpa using hm)), h3⟩
    · cases hi
  · next hnei =>
    obtain ⟨pa, pc, q1, q2, q3⟩ := h x (List.mem_of_getElem? hi)
    have hdx := hd y i e x he hi hnei
    have k2 := own_kept q2 hu fun q hq hm => by
      have hqg : q = ge := by simpa using hm
      rw [hg, q1, hq, hqg] at hdx
      exact hdx rfl
    exact ⟨pa, _, pc, q1, own_ints (own_kept k2 hu2 fun q hq hm => own_blk_ne k2 hb hne q hq (by simpa using hm)), by have := q3.1.2; unfold maxLen; omega⟩
end Go.Proofs.Yteehjciepccomaa
