/-
  Made: valid pieces with a hidden choice.
-/
import Derived.Test.YteehjciepccomaaFSane
import Derived.Laws.Closers25
import Derived.Deep.RegionHeld3
namespace Go.Proofs.Yteehjciepccomaa
open Go.RowKit
set_option maxRecDepth 100000
set_option maxHeartbeats 1000000

theorem wf_in {n : Int} (h : -9223372036854775808 ≤ n ∧ n ≤ 9223372036854775807) : (Lit.int .i64 n).wf = true := by
  rw [← Go.IntWalk.i64_in n h]
  exact wf_wrap _ _
theorem tdiv_in {x a : Int} (hx : (Lit.int .i64 x).wf = true) (ha : 1 ≤ a) : IntKind.i64.wrap (x.tdiv a) = x.tdiv a ∧ (Lit.int .i64 (x.tdiv a)).wf = true := by
  obtain ⟨h0, h1⟩ := bounds_i64 hx
  have e := wrap_i64_tdiv x a h0 h1 ha
  exact ⟨e, by rw [← e]; exact wf_wrap _ _⟩

/-- Four numbers that came in. -/
structure X4 where
  a : Int
  b : Int
  c : Int
  d : Int
def X4At (n₀ : Nat) (w : World) (a : Option Addr) (xs : List X4) : Prop := ∀ i x, xs[i]? = some x → ∃ b o, a = some ⟨b, o, none⟩ ∧ b < n₀ ∧
  (Lit.int .i64 x.a).wf = true ∧ (Lit.int .i64 x.b).wf = true ∧ (Lit.int .i64 x.c).wf = true ∧ (Lit.int .i64 x.d).wf = true ∧
  w.cell? ⟨b, o + i * 4, none⟩ = some (.int .i64 x.a) ∧ w.cell? ⟨b, o + i * 4 + 1, none⟩ = some (.int .i64 x.b) ∧ w.cell? ⟨b, o + i * 4 + 2, none⟩ = some (.int .i64 x.c) ∧ w.cell? ⟨b, o + i * 4 + 3, none⟩ = some (.int .i64 x.d)
theorem X4At.below {n₀ : Nat} {w w' : World} {a : Option Addr} {xs : List X4} (h : X4At n₀ w a xs) (hb : Below n₀ w w') : X4At n₀ w' a xs := by
  intro i x hx
  obtain ⟨b, o, e, h1, f1, f2, f3, f4, c0, c1, c2, c3⟩ := h i x hx
  exact ⟨b, o, e, h1, f1, f2, f3, f4, (hb.cell (p := ⟨b, _, none⟩) h1).trans c0, (hb.cell (p := ⟨b, _, none⟩) h1).trans c1, (hb.cell (p := ⟨b, _, none⟩) h1).trans c2, (hb.cell (p := ⟨b, _, none⟩) h1).trans c3⟩

/-- A further piece: a choice that fits goes on. -/
theorem fitsS_snoc {p : Pc} {n : Int} (hn : n ∈ p.lens) : ∀ {l : List Pc} {h : List Int} {s t : Int}, fitsS t l s h = true → meetsS p t = true → fitsS (t + n) (l ++ [p]) s (h ++ [n]) = true
  | [], [], s, t, hf, hm => by
    have e : s = t := by simpa [fitsS] using hf
    subst e
    simp [fitsS, hm, hn]
  | [], _ :: _, _, _, hf, _ => by simp [fitsS] at hf
  | _ :: _, [], _, _, hf, _ => by simp [fitsS] at hf
  | q :: l, m :: h, s, t, hf, hm => by
    simp only [fitsS, Bool.and_eq_true] at hf
    show fitsS (t + n) (q :: (l ++ [p])) s (m :: (h ++ [n])) = true
    simp only [fitsS, Bool.and_eq_true]
    exact ⟨hf.1, fitsS_snoc hn hf.2 hm⟩

/-- Pieces as they have been laid: each with the block of its lengths. -/
structure Laid where
  p : Pc
  g : Nat
  c : Nat
  r : List Value
def laidCells (q : List Laid) : List Value := q.flatMap fun e => [.slice (some ⟨e.g, 0, none⟩) e.p.lens.length e.c, .int .i64 e.p.want, .int .i64 e.p.join]
theorem laidCells_length (q : List Laid) : (laidCells q).length = q.length * 3 := by
  induction q with
  | nil => rfl
  | cons e q ih =>
    show ([_, _, _] ++ laidCells q).length = _
    rw [List.length_append, ih, List.length_cons]
    simp
    omega
theorem laidCells_at : ∀ (q : List Laid) (i : Nat) (e : Laid) (t : Nat), q[i]? = some e → t < 3 → (laidCells q)[i * 3 + t]? = [Value.slice (some ⟨e.g, 0, none⟩) e.p.lens.length e.c, .int .i64 e.p.want, .int .i64 e.p.join][t]?
  | [], i, e, t, h, _ => by simp at h
  | f :: q, 0, e, t, h, ht => by
    obtain rfl : f = e := by simpa using h
    show ([_, _, _] ++ laidCells q)[0 * 3 + t]? = _
    rw [List.getElem?_append_left (by simp; omega)]
    simp
  | f :: q, i + 1, e, t, h, ht => by
    show ([_, _, _] ++ laidCells q)[(i + 1) * 3 + t]? = _
    rw [List.getElem?_append_right (by simp; omega)]
    have := laidCells_at q i e t (by simpa using h) ht
    rw [← this]
    congr 1
    simp
    omega
theorem laidCells_snoc (q : List Laid) (e : Laid) : laidCells (q ++ [e]) = laidCells q ++ [.slice (some ⟨e.g, 0, none⟩) e.p.lens.length e.c, .int .i64 e.p.want, .int .i64 e.p.join] := by
  unfold laidCells
  rw [List.flatMap_append]
  simp
def LaidAt (w : World) (q : List Laid) : Prop := ∀ e ∈ q, Blk w e.g 3 (e.p.lens.map (Value.int .i64) ++ e.r)
theorem LaidAt.upd {w w' : World} {q : List Laid} {l : List Nat} (h : LaidAt w q) (hu : Upd l w w') (hl : ∀ e ∈ q, e.g ∉ l) : LaidAt w' q := fun e he => (h e he).upd hu (hl e he)
/-- Pieces in a block, with their lengths in blocks of their own: they lie as pieces do. -/
theorem laid_pcs {w : World} {g : Nat} {r : List Value} {q : List Laid} (hb : Blk w g 50 (laidCells q ++ r)) (hq : LaidAt w q) (hlen : ∀ e ∈ q, e.p.lens.length ≤ 100) : PcsAt w.heap.size w (some ⟨g, 0, none⟩) (q.map (·.p)) := by
  intro i p hp
  rw [List.getElem?_map] at hp
  cases he : q[i]? with
  | none => rw [he] at hp; cases hp
  | some e =>
    rw [he] at hp
    obtain rfl : e.p = p := by simpa using hp
    have hm := List.mem_of_getElem? he
    have hi := (List.getElem?_eq_some_iff.1 he).1
    have hx := hq e hm
    have hc : ∀ t, t < 3 → w.cell? ⟨g, i * 3 + t, none⟩ = [Value.slice (some ⟨e.g, 0, none⟩) e.p.lens.length e.c, .int .i64 e.p.want, .int .i64 e.p.join][t]? := fun t ht => by
      rw [hb.cell, List.getElem?_append_left (by rw [laidCells_length]; omega)]
      exact laidCells_at q i e t he ht
    refine ⟨g, 0, some ⟨e.g, 0, none⟩, e.p.lens.length, e.c, rfl, hb.lt, Ints.of rfl (fun j z hz => ⟨e.g, 0, rfl, hx.lt, ?_⟩), by have := hlen e hm; unfold maxLen; omega, ?_, ?_, ?_⟩
    · rw [Nat.zero_add, hx.cell, List.getElem?_append_left (by rw [List.length_map]; exact (List.getElem?_eq_some_iff.1 hz).1)]
      exact ints_cells hz
    · have := hc 0 (by omega); rw [Nat.zero_add]; simpa using this
    · have := hc 1 (by omega); rw [Nat.zero_add]; simpa using this
    · have := hc 2 (by omega); rw [Nat.zero_add]; simpa using this

theorem info_piece : (Try.prog.info? 50).map (fun i => (i.zero, i.size, i.bytes)) = some (some (.agg #[.slice none 0 0, .int .i64 0, .int .i64 0]), 3, 40) := by kernel_rfl
end Go.Proofs.Yteehjciepccomaa
