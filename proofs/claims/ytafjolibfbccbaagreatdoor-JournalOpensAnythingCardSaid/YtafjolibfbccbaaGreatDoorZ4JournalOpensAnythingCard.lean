/-
  What a walk is told of arguments that are slices.
  How pieces lie in memory.
  What the texts on items need of memory, with no function of chapter 10.
-/
import Derived.Test.YtafjolibfbccbaaGreatDoorProg
import Derived.Test.YtafjolibfbccbaaGreatDoorZ2JournalOpensAnythingCard
import Derived.ProofKit
import Derived.Deep.Slices
import Derived.Deep.Fields
import Derived.ChangeSame
import Derived.ChangeOld
import Derived.Test.YtafjolibfbccbaaGreatDoorZ1JournalOpensAnythingCard
import Derived.WalkKit
import Derived.Maps.AppendAt

namespace Go.Proofs.YtafjolibfbccbaaGreatDoor
open Go.RowKit Go.ChangeShapes Go.WideShapes Go.Deep

/-- The slice value sv holds the ints zs, in a block below n₀; or it has no address and there are none. -/
def Ints (n₀ : Nat) (W : World) (sv : Value) (zs : List Int) : Prop :=
  (∃ a c, sv = .slice a 0 c ∧ zs = []) ∨ ∃ b off cap, sv = .slice (some ⟨b, off, none⟩) zs.length cap ∧ b < n₀ ∧ ∀ j, j < zs.length → W.cell? ⟨b, off + j, none⟩ = some (.int .i64 (zs[j]?.getD 0))
theorem Ints.below {n₀ : Nat} {A B : World} (h : Below n₀ A B) {sv : Value} {zs : List Int} : Ints n₀ A sv zs → Ints n₀ B sv zs
  | .inl e => .inl e
  | .inr ⟨b, off, cap, e, hb, hc⟩ => .inr ⟨b, off, cap, e, hb, fun j hj => (h.cell (p := ⟨b, off + j, none⟩) hb).trans (hc j hj)⟩

theorem Ints.mono {n₀ n₁ : Nat} {A : World} (hn : n₀ ≤ n₁) {sv : Value} {zs : List Int} : Ints n₀ A sv zs → Ints n₁ A sv zs
  | .inl e => .inl e
  | .inr ⟨b, off, cap, e, hb, hc⟩ => .inr ⟨b, off, cap, e, by omega, hc⟩

/-- A slice of ints that came in. -/
def IntsArg (W : World) (a : Option Addr) (len cap : Nat) (zs : List Int) : Prop :=
  zs.length = len ∧ len ≤ cap ∧ cap ≤ maxLen ∧ (∀ n ∈ zs, (Lit.int .i64 n).wf = true) ∧
  (0 < len → ∃ b off, a = some ⟨b, off, none⟩ ∧ b < W.heap.size ∧ ∀ j, j < len → W.cell? ⟨b, off + j, none⟩ = some (.int .i64 (zs[j]?.getD 0)))
/-- Cells in a row from an address on. -/
def CellsAt (W : World) (b off : Nat) (vs : List Value) : Prop := ∀ j v, vs[j]? = some v → W.cell? ⟨b, off + j, none⟩ = some v
/-- A slice of elements that came in: element i is told by 'R'. -/
def RowArg {α : Type} (W : World) (a : Option Addr) (len cap size : Nat) (R : World → α → List Value → Prop) (xs : List α) : Prop :=
  xs.length = len ∧ len ≤ cap ∧ cap ≤ maxLen ∧
  (0 < len → ∃ b off, a = some ⟨b, off, none⟩ ∧ b < W.heap.size ∧ ∀ i x, xs[i]? = some x → ∃ vs, R W x vs ∧ CellsAt W b (off + i * size) vs)

section
variable {H : Type} {enc : TypeId × Value → H} {P : Program} {w : World} {base : Nat} {spare : Nat → Bool} {held : Bool}
theorem open_slice_fields {t e : TypeId} {fs : Array Field} {fuel : Nat} {cs : List Value} {x : DataW H × List MemPlace} (ht : P.underlying t = some (.slice e)) (he : P.underlying e = some (.struct fs))
    (hone : oneCellFields P fs = true) (hC : P.cellsOf e = fs.size) (h : DataW.trod enc P w base spare held fuel t cs = some x) :
    (cs = [.slice none 0 0] ∧ x = (.nil, [])) ∨
    ∃ (a : Addr) (len cap m : Nat), cs = [.slice (some a) len cap] ∧ base ≤ a.block ∧ len ≤ cap ∧ cap ≤ maxLen ∧ len ≤ m ∧
      ∀ i, i < m → ∃ (n : Nat), ∀ (j : Nat) (f : Field), fs[j]? = some f → ∃ (v : Value) (y : DataW H × List MemPlace), w.cell? (a.add (i * fs.size + j)) = some v ∧ DataW.trod enc P w base spare held n f.type [v] = some y := by
  rcases open_slice ht h with h0 | ⟨a, len, cap, m, n, D, Pl, hcs, hb, hl, hm, hmm, hx, hi⟩
  · exact .inl h0
  · refine .inr ⟨a, len, cap, m, hcs, hb, hl, hm, by rw [hmm]; split <;> omega, fun i him => ?_⟩
    obtain ⟨cs', hc, ht'⟩ := hi i him
    rw [hC] at hc
    obtain ⟨ys, n', hn', hy, hlen, hyl, hf⟩ := DataW.trod_struct he ht'
    obtain ⟨_, hcl, hat⟩ := World.cells?_some hc
    refine ⟨n', fun j f hj => ?_⟩
    obtain ⟨ho, hk⟩ := hone_of hone j f hj
    have hjl : j < fs.size := (Array.getElem?_eq_some_iff.1 hj).1
    have hcell := hat j hjl
    have hv : cs'[j]? = some (cs'[j]'(by omega)) := List.getElem?_eq_getElem (by omega)
    have h1 := hf j f hj
    rw [ho, hk] at h1
    have hone' : (cs'.drop j).take 1 = [cs'[j]'(by omega)] := by
      rw [List.drop_eq_getElem_cons (by omega)]
      rfl
    rw [hone'] at h1
    have hys : ys[j]? = some (ys[j]'(by omega)) := List.getElem?_eq_getElem (by omega)
    refine ⟨_, _, ?_, h1.trans hys⟩
    rw [← Go.Deep.add_add, hcell, hv]

theorem plain_add {a : Addr} (hs : a.spot = none) (n : Nat) : a.add n = ⟨a.block, a.off + n, none⟩ := by
  obtain ⟨b, o, s⟩ := a
  simp only at hs
  subst hs
  unfold Addr.add
  split <;> simp_all
theorem spot_of {a : Addr} {n : Nat} {v : Value} (h : w.cell? (a.add n) = some v) (h0 : n = 0) : a.spot = none := by
  subst h0
  exact World.cell?_spot (by simpa [Addr.add] using h)

theorem open_ints_arg {t e : TypeId} {a : Option Addr} {len cap : Nat} {d : DataW H} {p : List MemPlace} (ht : P.underlying t = some (.slice e)) (he : P.underlying e = some (.int .i64)) (hc : P.cellsOf e = 1)
    (h : DataW.Trod enc P w base spare held t (.slice a len cap) d p) : ∃ zs, IntsArg w a len cap zs := by
  obtain ⟨fuel, hf⟩ := h
  rcases open_ints ht he hc hf with ⟨hcs, _⟩ | ⟨x, l, c, zs, hcs, _, hl, hm, hz, _, hcell, hwz⟩
  · simp [Value.cells] at hcs
    obtain ⟨rfl, rfl, rfl⟩ := hcs
    exact ⟨[], rfl, Nat.le_refl _, Nat.zero_le _, by simp, fun h => by omega⟩
  · simp [Value.cells] at hcs
    obtain ⟨rfl, rfl, rfl⟩ := hcs
    have hle : len ≤ zs.length := by rw [hz]; split <;> omega
    refine ⟨zs.take len, by simp; omega, hl, hm, fun n hn => hwz n (List.mem_of_mem_take hn), fun h0 => ?_⟩
    have hc0 := hcell 0 (by omega)
    have hs := spot_of hc0 rfl
    refine ⟨x.block, x.off, by obtain ⟨b, o, s⟩ := x; simp only at hs; subst hs; rfl, ?_, fun j hj => ?_⟩
    · have := World.block_lt_of_cell? w _ hc0
      simpa [plain_add hs] using this
    · have := hcell j (by omega)
      rw [plain_add hs] at this
      rw [this, List.getElem?_take_of_lt hj, List.getD]

/-- The elements' tellings chosen. -/
theorem choose_list {α : Type} {n : Nat} {R : Nat → α → Prop} (h : ∀ i, i < n → ∃ x, R i x) : ∃ xs : List α, xs.length = n ∧ ∀ i x, xs[i]? = some x → R i x := by
  induction n with
  | zero => exact ⟨[], rfl, by simp⟩
  | succ n ih =>
    obtain ⟨xs, hl, hx⟩ := ih (fun i hi => h i (by omega))
    obtain ⟨y, hy⟩ := h n (by omega)
    refine ⟨xs ++ [y], by simp [hl], fun i x hi => ?_⟩
    rcases Nat.lt_or_ge i n with hlt | hge
    · rw [List.getElem?_append_left (by omega)] at hi
      exact hx i x hi
    · rw [List.getElem?_append_right (by omega), hl] at hi
      obtain ⟨h1, h2⟩ := List.getElem?_eq_some_iff.1 hi
      simp at h1
      have : i = n := by omega
      subst this
      simp at h2
      subst h2
      exact hy

/-- A slice of structs of one-cell fields. -/
theorem open_rows {α : Type} {t e : TypeId} {fs : Array Field} {a : Option Addr} {len cap : Nat} {d : DataW H} {p : List MemPlace} (ht : P.underlying t = some (.slice e)) (he : P.underlying e = some (.struct fs))
    (hone : oneCellFields P fs = true) (hC : P.cellsOf e = fs.size) (hpos : 0 < fs.size) (R : World → α → List Value → Prop)
    (hR : ∀ (n : Nat) (vs : List Value), vs.length = fs.size → (∀ (j : Nat) (f : Field) (v : Value), fs[j]? = some f → vs[j]? = some v → ∃ y, DataW.trod enc P w base spare held n f.type [v] = some y) → ∃ x, R w x vs)
    (h : DataW.Trod enc P w base spare held t (.slice a len cap) d p) : ∃ xs, RowArg w a len cap fs.size R xs := by
  obtain ⟨fuel, hf⟩ := h
  rcases open_slice_fields ht he hone hC hf with ⟨hcs, _⟩ | ⟨x, l, c, m, hcs, _, hl, hm, hlm, hi⟩
  · simp [Value.cells] at hcs
    obtain ⟨rfl, rfl, rfl⟩ := hcs
    exact ⟨[], rfl, Nat.le_refl _, Nat.zero_le _, fun h => by omega⟩
  · simp [Value.cells] at hcs
    obtain ⟨rfl, rfl, rfl⟩ := hcs
    by_cases h0 : len = 0
    · subst h0
      exact ⟨[], rfl, hl, hm, fun h => by omega⟩
    · obtain ⟨n0, hf0⟩ := hi 0 (by omega)
      obtain ⟨v0, y0, hc0, _⟩ := hf0 0 fs[0] (by simp [hpos])
      have hs := spot_of hc0 (by simp)
      have hb := World.block_lt_of_cell? w _ hc0
      rw [plain_add hs] at hb
      have hrow : ∀ i, i < len → ∃ x', ∃ vs, R w x' vs ∧ CellsAt w x.block (x.off + i * fs.size) vs := by
        intro i hil
        obtain ⟨n, hj⟩ := hi i (by omega)
        obtain ⟨vs, hvl, hvs⟩ := choose_list (n := fs.size) (R := fun j v => w.cell? (x.add (i * fs.size + j)) = some v ∧ ∀ f, fs[j]? = some f → ∃ y, DataW.trod enc P w base spare held n f.type [v] = some y) (fun j hjl => by
          obtain ⟨v, y, h1, h2⟩ := hj j fs[j] (by simp [hjl])
          exact ⟨v, h1, fun f hf => by simp [hjl] at hf; subst hf; exact ⟨y, h2⟩⟩)
        obtain ⟨x', hx'⟩ := hR n vs hvl (fun j f v hf hv => (hvs j v hv).2 f hf)
        refine ⟨x', vs, hx', fun j v hv => ?_⟩
        have := (hvs j v hv).1
        rw [plain_add hs] at this
        rw [← this, Nat.add_assoc]
      obtain ⟨xs, hxl, hxs⟩ := choose_list hrow
      exact ⟨xs, hxl, hl, hm, fun _ => ⟨x.block, x.off, by obtain ⟨b, o, s⟩ := x; simp only at hs; subst hs; rfl, by simpa using hb, hxs⟩⟩
end

theorem IntsArg.ints {W : World} {a : Option Addr} {len cap : Nat} {zs : List Int} (h : IntsArg W a len cap zs) (n : Nat) (hn : n ≤ len) (c : Nat) : Ints W.heap.size W (.slice a n c) (zs.take n) := by
  obtain ⟨h1, h2, h3, h4, h5⟩ := h
  by_cases h0 : n = 0
  · subst h0; exact .inl ⟨a, c, rfl, by simp⟩
  · obtain ⟨b, off, rfl, hb, hc⟩ := h5 (by omega)
    have hl : (zs.take n).length = n := by simp; omega
    refine .inr ⟨b, off, c, by rw [hl], hb, fun j hj => ?_⟩
    rw [hl] at hj
    rw [hc j (by omega), List.getElem?_take_of_lt hj]
end Go.Proofs.YtafjolibfbccbaaGreatDoor

namespace Go.Proofs.YtafjolibfbccbaaGreatDoor
open Go.RowKit
set_option maxHeartbeats 1000000

theorem Ints.form {n₀ : Nat} {w : World} {a : Option Addr} {n c : Nat} {zs : List Int} (h : Ints n₀ w (.slice a n c) zs) : n = zs.length ∧ ∀ j z, zs[j]? = some z → ∃ b o, a = some ⟨b, o, none⟩ ∧ b < n₀ ∧ w.cell? ⟨b, o + j, none⟩ = some (.int .i64 z) := by
  rcases h with ⟨a', c', e, rfl⟩ | ⟨b, off, cap, e, hb, hc⟩
  · injection e with e1 e2 e3
    exact ⟨by simpa using e2, by simp⟩
  · injection e with e1 e2 e3
    refine ⟨e2, fun j z hz => ⟨b, off, e1, hb, ?_⟩⟩
    have hj := (List.getElem?_eq_some_iff.1 hz).1
    rw [hc j hj, hz]; rfl
theorem Ints.of {n₀ : Nat} {w : World} {a : Option Addr} {n c : Nat} {zs : List Int} (hn : n = zs.length) (h : ∀ j z, zs[j]? = some z → ∃ b o, a = some ⟨b, o, none⟩ ∧ b < n₀ ∧ w.cell? ⟨b, o + j, none⟩ = some (.int .i64 z)) : Ints n₀ w (.slice a n c) zs := by
  subst hn
  cases zs with
  | nil => exact .inl ⟨a, c, rfl, rfl⟩
  | cons z zs =>
    obtain ⟨b, o, rfl, hb, _⟩ := h 0 z rfl
    refine .inr ⟨b, o, c, rfl, hb, fun j hj => ?_⟩
    obtain ⟨b', o', e, _, hc⟩ := h j _ (List.getElem?_eq_getElem hj)
    obtain ⟨rfl, rfl⟩ : b = b' ∧ o = o' := by simpa using e
    rw [hc, List.getElem?_eq_getElem hj]; rfl
theorem Ints.take {n₀ : Nat} {w : World} {a : Option Addr} {n c c' : Nat} {zs : List Int} (h : Ints n₀ w (.slice a n c) zs) (k : Nat) (hk : k ≤ zs.length) : Ints n₀ w (.slice a k c') (zs.take k) := by
  obtain ⟨_, hc⟩ := h.form
  refine Ints.of (by simp; omega) fun j z hz => hc j z ?_
  rw [List.getElem?_take] at hz
  split at hz
  · exact hz
  · cases hz

/-- Pieces in a row from an address on; all of it in blocks below n₀. -/
def PcsAt (n₀ : Nat) (w : World) (a : Option Addr) (l : List Pc) : Prop := ∀ i p, l[i]? = some p → ∃ b o pa pn pc, a = some ⟨b, o, none⟩ ∧ b < n₀ ∧ Ints n₀ w (.slice pa pn pc) p.lens ∧ p.lens.length ≤ maxLen ∧
  w.cell? ⟨b, o + i * 3, none⟩ = some (.slice pa pn pc) ∧ w.cell? ⟨b, o + i * 3 + 1, none⟩ = some (.int .i64 p.want) ∧ w.cell? ⟨b, o + i * 3 + 2, none⟩ = some (.int .i64 p.join)
theorem PcsAt.below {n₀ : Nat} {w w' : World} {a : Option Addr} {l : List Pc} (h : PcsAt n₀ w a l) (hb : Below n₀ w w') : PcsAt n₀ w' a l := by
  intro i p hp
  obtain ⟨b, o, pa, pn, pc, e, h1, h2, h3, c0, c1, c2⟩ := h i p hp
  exact ⟨b, o, pa, pn, pc, e, h1, h2.below hb, h3, (hb.cell (p := ⟨b, _, none⟩) h1).trans c0, (hb.cell (p := ⟨b, _, none⟩) h1).trans c1, (hb.cell (p := ⟨b, _, none⟩) h1).trans c2⟩
theorem PcsAt.mono {n₀ n₁ : Nat} {w : World} {a : Option Addr} {l : List Pc} (h : PcsAt n₀ w a l) (hn : n₀ ≤ n₁) : PcsAt n₁ w a l := by
  intro i p hp
  obtain ⟨b, o, pa, pn, pc, e, h1, h2, h3, c⟩ := h i p hp
  exact ⟨b, o, pa, pn, pc, e, by omega, h2.mono hn, h3, c⟩
theorem PcsAt.take {n₀ : Nat} {w : World} {a : Option Addr} {l : List Pc} (h : PcsAt n₀ w a l) (k : Nat) : PcsAt n₀ w a (l.take k) := by
  intro i p hp
  rw [List.getElem?_take] at hp
  split at hp
  · exact h i p hp
  · cases hp
end Go.Proofs.YtafjolibfbccbaaGreatDoor

namespace Go.Proofs.YtafjolibfbccbaaGreatDoor
open Go.RowKit
set_option maxRecDepth 100000
set_option maxHeartbeats 1000000

theorem keepc (w W : World) (ad : Addr) (v : Value) (hu : Upd [] w W) (hc : w.cell? ad = some v) : W.cell? ad = some v := (hu.cell (World.block_lt_of_cell? _ _ hc) (by simp)).trans hc
theorem ints_upd {n₀ : Nat} {w w' : World} {v : Value} {zs : List Int} {l : List Nat} (h : Ints n₀ w v zs) (hu : Upd l w w') (hn : n₀ ≤ w.heap.size) (hl : ∀ x ∈ l, n₀ ≤ x) : Ints n₀ w' v zs := by
  rcases h with h | ⟨b, off, cap, e, hb, hc⟩
  · exact .inl h
  · exact .inr ⟨b, off, cap, e, hb, fun j hj => (hu.cell (p := ⟨b, off + j, none⟩) (Nat.lt_of_lt_of_le hb hn) (fun hm => by have := hl b hm; omega)).trans (hc j hj)⟩
theorem it_own_less {w : World} {base base' e size n : Nat} {v : Value} {xs : List Value} (h : w.ownsRow base e size v n xs) (hb : base' ≤ base) : w.ownsRow base' e size v n xs := by
  refine ⟨h.1, ?_⟩
  rcases h.2 with h | ⟨g, cap, cur, h1, h2, h3⟩
  · exact .inl h
  · exact .inr ⟨g, cap, cur, h1, Nat.le_trans hb h2, h3⟩
theorem it_own_block {w : World} {base e size n : Nat} {v : Value} {xs : List Value} (h : w.ownsRow base e size v n xs) : ∀ k, v.ownBlock = some k → base ≤ k := fun k hk => by
  rcases h.2 with ⟨hv, _⟩ | ⟨g, cap, cur, hv, hb, _⟩
  · rw [hv] at hk; simp [Value.ownBlock] at hk
  · rw [hv] at hk
    obtain rfl : g = k := by simpa [Value.ownBlock] using hk
    exact hb

theorem it_own_lt {w : World} {base e size n : Nat} {v : Value} {xs : List Value} (h : w.ownsRow base e size v n xs) : ∀ k, v.ownBlock = some k → k < w.heap.size := fun k hk => by
  rcases h.2 with ⟨hv, _⟩ | ⟨g, cap, cur, hv, hb, hg, _⟩
  · rw [hv] at hk; simp [Value.ownBlock] at hk
  · rw [hv] at hk
    obtain rfl : g = k := by simpa [Value.ownBlock] using hk
    exact (Array.getElem?_eq_some_iff.1 hg).1
theorem it_own_ints {w : World} {base e : Nat} {v : Value} {zs : List Int} (h : w.ownsRow base e 1 v zs.length (zs.map (Value.int .i64))) : Ints w.heap.size w v zs := by
  rcases h.2 with ⟨hv, h0⟩ | ⟨g, cap, cur, hv, _, hg, h1, h2, h3, h4⟩
  · exact .inl ⟨none, 0, hv, List.eq_nil_of_length_eq_zero h0⟩
  · refine .inr ⟨g, 0, cap, hv, (Array.getElem?_eq_some_iff.1 hg).1, fun k hk => ?_⟩
    subst hv
    have := World.ownsRow.cells h (g := g) rfl k (.int .i64 (zs[k]?.getD 0)) (by simp [hk])
    have e : (⟨g, 0, none⟩ : Addr).add k = ⟨g, k, none⟩ := by unfold Addr.add; split <;> simp_all
    rw [e] at this
    rw [Nat.zero_add]
    exact this
theorem it_own_le {w : World} {base e size n : Nat} {v : Value} {xs : List Value} (h : w.ownsRow base e size v n xs) : n ≤ maxLen := by
  rcases h.2 with ⟨_, h0⟩ | ⟨g, cap, cur, hv, _, hg, h1, h2, _⟩
  · unfold maxLen; omega
  · omega
theorem it_one_new (w : World) (v : Value) (t : TypeId) (n : Nat) (hn : w.heap.size = n) : ∀ j u, [v][j]? = some u → (w.alloc (.cells #[v] t)).cell? ((⟨n, 0, none⟩ : Addr).add j) = some u := by
  subst hn
  exact cell_one_new w v t
end Go.Proofs.YtafjolibfbccbaaGreatDoor
