/-
  Item's functions as FitItems uses them; the state of its first loop.
-/
import Derived.Test.YteehjciepccomaaZ23FitItemsRow
import Derived.Test.YteehjciepccomaaZ27FitItemsRow
import Derived.Test.YteehjciepccomaaZ11FitItemsRow

namespace Go.Proofs.Yteehjciepccomaa
open Go.RowKit
set_option maxRecDepth 100000
set_option maxHeartbeats 4000000

section
variable {i : It} {ta ka : Option Addr} {W : World} (h : ItAt W i ta ka) (hok : ItOk i) (tc kc : Nat)
include h hok
omit h in
theorem j_small : i.trims.length ≤ maxLen ∧ i.talks.length ≤ maxLen := by
  have h1 := hok.2.1.1.2
  have h2 := hok.2.1.2.2
  unfold maxLen
  omega
theorem j_lengths : Calls Try.prog 34 #[.agg #[.int .i64 i.id, .int .i64 i.kind, .int .i64 i.len, .slice ta i.trims.length tc, .slice ka i.talks.length kc, .int .i64 i.artist, .int .i64 i.tempo, .int .i64 i.lang]] W fun e w' =>
    ∃ A c, e = .returned (.tuple #[.slice A (lengthsS i).length c, .int .i64 0]) ∧ w'.ownsRow 0 3 1 (.slice A (lengthsS i).length c) (lengthsS i).length ((lengthsS i).map (Value.int .i64)) ∧ Upd [] W w' := by
  obtain ⟨m1, m2⟩ := j_small hok
  refine (itemLengths i ta tc ka kc W h.trims h.talks (Nat.le_refl _) m1 m2).mono fun e w' h9 => ?_
  unfold LengthsPost at h9
  rw [if_pos hok] at h9
  obtain ⟨v, rfl, ho, hu⟩ := h9
  obtain ⟨A, c, rfl⟩ := own_form ho
  exact ⟨A, c, rfl, ho, hu⟩
theorem j_cut (wanted : Int) {b : List Int} (hb : bestOf i wanted (List.range (2 ^ i.trims.length)) = some b) : Calls Try.prog 37 #[.agg #[.int .i64 i.id, .int .i64 i.kind, .int .i64 i.len, .slice ta i.trims.length tc, .slice ka i.talks.length kc, .int .i64 i.artist, .int .i64 i.tempo, .int .i64 i.lang], .int .i64 wanted] W fun e w' =>
    ∃ A c, e = .returned (.tuple #[.slice A b.length c, .int .i64 0]) ∧ Ints w'.heap.size w' (.slice A b.length c) b ∧ Upd [] W w' := by
  obtain ⟨m1, m2⟩ := j_small hok
  refine (itemCut i ta tc ka kc wanted W h.trims h.talks (Nat.le_refl _) m1 m2).mono fun e w' h9 => ?_
  unfold CutPost at h9
  rw [if_pos hok, hb] at h9
  obtain ⟨hu, v, rfl, ho⟩ := h9
  obtain ⟨A, c, rfl⟩ := own_form ho
  exact ⟨A, c, rfl, it_own_ints ho, hu⟩
variable (a : Option Addr) (n c : Nat) (xs : List Int) (hC : Ints W.heap.size W (.slice a n c) xs) (hm : n ≤ maxLen) (hcut : CutOk i.trims.length xs)
include hC hm hcut
theorem j_length : Calls Try.prog 35 #[.agg #[.int .i64 i.id, .int .i64 i.kind, .int .i64 i.len, .slice ta i.trims.length tc, .slice ka i.talks.length kc, .int .i64 i.artist, .int .i64 i.tempo, .int .i64 i.lang], .slice a n c] W fun e w' =>
    e = .returned (.tuple #[.int .i64 (cutLen i xs), .int .i64 0]) ∧ Upd [] W w' := by
  obtain ⟨m1, m2⟩ := j_small hok
  refine (itemLength i ta tc ka kc a n c xs W h.trims h.talks (Nat.le_refl _) m1 m2 hC (Nat.le_refl _) hm).mono fun e w' h9 => ?_
  rwa [if_pos ⟨hok, hcut⟩] at h9
theorem j_place (k : Int) (h0 : 0 ≤ k) (h1 : k < cutLen i xs) : Calls Try.prog 38 #[.agg #[.int .i64 i.id, .int .i64 i.kind, .int .i64 i.len, .slice ta i.trims.length tc, .slice ka i.talks.length kc, .int .i64 i.artist, .int .i64 i.tempo, .int .i64 i.lang], .slice a n c, .int .i64 k] W fun e w' =>
    e = .returned (.tuple #[.int .i64 (placeS i.trims xs k), .int .i64 0]) ∧ Upd [] W w' := by
  obtain ⟨m1, m2⟩ := j_small hok
  refine (itemPlace i ta tc ka kc a n c xs k W h.trims h.talks (Nat.le_refl _) m1 m2 hC (Nat.le_refl _) hm).mono fun e w' h9 => ?_
  rwa [if_pos ⟨⟨hok, hcut⟩, h0, h1⟩] at h9
omit hcut in
theorem j_noplace (k : Int) (h1 : cutLen i xs ≤ k) : Calls Try.prog 38 #[.agg #[.int .i64 i.id, .int .i64 i.kind, .int .i64 i.len, .slice ta i.trims.length tc, .slice ka i.talks.length kc, .int .i64 i.artist, .int .i64 i.tempo, .int .i64 i.lang], .slice a n c, .int .i64 k] W fun e w' =>
    e = .returned (.tuple #[.int .i64 0, .int .i64 70]) ∧ Upd [] W w' := by
  obtain ⟨m1, m2⟩ := j_small hok
  refine (itemPlace i ta tc ka kc a n c xs k W h.trims h.talks (Nat.le_refl _) m1 m2 hC (Nat.le_refl _) hm).mono fun e w' h9 => ?_
  rwa [if_neg (fun hh => by have := hh.2.2; omega)] at h9
end
theorem info_pc : (Try.prog.info? 50).map (fun i => (i.zero, i.size, i.bytes)) = some (some (.agg #[.slice none 0 0, .int .i64 0, .int .i64 0]), 3, 40) := by kernel_rfl
/-- Each piece's lengths are a row of their own. -/
def EntOwn (W : World) (es : List (Value × Pc)) : Prop := ∀ e ∈ es, ∃ pa pc, e.1 = .slice pa e.2.lens.length pc ∧ W.ownsRow 0 3 1 (.slice pa e.2.lens.length pc) e.2.lens.length (e.2.lens.map (Value.int .i64))
theorem EntOwn.upd {W W' : World} {es : List (Value × Pc)} (h : EntOwn W es) (hu : Upd [] W W') : EntOwn W' es := fun e he => by
  obtain ⟨pa, pc, h1, h2⟩ := h e he
  exact ⟨pa, pc, h1, own_kept h2 hu (by simp)⟩
theorem EntOwn.stay {w w' : World} {es : List (Value × Pc)} {b2 e2 s2 n2 c2 : Nat} {A2 : Option Addr} {xs2 : List Value} (h : EntOwn w es) (h' : w.ownsRow b2 e2 s2 (.slice A2 n2 c2) n2 xs2) (hne : 3 ≠ e2) (hu : Upd (A2.map (·.block)).toList w w') : EntOwn w' es := fun e he => by
  obtain ⟨pa, pc, h1, h2⟩ := h e he
  exact ⟨pa, pc, h1, own_stay h2 h' hne hu⟩
theorem EntOwn.ents {W : World} {es : List (Value × Pc)} (h : EntOwn W es) : EntAt W.heap.size W es := fun e he => by
  obtain ⟨pa, pc, h1, h2⟩ := h e he
  exact ⟨pa, _, pc, h1, it_own_ints h2, it_own_le h2⟩
/-- The first loop's state. -/
structure St1 (wb wr : World) (m k : Nat) (IA : Option Addr) (ic : Nat) (LA : Option Addr) (lc : Nat) (t : Int) (qs : List Rec) (es : List (Value × Pc)) (h : List Int) : Prop where
  row : wr.ownsRow wb.heap.size 61 8 (.slice IA m ic) m (recCells qs)
  len : qs.length = m
  recs : RecsOwn wr qs
  ok : ∀ q ∈ qs, ItOk q.i ∧ q.i.len ≤ 400
  lrow : wr.ownsRow wb.heap.size 50 3 (.slice LA k lc) k (entCells es)
  elen : es.length = k
  ents : EntOwn wr es
  hour : Hour ((qs.take k).map (·.i)) (es.map (·.2)) h t
  upd : Upd [] wb wr
theorem St1.up {wb wr wr' : World} {m k : Nat} {IA : Option Addr} {ic : Nat} {LA : Option Addr} {lc : Nat} {t : Int} {qs : List Rec} {es : List (Value × Pc)} {h : List Int} (s : St1 wb wr m k IA ic LA lc t qs es h) (hu : Upd [] wr wr') : St1 wb wr' m k IA ic LA lc t qs es h :=
  ⟨own_kept s.row hu (by simp), s.len, s.recs.upd hu, s.ok, own_kept s.lrow hu (by simp), s.elen, s.ents.upd hu, s.hour, s.upd.trans hu (by simp)⟩
/-- The first three trims stay. -/
def cutRec (r : Rec) : Rec := { r with i := cut3 r.i }
theorem spCells_take (l : List Sp) (k : Nat) : spCells (l.take k) = (spCells l).take (k * 2) := by
  induction l generalizing k with
  | nil => simp [spCells]
  | cons s l ih =>
    cases k with
    | zero => simp [spCells]
    | succ k =>
      rw [List.take_succ_cons]
      show [Value.int .i64 s.fr, .int .i64 s.to_] ++ spCells (l.take k) = ([Value.int .i64 s.fr, .int .i64 s.to_] ++ spCells l).take ((k + 1) * 2)
      rw [ih, show (k + 1) * 2 = k * 2 + 1 + 1 by omega]
      rfl
theorem St1.cut {wb wr : World} {m k : Nat} {g : Nat} {ic : Nat} {LA : Option Addr} {lc : Nat} {t : Int} {qs : List Rec} {es : List (Value × Pc)} {h : List Int} (s : St1 wb wr m k (some ⟨g, 0, none⟩) ic LA lc t qs es h) {r : Rec} (hr : qs[k]? = some r) {tl : Nat} (htl : tl = min r.i.trims.length 3) :
    St1 wb (wr.setCell ⟨g, k * 8 + 3, none⟩ (.slice r.ta tl r.tc)) m k (some ⟨g, 0, none⟩) ic LA lc t (qs.set k (cutRec r)) es h ∧ (qs.set k (cutRec r))[k]? = some (cutRec r) := by
  have hk := (List.getElem?_eq_some_iff.1 hr).1
  have hu : Upd ((some (⟨g, 0, none⟩ : Addr)).map (·.block)).toList wr (wr.setCell ⟨g, k * 8 + 3, none⟩ (.slice r.ta tl r.tc)) := (Upd.refl _ _).setCell (.inl (by simp)) _
  have hlen : (cut3 r.i).trims.length = tl := by rw [htl]; show (r.i.trims.take 3).length = _; rw [List.length_take, Nat.min_comm]
  have hg : wb.heap.size ≤ g := it_own_block s.row g rfl
  refine ⟨⟨?_, by rw [List.length_set]; exact s.len, fun q hq => ?_, fun q hq => ?_, own_stay s.lrow s.row (by decide) hu, s.elen, s.ents.stay s.row (by decide) hu, ?_, s.upd.setCell (.inr hg) _⟩, ?_⟩
  · have h1 := it_own_set s.row (k * 8 + 3) (.slice r.ta tl r.tc)
    have e : (recCells qs).set (k * 8 + 3) (.slice r.ta tl r.tc) = recCells (qs.set k (cutRec r)) := flat_set recC 8 (fun _ => rfl) qs k r (cutRec r) 3 _ hr (by omega) (by
      show [_, _, _, Value.slice r.ta (cut3 r.i).trims.length r.tc, _, _, _, _] = _
      rw [hlen]
      rfl)
    rw [e] at h1
    exact h1
  · rcases List.mem_or_eq_of_mem_set hq with hq | rfl
    · exact (s.recs q hq).stay s.row (by decide) hu
    · have h1 := (s.recs r (List.mem_of_getElem? hr)).stay s.row (by decide) hu
      have h2 := own_cutk h1.1 tl (by omega)
      refine ⟨?_, h1.2⟩
      show World.ownsRow _ 0 _ 2 (.slice r.ta (cut3 r.i).trims.length r.tc) (cut3 r.i).trims.length (spCells (r.i.trims.take 3))
      rw [hlen]
      have e9 : spCells (r.i.trims.take 3) = (spCells r.i.trims).take (tl * 2) := by
        rw [← spCells_take]
        rcases Nat.le_total r.i.trims.length 3 with h3 | h3
        · rw [List.take_of_length_le h3, List.take_of_length_le (by omega)]
        · rw [show tl = 3 by omega]
      rw [e9]
      exact h2
  · rcases List.mem_or_eq_of_mem_set hq with hq | rfl
    · exact s.ok q hq
    · have := s.ok r (List.mem_of_getElem? hr)
      exact ⟨cut3_ok this.1, this.2⟩
  · rw [List.take_set_of_le (Nat.le_refl _)]
    exact s.hour
  · rw [List.getElem?_set_self hk]
theorem St1.snoc {wb wr w5 : World} {m k : Nat} {IA : Option Addr} {ic : Nat} {LA LA5 : Option Addr} {lc lc5 : Nat} {t : Int} {qs : List Rec} {es : List (Value × Pc)} {h : List Int} (s : St1 wb wr m k IA ic LA lc t qs es h) (hm : m ≤ 6) (hkm : k < m) {q : Rec} (hq : qs[k]? = some q) (h3 : q.i.trims.length ≤ 3) (st : Nat) (j : Int) (hj : j = -1 ∨ j = t)
    {pa : Option Addr} {pc : Nat} (ho : wr.ownsRow 0 3 1 (.slice pa (lengthsS q.i).length pc) (lengthsS q.i).length ((lengthsS q.i).map (Value.int .i64)))
    (h5 : w5.ownsRow wb.heap.size 50 3 (.slice LA5 (k + 1) lc5) (k + 1) (entCells es ++ [.slice pa (lengthsS q.i).length pc, .int .i64 q.i.len, .int .i64 j])) (hu : Upd (LA.map (·.block)).toList wr w5) :
    St1 wb w5 m (k + 1) IA ic LA5 lc5 (t + cutLen q.i (bitsS st q.i.trims.length)) qs (es ++ [(.slice pa (lengthsS q.i).length pc, ⟨lengthsS q.i, q.i.len, j⟩)]) (h ++ [cutLen q.i (bitsS st q.i.trims.length)]) := by
  have hok := s.ok q (List.mem_of_getElem? hq)
  refine ⟨own_stay s.row s.lrow (by decide) hu, s.len, s.recs.stay s.lrow (by decide) hu, s.ok, by rw [entCells_snoc]; exact h5, by rw [List.length_append, s.elen]; rfl, fun e he => ?_, ?_, s.upd.trans hu (fun z hz => .inr (it_own_block s.lrow z (by rw [ownBlock_slice]; simpa using hz)))⟩
  · rcases List.mem_append.1 he with he | he
    · exact s.ents.stay s.lrow (by decide) hu e he
    · obtain rfl := List.mem_singleton.1 he
      exact ⟨pa, pc, rfl, own_stay ho s.lrow (by decide) hu⟩
  · rw [List.take_add_one, hq, Option.toList_some, List.map_append, List.map_append]
    exact hour_snoc s.hour hok.1 h3 hok.2 st j hj (by rw [List.length_map, List.length_take]; omega)
end Go.Proofs.Yteehjciepccomaa
