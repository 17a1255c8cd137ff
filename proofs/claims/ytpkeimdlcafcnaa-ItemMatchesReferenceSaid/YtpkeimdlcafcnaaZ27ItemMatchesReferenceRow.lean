/-
  The reference's Lengths: the plain laws; the appends of its drawn region.
-/
import Derived.Test.YtpkeimdlcafcnaaZ23ItemMatchesReferenceRow
import Derived.Test.YtpkeimdlcafcnaaZ7ItemMatchesReferenceRow
import Derived.Laws.Append

namespace Go.Proofs.Ytpkeimdlcafcnaa
open Go.RowKit

def insAt (L : List Int) (at_ : Nat) (n : Int) : List Int := L.take at_ ++ n :: L.drop at_
theorem insAt_length (L : List Int) (at_ : Nat) (n : Int) (h : at_ ≤ L.length) : (insAt L at_ n).length = L.length + 1 := by
  unfold insAt
  rw [List.length_append, List.length_cons, List.length_take, List.length_drop]
  omega
/-- What the reference's Lengths has after so many sets. -/
def LensInv (i : It) (k : Nat) (L : List Int) : Prop := L.Pairwise (· < ·) ∧ ∀ x, x ∈ L ↔ ∃ s, s < k ∧ cutLen i (bitsS s i.trims.length) = x
theorem lens_start (i : It) : LensInv i 0 [] := ⟨by simp, fun x => ⟨fun h => by simp at h, fun ⟨s, h, _⟩ => by omega⟩⟩
theorem lens_succ {i : It} {k : Nat} {x : Int} : (∃ s, s < k + 1 ∧ cutLen i (bitsS s i.trims.length) = x) ↔ (∃ s, s < k ∧ cutLen i (bitsS s i.trims.length) = x) ∨ cutLen i (bitsS k i.trims.length) = x := by
  constructor
  · rintro ⟨s, h1, h2⟩
    by_cases e : s = k
    · subst e; exact .inr h2
    · exact .inl ⟨s, by omega, h2⟩
  · rintro (⟨s, h1, h2⟩ | h)
    · exact ⟨s, by omega, h2⟩
    · exact ⟨k, by omega, h⟩
theorem lens_same {i : It} {k : Nat} {L : List Int} (h : LensInv i k L) {at_ : Nat} {z : Int} (hz : L[at_]? = some z) (e : cutLen i (bitsS k i.trims.length) = z) : LensInv i (k + 1) L := by
  refine ⟨h.1, fun x => ?_⟩
  rw [lens_succ, h.2]
  constructor
  · exact .inl
  · rintro (h1 | h1)
    · exact h1
    · have := List.mem_of_getElem? hz
      rw [h.2] at this
      rw [← h1, e]
      exact this
theorem lens_ins {i : It} {k : Nat} {L : List Int} (h : LensInv i k L) {at_ : Nat} {z : Int} (hb : ∀ j x, j < at_ → L[j]? = some x → x < z) (ha : ∀ x, L[at_]? = some x → z < x) (e : cutLen i (bitsS k i.trims.length) = z) : LensInv i (k + 1) (insAt L at_ z) := by
  have h1 : ∀ x ∈ L.take at_, x < z := fun x hx => by
    obtain ⟨j, hj⟩ := List.getElem?_of_mem hx
    rw [List.getElem?_take] at hj
    split at hj
    · exact hb j x (by assumption) hj
    · cases hj
  have hsplit : (L.take at_ ++ L.drop at_).Pairwise (· < ·) := by rw [List.take_append_drop]; exact h.1
  have hp := List.pairwise_append.1 hsplit
  have h2 : ∀ x ∈ L.drop at_, z < x := fun x hx => by
    cases hd : L.drop at_ with
    | nil => rw [hd] at hx; simp at hx
    | cons y r =>
      have hy : z < y := ha y (by
        have := List.getElem?_drop (xs := L) (i := at_) (j := 0)
        rw [hd] at this
        simpa using this.symm)
      rw [hd] at hx
      rcases List.mem_cons.1 hx with rfl | hx
      · exact hy
      · have := (List.pairwise_cons.1 (hd ▸ hp.2.1)).1 x hx
        omega
  refine ⟨?_, fun x => ?_⟩
  · unfold insAt
    refine List.pairwise_append.2 ⟨hp.1, List.pairwise_cons.2 ⟨h2, hp.2.1⟩, fun x hx y hy => ?_⟩
    rcases List.mem_cons.1 hy with rfl | hy
    · exact h1 x hx
    · exact hp.2.2 x hx y hy
  · rw [lens_succ, ← h.2, e]
    unfold insAt
    rw [List.mem_append, List.mem_cons]
    have : x ∈ L ↔ x ∈ L.take at_ ∨ x ∈ L.drop at_ := by rw [← List.mem_append, List.take_append_drop]
    rw [this]
    constructor
    · rintro (h | h | h)
      · exact .inl (.inl h)
      · exact .inr h.symm
      · exact .inl (.inr h)
    · rintro ((h | h) | h)
      · exact .inl h
      · exact .inr (.inr h)
      · exact .inr (.inl h.symm)
theorem lens_end {i : It} {L : List Int} (h : LensInv i (2 ^ i.trims.length) L) : L = lengthsS i := by
  refine asc_ext h.1 (lengthsS_asc i) fun x => ?_
  rw [h.2, mem_lengthsS]
  unfold allLens
  rw [List.mem_map]
  constructor
  · rintro ⟨s, h1, h2⟩; exact ⟨s, List.mem_range.2 h1, h2⟩
  · rintro ⟨s, h1, h2⟩; exact ⟨s, List.mem_range.1 h1, h2⟩

/-- append from a slice that may be nil, in a drawn region. -/
theorem step_append_src {P : Program} {ops : Array Oper} {w : World} {o : Oper} {a : Act} {K : Act → World → Prop} {Q : Exit → Act → World → Prop} {E : Prop} (hgd : o.guard = none) (s x : Operand) (t : TypeId)
    (ho : o.op = .call { callee := .builtin .append, args := #[s, x], argTypes := #[t, t] })
    (base : Nat) (e : TypeId) (z : Value) (size bytes : Nat) (ht : P.underlying t = some (.slice e)) (hinfo : (P.info? e).map (fun i => (i.zero, i.size, i.bytes)) = some (some z, size, bytes)) (hzs : z.cells.size = size) (hsz : 0 < size)
    (A : Option Addr) (n c : Nat) (xs : List Value) (hs : a.eval s = .slice A n c) (hown : w.ownsRow base e size (.slice A n c) n xs)
    (A2 : Option Addr) (m cc : Nat) (news : List Value) (hx : a.eval x = .slice A2 m cc) (hl : news.length = m * size) (hsrc : (A2 = none ∧ m = 0) ∨ ∃ ad, A2 = some ad ∧ ∀ j u, news[j]? = some u → w.cell? (ad.add j) = some u) (h1 : ∀ u ∈ news, u.oneCell' = true)
    (h63 : n + m ≤ maxLen) (hbytes : (n + m) * bytes ≤ 140737488355328) (hbase : base ≤ w.heap.size)
    (h : ∀ A' c' w', w'.ownsRow base e size (.slice A' (n + m) c') (n + m) (xs ++ news) → Upd (A.map (·.block)).toList w w' → K (a.put o.dst (.slice A' (n + m) c')) w') :
    if Region.wanted o (yielded ops a.tmps) = true then Oper.wp P o a w K Q else E := by
  rcases hsrc with ⟨rfl, rfl⟩ | ⟨ad, rfl, hnews⟩
  · have hw : Region.wanted o (yielded ops a.tmps) = true := by simp [Region.wanted, hgd]
    rw [if_pos hw]
    obtain ⟨i, hi, hz, hs1, hb1⟩ := info_parts hinfo
    have hn : news = [] := List.eq_nil_of_length_eq_zero (by simpa using hl)
    subst hn
    have hr := run_append_of_nil (P := P) w base t o.type e i size ht hi _ n xs hown cc
    unfold Oper.wp execOp
    simp only [ho, resolve, invoke, builtin, Sem.run_bind, Sem.run_pure, Result.andThen_ok, List.map_toArray, List.map_cons, List.map_nil, hs, hx, hr]
    exact h A c w (by simpa using hown) (Upd.refl _ _)
  · exact step_append_base hgd s x t ho base e z size bytes ht hinfo hzs hsz A n c xs hs hown ad m cc news hx hl hnews h1 h63 hbytes hbase h
/-- append where there is no room: a new row. -/
theorem step_append_fresh {P : Program} {ops : Array Oper} {w : World} {o : Oper} {a : Act} {K : Act → World → Prop} {Q : Exit → Act → World → Prop} {E : Prop} (hgd : o.guard = none) (s x : Operand) (t : TypeId)
    (ho : o.op = .call { callee := .builtin .append, args := #[s, x], argTypes := #[t, t] })
    (e : TypeId) (z : Value) (bytes : Nat) (ht : P.underlying t = some (.slice e)) (hinfo : (P.info? e).map (fun i => (i.zero, i.size, i.bytes)) = some (some z, 1, bytes))
    (A : Option Addr) (n : Nat) (xs : List Value) (hs : a.eval s = .slice A n n) (hxl : xs.length = n) (hold : (A = none ∧ n = 0) ∨ ∃ ad, A = some ad ∧ ∀ j u, xs[j]? = some u → w.cell? (ad.add j) = some u)
    (ad : Addr) (m cc : Nat) (news : List Value) (hx : a.eval x = .slice (some ad) m cc) (hl : news.length = m) (hm : 0 < m) (hnews : ∀ j u, news[j]? = some u → w.cell? (ad.add j) = some u)
    (h63 : n + m ≤ maxLen) (hbytes : (n + m) * bytes ≤ 140737488355328)
    (h : ∀ c' w', n + m ≤ c' → c' ≤ maxLen → w.heap.size < w'.heap.size → (∀ j u, (xs ++ news)[j]? = some u → w'.cell? ⟨w.heap.size, j, none⟩ = some u) → Upd [] w w' → K (a.put o.dst (.slice (some ⟨w.heap.size, 0, none⟩) (n + m) c')) w') :
    if Region.wanted o (yielded ops a.tmps) = true then Oper.wp P o a w K Q else E := by
  have hw : Region.wanted o (yielded ops a.tmps) = true := by simp [Region.wanted, hgd]
  rw [if_pos hw]
  obtain ⟨i, hi, hz, hs1, hb1⟩ := info_parts hinfo
  have hsmall : n + m ≤ 9223372036854775807 := by simp only [maxLen] at h63; omega
  have fin : ∀ (cs : Array Value), (∀ j u, (xs ++ news)[j]? = some u → cs[j]? = some u) → K (a.put o.dst (.slice (some ⟨w.heap.size, 0, none⟩) (n + m) (grownCap w (n + m) n e))) (w.drew.alloc (.cells cs e)) := fun cs hcs => by
    refine h _ _ (grownCap_ge w (n + m) n e) (grownCap_le_maxLen w (n + m) n e h63) (by rw [World.size_alloc]; exact Nat.lt_succ_self _) (fun j u hj => ?_) ((Upd.refl _ w).drew.alloc _)
    have hb : (w.drew.alloc (.cells cs e)).heap[w.heap.size]? = some (.cells cs e (0, 0)) := heap_alloc_new w.drew _
    rw [cell_of_row _ _ j cs e (0, 0) hb]
    exact hcs j u hj
  rcases hold with ⟨rfl, rfl⟩ | ⟨b, rfl, holds⟩
  · obtain rfl : xs = [] := List.eq_nil_of_length_eq_zero hxl
    have hr := run_append_nil (P := P) w t o.type e i z ht hi hz ad m cc news (by rw [hl, hs1, Nat.mul_one]) hnews hm (by omega) (by rw [hb1]; have hb := hbytes; simp only [Nat.zero_add] at hb; omega)
    unfold Oper.wp execOp
    simp only [ho, resolve, invoke, builtin, Sem.run_bind, Sem.run_pure, Result.andThen_ok, List.map_toArray, List.map_cons, List.map_nil, hs, hx, hr]
    have := fin (news.toArray ++ Builtin.zeroCells z.cells (grownCap w m 0 e - m)) (fun j u hj => by
      have hj' : news[j]? = some u := by simpa using hj
      have := (List.getElem?_eq_some_iff.1 hj').1
      rw [Array.getElem?_append_left (by simpa using this)]
      simpa using hj')
    rw [Nat.zero_add] at this
    exact this
  · have hr := run_append_grow (P := P) w t o.type e i z ht hi hz b n n xs (by rw [hxl, hs1, Nat.mul_one]) holds ad m cc news (by rw [hl, hs1, Nat.mul_one]) hnews (by omega) (by omega) (growslice_fits (by omega) (by rw [hb1]; exact hbytes))
    unfold Oper.wp execOp
    simp only [ho, resolve, invoke, builtin, Sem.run_bind, Sem.run_pure, Result.andThen_ok, List.map_toArray, List.map_cons, List.map_nil, hs, hx, hr]
    refine fin _ (fun j u hj => ?_)
    have hlt := (List.getElem?_eq_some_iff.1 hj).1
    rw [Array.getElem?_append_left (by simpa using hlt)]
    simpa using hj
end Go.Proofs.Ytpkeimdlcafcnaa
