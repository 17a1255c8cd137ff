/-
  One block of the digest as pure words: the 64 steps on eight words.
-/
import Derived.Test.YtafjolibfbccbaaGreatDoorZ7JournalOpensAnythingCard
import Derived.Laws.CopyRow

namespace Go.Proofs.YtafjolibfbccbaaGreatDoor
open Go.RowKit

def wat (s : List Int) (i : Nat) : Int := s[i]?.getD 0
def tS (k x : Int) (s : List Int) : Int :=
  IntKind.u32.wrap (IntKind.u32.wrap (IntKind.u32.wrap (IntKind.u32.wrap (wat s 7 + mixS [6, 11, 25] (wat s 4)) + bits .xor .u32 (bits .and .u32 (wat s 4) (wat s 5)) (bits .and .u32 (bits .xor .u32 IntKind.u32.max (wat s 4)) (wat s 6))) + k) + x)
def uS (s : List Int) : Int :=
  IntKind.u32.wrap (mixS [2, 13, 22] (wat s 0) + bits .xor .u32 (bits .xor .u32 (bits .and .u32 (wat s 0) (wat s 1)) (bits .and .u32 (wat s 0) (wat s 2))) (bits .and .u32 (wat s 1) (wat s 2)))
/-- One step: all words go one place on, the first and the fifth are new. -/
def turnS (k x : Int) (s : List Int) : List Int :=
  [IntKind.u32.wrap (tS k x s + uS s), wat s 0, wat s 1, wat s 2, IntKind.u32.wrap (wat s 3 + tS k x s), wat s 4, wat s 5, wat s 6]
def turnsTo (ks xs s : List Int) : Nat → List Int
  | 0 => s
  | n + 1 => turnS (wat ks n) (wat xs n) (turnsTo ks xs s n)
/-- The words behind one block: those of before, each and its counterpart added. -/
def addS (ks : List Int) (bs : List UInt8) (s : List Int) : List Int :=
  (List.range 8).map fun i => IntKind.u32.wrap (wat s i + wat (turnsTo ks (schedTo bs 48) s 64) i)
theorem turnS_length (k x : Int) (s : List Int) : (turnS k x s).length = 8 := rfl
theorem turnsTo_length (ks xs s : List Int) (hs : s.length = 8) : ∀ n, (turnsTo ks xs s n).length = 8
  | 0 => hs
  | _ + 1 => rfl
theorem addS_length (ks : List Int) (bs : List UInt8) (s : List Int) : (addS ks bs s).length = 8 := by simp [addS]
theorem wat_word {s : List Int} (h : ∀ x ∈ s, Word x) (i : Nat) : Word (wat s i) := by
  unfold wat
  cases hi : s[i]? with
  | none => exact ⟨Int.le_refl _, by decide⟩
  | some x => exact h x (List.mem_of_getElem? hi)
theorem turnS_word (k x : Int) {s : List Int} (h : ∀ x ∈ s, Word x) : ∀ y ∈ turnS k x s, Word y := by
  intro y hy
  unfold turnS at hy
  simp only [List.mem_cons, List.not_mem_nil, or_false] at hy
  rcases hy with rfl | rfl | rfl | rfl | rfl | rfl | rfl | rfl
  · exact wrap_word _
  · exact wat_word h 0
  · exact wat_word h 1
  · exact wat_word h 2
  · exact wrap_word _
  · exact wat_word h 4
  · exact wat_word h 5
  · exact wat_word h 6
theorem turnsTo_word (ks xs : List Int) {s : List Int} (h : ∀ x ∈ s, Word x) : ∀ n, ∀ y ∈ turnsTo ks xs s n, Word y
  | 0 => h
  | n + 1 => turnS_word _ _ (turnsTo_word ks xs h n)
theorem addS_word (ks : List Int) (bs : List UInt8) (s : List Int) : ∀ y ∈ addS ks bs s, Word y := by
  intro y hy
  unfold addS at hy
  obtain ⟨i, _, rfl⟩ := List.mem_map.1 hy
  exact wrap_word _

/-- The variable digest.round holds these words. -/
def RoundAt (w : World) (ks : List Int) : Prop := ∃ t fr, w.heap[(3 : Nat)]? = some (.cells (ks.map (Value.int .u32)).toArray t fr)
theorem RoundAt.upd {l : List Nat} {w w' : World} {ks : List Int} (h : RoundAt w ks) (hu : Upd l w w') (hn : 3 ∉ l) : RoundAt w' ks := by
  obtain ⟨t, fr, hg⟩ := h
  exact ⟨t, fr, (hu.block _ (Array.getElem?_eq_some_iff.1 hg).1 hn).trans hg⟩
theorem RoundAt.lt {w : World} {ks : List Int} (h : RoundAt w ks) : 3 < w.heap.size := by
  obtain ⟨t, fr, hg⟩ := h
  exact (Array.getElem?_eq_some_iff.1 hg).1
theorem eight_of (l : List Int) (h : l.length = 8) : ∃ a b c d e f g i, l = [a, b, c, d, e, f, g, i] := by
  match l, h with
  | [a, b, c, d, e, f, g, i], _ => exact ⟨a, b, c, d, e, f, g, i, rfl⟩
/-- 'copy' from one place of a block to another one of it. -/
theorem step_copy_blk {P : Program} {ops : Array Oper} {w : World} {o : Oper} {a : Act} {K : Act → World → Prop} {Q : Exit → Act → World → Prop} {E : Prop} (hgd : o.guard = none) (d s : Operand) (dT sT : TypeId)
    (ho : o.op = .call { callee := .builtin .copy, args := #[d, s], argTypes := #[dT, sT] }) (elem : TypeId) (hu : P.underlying dT = some (.slice elem)) (hsz : (P.info? elem).map (·.size) = some 1)
    (g off so n dc sc : Nat) (hd : a.eval d = .slice (some ⟨g, off, none⟩) n dc) (hs : a.eval s = .slice (some ⟨g, so, none⟩) n sc)
    (cur cs : List Value) (t : TypeId) (hg : Blk w g t cur) (hn : cs.length = n) (hsrc : ∀ j v, cs[j]? = some v → cur[so + j]? = some v) (hfit : off + n ≤ cur.length) (h1 : ∀ v ∈ cs, v.oneCell' = true)
    (h : ∀ w', Blk w' g t (cur.take off ++ (cs ++ cur.drop (off + n))) → Upd [g] w w' → K (a.put o.dst (goInt n)) w') :
    if Region.wanted o (yielded ops a.tmps) = true then Oper.wp P o a w K Q else E := by
  have hw : Region.wanted o (yielded ops a.tmps) = true := by simp [Region.wanted, hgd]
  rw [if_pos hw]
  have hrun := run_copy_row (P := P) w dT sT o.type elem g off n dc ⟨g, so, none⟩ n sc cur.toArray t cs hu hsz hg (by rw [hn]; exact (Nat.min_self n).symm)
    (fun j v hj => by
      have e : (⟨g, so, none⟩ : Addr).add j = ⟨g, so + j, none⟩ := by unfold Addr.add; split <;> simp_all
      rw [e, hg.cell, hsrc j v hj]) (by simp; omega) h1
  unfold Oper.wp execOp
  simp only [ho, resolve, invoke, builtin, Sem.run_bind, Sem.run_pure, Result.andThen_ok, List.map_toArray, List.map_cons, List.map_nil, hd, hs, hrun]
  rw [hn]
  refine h _ ?_ ((Upd.refl _ _).setRow (.inl (by simp)) _)
  have := hg.setRow (cur.take off ++ (cs ++ cur.drop (off + n)))
  have e : (cur.toArray.toList.take off ++ cs ++ cur.toArray.toList.drop (off + n)) = cur.take off ++ (cs ++ cur.drop (off + n)) := by simp
  rw [e]
  exact this

end Go.Proofs.YtafjolibfbccbaaGreatDoor
