/-
  A strings.Builder of the call's own, told by its very blocks.
-/
import Derived.Test.YtafjolibfbccbaaGreatDoorZ9JournalOpensAnythingCard
import Derived.RegionTactic

namespace Go.Proofs.YtafjolibfbccbaaGreatDoor
open Go.RowKit
set_option maxRecDepth 100000
set_option maxHeartbeats 4000000

def IsB (w : World) (base bb : Nat) (p v : Value) (bs : List Value) : Prop :=
  base ≤ bb ∧ Blk w bb 78 [p, v] ∧ w.ownsRow base 5 1 v bs.length bs ∧ (p = .pointer none ∨ p = .pointer (some ⟨bb, 0, none⟩))
theorem copyCheck_at (bb : Nat) (p v : Value) (w : World) (hB : Blk w bb 78 [p, v]) (hp : p = .pointer none ∨ p = .pointer (some ⟨bb, 0, none⟩)) :
    Calls Tryz.prog 69 #[.pointer (some ⟨bb, 0, none⟩)] w fun e w' => e = .returned (.tuple #[]) ∧ Blk w' bb 78 [.pointer (some ⟨bb, 0, none⟩), v] ∧ Upd [bb] w w' := by
  rcases hp with rfl | rfl
  · refine (copyCheck_fresh bb w ((hB.cell 0).trans rfl) (by have h9 : w.heap[bb]? = some _ := hB; simp [World.shape?, h9]) (hB.frozen 0)).mono ?_
    rintro e w' ⟨rfl, rfl⟩
    exact ⟨rfl, hB.set_ 0 _, (Upd.refl _ _).setCell (.inl (by simp)) _⟩
  · refine (copyCheck_used bb w ((hB.cell 0).trans rfl)).mono ?_
    rintro e w' ⟨rfl, rfl⟩
    exact ⟨rfl, hB, Upd.refl _ _⟩
theorem IsB.apart {w : World} {base bb : Nat} {p v : Value} {bs : List Value} (h : IsB w base bb p v bs) : ∀ k, v.ownBlock = some k → k ≠ bb := own_blk_ne h.2.2.1 h.2.1 (by decide)
theorem bld_write (base bb : Nat) (p v : Value) (bs : List Value) (s : ByteArray) (w : World) (h : IsB w base bb p v bs) (hlen : bs.length + s.size ≤ 140737488355328) (hbase : base ≤ w.heap.size) :
    Calls Tryz.prog 37 #[.pointer (some ⟨bb, 0, none⟩), .string s] w fun e w' => e = .returned (.tuple #[.int .i64 s.size, .nilIface]) ∧ ∃ v', IsB w' base bb (.pointer (some ⟨bb, 0, none⟩)) v' (bs ++ Lib.strCells s) ∧ Upd (bb :: (v.ownBlock).toList) w w' := by
  obtain ⟨i0, hi, hz0, hz1, hz2⟩ := info_parts bld_byte
  have hap := h.apart
  obtain ⟨hb, hB, hO, hp⟩ := h
  have CC := hide (copyCheck_at bb p v w hB hp)
  have HO := hide hO
  have HAP := hide hap
  have HLEN := hide hlen
  have HBB := hide hb
  have HBS := hide hbase
  clear hB hO hp hap hb hbase
  have hsz : s.size ≤ 9223372036854775807 := by omega
  go_enter Tryz.func37, Tryz.ntmps37
  go_wp2_with fail
  refine CC.out.mono ?_
  rintro e w1 ⟨rfl, hB1, u1⟩
  have hlt := hB1.lt
  have c0 : w1.cell? ⟨bb, 0, none⟩ = some (.pointer (some ⟨bb, 0, none⟩)) := (hB1.cell 0).trans rfl
  have c1 : w1.cell? ⟨bb, 1, none⟩ = some v := (hB1.cell 1).trans rfl
  have HB1 := hide hB1
  have HO1 := hide (own_kept HO.out u1 (fun k hk => by have := HAP.out k hk; simpa using this))
  have HU1 := hide u1
  have O3 := hide (show bs.length + s.size ≤ maxLen by unfold maxLen; omega)
  have O5 := hide (show base ≤ w1.heap.size by have := u1.size; have := HBS.out; omega)
  clear hB1 u1
  go_wp2_with (at_builtin; refine Lib.wpList_append_own_string _ rfl _ _ 39 9 rfl base 5 i0 Tryz.underlying39 Tryz.underlying9 hi hz0 hz1 hz2 _ _ _ rfl HO1.out s rfl O3.out HLEN.out O5.out ?_; intro v' w2 hown' hgrow _; have HB2 := hide (show Blk w2 bb 78 [.pointer (some ⟨bb, 0, none⟩), v] from HB1.out.grown hgrow (fun e => HAP.out bb e.symm rfl)); have d0 : w2.cell? ⟨bb, 0, none⟩ = some (.pointer (some ⟨bb, 0, none⟩)) := (HB2.out.cell 0).trans rfl; have d1 : w2.cell? ⟨bb, 1, none⟩ = some v := (HB2.out.cell 1).trans rfl; have f1 : w2.frozen? ⟨bb, 1, none⟩ = false := HB2.out.frozen 1; obtain ⟨ao, cap, rfl⟩ := own_form hown'; have HO2 := hide hown'; have HG := hide hgrow; clear hown' hgrow)
  go_ret2
  refine ⟨rfl, _, ⟨HBB.out, HB2.out.set_ 1 _, ?_, .inr rfl⟩, ?_⟩
  · have h9 := HO2.out
    have hne := own_blk_ne h9 HB2.out (by decide)
    have h10 := own_kept h9 (w' := w2.setCell ⟨bb, 1, none⟩ (.slice ao (bs.length + s.size) cap)) ((Upd.refl [bb] _).setCell (.inl (by simp)) _) (fun k hk => by have := hne k hk; simpa using this)
    simpa [Lib.strCells_length] using h10
  · have u2 : Upd (bb :: (v.ownBlock).toList) w w2 := (HU1.out.mono (l' := bb :: (v.ownBlock).toList) (fun x hx => by simp at hx; subst hx; simp)).grown (show World.grownBy w1 w2 v.ownBlock from HG.out) (fun k hk => .inl (by rw [hk]; simp))
    exact u2.setCell (.inl (by simp)) _
theorem upd_freeze {l : List Nat} {a w : World} (h : Upd l a w) {g : Nat} (hg : g ∈ l) (n : Nat) : Upd l a (w.freeze ⟨g, 0, none⟩ n) := by
  unfold World.freeze
  split
  · exact h
  · refine ⟨h.os, h.tape, h.output, by simpa using h.size, fun k hk hn => ?_⟩
    have hne : g ≠ k := fun e => hn (e ▸ hg)
    simp only [Array.getElem?_modify]
    rw [if_neg hne]
    exact h.block k hk hn
theorem bld_string (base bb : Nat) (p v : Value) (l : List UInt8) (w : World) (h : IsB w base bb p v (Lib.byteCells l)) (h0 : l ≠ []) :
    Calls Tryz.prog 39 #[.pointer (some ⟨bb, 0, none⟩)] w fun e w' => e = .returned (.string ⟨l.toArray⟩) ∧ Upd (v.ownBlock).toList w w' := by
  obtain ⟨hb, hB, hown, _⟩ := h
  have hl0 : l.length ≠ 0 := by simpa using h0
  rw [Lib.byteCells_length] at hown
  obtain ⟨g, cap, cur, rfl, hbg, hg, hnc, hcm, hcs, htake⟩ : ∃ g cap cur, v = .slice (some ⟨g, 0, none⟩) l.length cap ∧ base ≤ g ∧ w.heap[g]? = some (.cells cur 5 (0, 0)) ∧ l.length ≤ cap ∧ cap ≤ maxLen ∧ cur.size = cap * 1 ∧ cur.toList.take (l.length * 1) = Lib.byteCells l := by
    rcases hown.2 with ⟨_, hz⟩ | ⟨g, cap, cur, hv, r⟩
    · exact absurd hz hl0
    · exact ⟨g, cap, cur, hv, r⟩
  have c1 : w.drew.cell? ⟨bb, 1, none⟩ = some (.slice (some ⟨g, 0, none⟩) l.length cap) := (hB.drew.cell 1).trans rfl
  have hSD : (Builtin.unsafeSliceData_ #[39] 126 #[.slice (some ⟨g, 0, none⟩) l.length cap]).run Tryz.prog w.drew = .ok (.pointer (some ⟨g, 0, none⟩)) w.drew :=
    Lib.run_unsafeSliceData_row _ _ _ _ _ _ (by omega)
  have hUS : (Builtin.unsafeString_ #[126, 3] 9 #[.pointer (some ⟨g, 0, none⟩), .int .i64 l.length]).run Tryz.prog w.drew = .ok (.string ⟨l.toArray⟩) (w.drew.freeze ⟨g, 0, none⟩ l.length) := by
    refine Lib.run_unsafeString_row w.drew 126 3 9 5 Tryz.underlying126 (by kernel_rfl) g cur.size (by have hg' : w.drew.heap[g]? = some (.cells cur 5 (0, 0)) := hg; simp [World.shape?, hg']) l h0 (by omega) (by unfold maxLen at hcm; omega) ?_
    intro j x hx
    have := hown.cells (g := g) rfl j (.int .u8 x.toNat) (by simp [Lib.byteCells, hx])
    exact this
  have HU := hide (show Upd [g] w (w.drew.freeze ⟨g, 0, none⟩ l.length) from upd_freeze ((Upd.refl [g] w).drew) (by simp) _)
  go_enter Tryz.func39, Tryz.ntmps39
  go_wp2
  go_region
  all_goals (go_wp2; go_ret; exact ⟨rfl, HU.out⟩)
end Go.Proofs.YtafjolibfbccbaaGreatDoor
