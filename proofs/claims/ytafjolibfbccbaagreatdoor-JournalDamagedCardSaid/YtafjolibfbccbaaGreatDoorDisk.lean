/-
  How a disk's state lies in memory; the contracts of the disk's small functions.
-/
import Derived.Test.YtafjolibfbccbaaGreatDoorProg
import Derived.Test.YtafjolibfbccbaaGreatDoorMem
import Derived.Test.YtafjolibfbccbaaGreatDoorDPlain
import Derived.WalkSpells
import Derived.StillTailTactics
import Derived.WalkLawsBesides
namespace Go.Proofs.YtafjolibfbccbaaGreatDoor
open Go.RowKit

def pCells (l : List (Nat × List UInt8)) : List Value := l.flatMap fun p => [.int .i64 (p.1 : Int), .string ⟨p.2.toArray⟩]

/-- A disk in memory: the struct in block g, the two contents, the pending writes; F: all its blocks. -/
structure IsDiskAt (w : World) (F : List Nat) (g gd gv : Nat) (A : Option Addr) (c : Nat) (D : DiskS) : Prop where
  head : Blk w g 97 [.bool D.off, .int .i64 (D.left : Int), .slice (some ⟨gd, 0, none⟩) D.sure.length D.sure.length, .slice (some ⟨gv, 0, none⟩) D.sure.length D.sure.length, .slice A D.pend.length c]
  sure : Blk w gd 5 (bCells D.sure)
  vis : Blk w gv 5 (bCells D.vis)
  pend : w.ownsRow 0 92 2 (.slice A D.pend.length c) D.pend.length (pCells D.pend)
  ne : gd ≠ gv
  fp : F = g :: gd :: gv :: (A.map (·.block)).toList
  ok : D.Ok

def IsDisk (w : World) (F : List Nat) (g : Nat) (D : DiskS) : Prop := ∃ gd gv A c, IsDiskAt w F g gd gv A c D

theorem IsDiskAt.upd {w w' : World} {F l : List Nat} {g gd gv c : Nat} {A : Option Addr} {D : DiskS} (h : IsDiskAt w F g gd gv A c D) (hu : Upd l w w') (hd : ∀ k ∈ F, k ∉ l) : IsDiskAt w' F g gd gv A c D := by
  have hF := h.fp
  exact ⟨h.head.upd hu (hd _ (by simp [hF])), h.sure.upd hu (hd _ (by simp [hF])), h.vis.upd hu (hd _ (by simp [hF])),
    own_kept h.pend hu (fun k hk => hd _ (by rw [ownBlock_slice] at hk; simp [hF, hk])), h.ne, h.fp, h.ok⟩
theorem IsDisk.upd {w w' : World} {F l : List Nat} {g : Nat} {D : DiskS} (h : IsDisk w F g D) (hu : Upd l w w') (hd : ∀ k ∈ F, k ∉ l) : IsDisk w' F g D := by
  obtain ⟨gd, gv, A, c, h⟩ := h
  exact ⟨gd, gv, A, c, h.upd hu hd⟩
theorem IsDiskAt.lt {w : World} {F : List Nat} {g gd gv c : Nat} {A : Option Addr} {D : DiskS} (h : IsDiskAt w F g gd gv A c D) : ∀ k ∈ F, k < w.heap.size := by
  intro k hk
  rw [h.fp] at hk
  simp only [List.mem_cons] at hk
  rcases hk with rfl | rfl | rfl | hk
  · exact h.head.lt
  · exact h.sure.lt
  · exact h.vis.lt
  · exact (h.pend.lt k (by rw [ownBlock_slice]; simpa using hk)).2
theorem IsDiskAt.v_far {w : World} {F : List Nat} {g gd gv c : Nat} {A : Option Addr} {D : DiskS} (h : IsDiskAt w F g gd gv A c D) : gv ∉ g :: gd :: (A.map (·.block)).toList := by
  intro hm
  simp only [List.mem_cons] at hm
  rcases hm with hm | hm | hm
  · exact h.vis.ne_ h.head (by decide) hm
  · exact h.ne hm.symm
  · exact own_blk_ne h.pend h.vis (by decide) gv (by rw [ownBlock_slice]; simpa using hm) rfl
theorem IsDiskAt.d_far {w : World} {F : List Nat} {g gd gv c : Nat} {A : Option Addr} {D : DiskS} (h : IsDiskAt w F g gd gv A c D) : gd ∉ g :: gv :: (A.map (·.block)).toList := by
  intro hm
  simp only [List.mem_cons] at hm
  rcases hm with hm | hm | hm
  · exact h.sure.ne_ h.head (by decide) hm
  · exact h.ne hm
  · exact own_blk_ne h.pend h.sure (by decide) gd (by rw [ownBlock_slice]; simpa using hm) rfl
theorem IsDiskAt.g_far {w : World} {F : List Nat} {g gd gv c : Nat} {A : Option Addr} {D : DiskS} (h : IsDiskAt w F g gd gv A c D) : g ∉ gd :: gv :: (A.map (·.block)).toList := by
  intro hm
  simp only [List.mem_cons] at hm
  rcases hm with hm | hm | hm
  · exact h.head.ne_ h.sure (by decide) hm
  · exact h.head.ne_ h.vis (by decide) hm
  · exact own_blk_ne h.pend h.head (by decide) g (by rw [ownBlock_slice]; simpa using hm) rfl
/-- What a call leaves: a disk in the old blocks and new ones; no other block has turned. -/
def Moved (F : List Nat) (w w' : World) (g : Nat) (D : DiskS) : Prop := ∃ F', IsDisk w' F' g D ∧ Upd F w w' ∧ ∀ k ∈ F', k ∈ F ∨ w.heap.size ≤ k

set_option maxHeartbeats 400000 in
/-- check -/
theorem check_nil (w : World) : Calls Tryz.prog 46 #[.pointer none] w fun e w' => e = .returned (.int .i64 1) ∧ w = w' := by
  go_enter Tryz.func46, Tryz.ntmps46
  go_wp2
  go_ret
  exact ⟨rfl, rfl⟩

set_option maxHeartbeats 400000 in
theorem check_off {g : Nat} (w : World) (hc : w.cell? ⟨g, 0, none⟩ = some (.bool true)) : Calls Tryz.prog 46 #[.pointer (some ⟨g, 0, none⟩)] w fun e w' => e = .returned (.int .i64 331) ∧ w = w' := by
  go_enter Tryz.func46, Tryz.ntmps46
  go_wp2
  go_ret
  exact ⟨rfl, rfl⟩

set_option maxHeartbeats 400000 in
theorem check_on {g : Nat} (w : World) (hc : w.cell? ⟨g, 0, none⟩ = some (.bool false)) : Calls Tryz.prog 46 #[.pointer (some ⟨g, 0, none⟩)] w fun e w' => e = .returned (.int .i64 0) ∧ w = w' := by
  go_enter Tryz.func46, Tryz.ntmps46
  go_wp2
  go_ret
  exact ⟨rfl, rfl⟩

set_option maxHeartbeats 400000 in
theorem size_nil (w : World) : Calls Tryz.prog 51 #[.pointer none] w fun e w' => e = .returned (.int .i64 0) ∧ w = w' := by
  go_enter Tryz.func51, Tryz.ntmps51
  go_wp2
  go_ret
  exact ⟨rfl, rfl⟩

set_option maxHeartbeats 400000 in
theorem size_any {g n m : Nat} {a : Option Addr} (w : World) (hc : w.cell? ⟨g, 2, none⟩ = some (.slice a n m)) : Calls Tryz.prog 51 #[.pointer (some ⟨g, 0, none⟩)] w fun e w' => e = .returned (.int .i64 (n : Int)) ∧ w = w' := by
  go_enter Tryz.func51, Tryz.ntmps51
  go_wp2
  go_ret
  exact ⟨rfl, rfl⟩

set_option maxHeartbeats 400000 in
theorem pending_nil (w : World) : Calls Tryz.prog 32 #[.pointer none] w fun e w' => e = .returned (.int .i64 0) ∧ w = w' := by
  go_enter Tryz.func32, Tryz.ntmps32
  go_wp2
  go_ret
  exact ⟨rfl, rfl⟩

set_option maxHeartbeats 400000 in
theorem pending_any {g n m : Nat} {a : Option Addr} (w : World) (hc : w.cell? ⟨g, 4, none⟩ = some (.slice a n m)) : Calls Tryz.prog 32 #[.pointer (some ⟨g, 0, none⟩)] w fun e w' => e = .returned (.int .i64 (n : Int)) ∧ w = w' := by
  go_enter Tryz.func32, Tryz.ntmps32
  go_wp2
  go_ret
  exact ⟨rfl, rfl⟩

set_option maxHeartbeats 400000 in
/-- inside -/
theorem inside_any {g n m : Nat} {a : Option Addr} (off len : Int) (w : World) (hc : w.cell? ⟨g, 2, none⟩ = some (.slice a n m)) (hn : n ≤ 4194304) :
    Calls Tryz.prog 47 #[.pointer (some ⟨g, 0, none⟩), .int .i64 off, .int .i64 len] w fun e w' => e = .returned (.bool (inB n off len)) ∧ w = w' := by
  by_cases h1 : 0 ≤ off
  · by_cases h2 : 0 ≤ len
    · by_cases h3 : off ≤ n
      · by_cases h4 : len ≤ n - off
        · have e : inB n off len = true := by simp [inB]; omega
          have H := hide e
          clear e
          go_enter Tryz.func47, Tryz.ntmps47
          go_wp2
          go_ret
          exact ⟨by rw [H.out]; rfl, rfl⟩
        · have e : inB n off len = false := by simp [inB]; omega
          have H := hide e
          clear e
          go_enter Tryz.func47, Tryz.ntmps47
          go_wp2
          go_ret
          exact ⟨by rw [H.out]; rfl, rfl⟩
      · have e : inB n off len = false := by simp [inB]; omega
        have H := hide e
        clear e
        go_enter Tryz.func47, Tryz.ntmps47
        go_wp2
        go_ret
        exact ⟨by rw [H.out]; rfl, rfl⟩
    · have e : inB n off len = false := by simp [inB]; omega
      have H := hide e
      clear e
      go_enter Tryz.func47, Tryz.ntmps47
      go_wp2
      go_ret
      exact ⟨by rw [H.out]; rfl, rfl⟩
  · have e : inB n off len = false := by simp [inB]; omega
    have H := hide e
    clear e
    go_enter Tryz.func47, Tryz.ntmps47
    go_wp2
    go_ret
    exact ⟨by rw [H.out]; rfl, rfl⟩

set_option maxHeartbeats 400000 in
/-- used -/
theorem used_none {g : Nat} (w : World) (hc : w.cell? ⟨g, 1, none⟩ = some (.int .i64 0)) :
    Calls Tryz.prog 49 #[.pointer (some ⟨g, 0, none⟩)] w fun e w' => e = .returned (.tuple #[]) ∧ w = w' := by
  go_enter Tryz.func49, Tryz.ntmps49
  go_wp2
  refine bodyPost_ret (results_none rfl _ _ _) rfl ?_
  exact ⟨rfl, rfl⟩

set_option maxHeartbeats 400000 in
theorem used_some {g n : Nat} {b : Bool} (w : World) (h0 : w.cell? ⟨g, 0, none⟩ = some (.bool b)) (hc : w.cell? ⟨g, 1, none⟩ = some (.int .i64 ((n : Int) + 1))) (f0 : w.frozen? ⟨g, 0, none⟩ = false) (f1 : w.frozen? ⟨g, 1, none⟩ = false) (hn : n + 1 ≤ 9223372036854775807) :
    Calls Tryz.prog 49 #[.pointer (some ⟨g, 0, none⟩)] w fun e w' => e = .returned (.tuple #[]) ∧ (w.setCell ⟨g, 1, none⟩ (.int .i64 n)).setCell ⟨g, 0, none⟩ (.bool (decide (n = 0))) = w' := by
  have hz : (((n : Int) + 1) == 0) = false := by simp; omega
  go_enter Tryz.func49, Tryz.ntmps49
  go_wp2
  go_end0
  refine ⟨rfl, ?_⟩
  have e : ((n : Int) == 0) = decide (n = 0) := by rw [Bool.eq_iff_iff]; simp
  rw [e]

theorem put_cells (b : List UInt8) (off : Nat) (s : List UInt8) : bCells (put b off s) = (bCells b).take off ++ (bCells s ++ (bCells b).drop (off + s.length)) := by
  simp [put, bCells_append, bCells_take, bCells_drop]

set_option maxHeartbeats 400000 in
/-- onto -/
theorem onto_any {g off n : Nat} (s : ByteArray) (b : List UInt8) (w : World) (hb : Blk w g 5 (bCells b)) (hn : b.length = n) (hf : off + s.size ≤ n) (_hx : n ≤ 4194304) :
    Calls Tryz.prog 48 #[.agg #[.int .i64 (off : Int), .string s], .slice (some ⟨g, 0, none⟩) n n] w fun e w' => e = .returned (.tuple #[]) ∧ Blk w' g 5 (bCells (put b off s.data.toList)) ∧ Upd [g] w w' := by
  go_enter Tryz.func48, Tryz.ntmps48
  go_wp2
  have hon : off ≤ n := by omega
  have Hp := hide (show 0 < s.size → (if n = off then some (⟨g, 0, none⟩ : Addr) else some ⟨g, off, none⟩) = some ⟨g, off, none⟩ ∧ s.size ≤ n - off ∧ off + s.size ≤ (bCells b).length from
    fun h => ⟨by rw [if_neg (by omega)], by omega, by rw [bCells_length]; omega⟩)
  have Hb := hide hb
  clear hb hn hf
  go_region_law (refine step_copy_str rfl (.tmp 7) (.tmp 9) _ _ rfl 5 Tryz.underlying39 (by kernel_rfl) _ _ _ s rfl rfl g off (bCells b) 5 ((Hb.out.alloc _).drew) Hp.out ?_; intro w1 h1 u1)
  all_goals
    go_end0
    refine ⟨rfl, ?_, ?_⟩
    · rw [put_cells, ← Lib.size_eq]
      exact h1
    · exact (((Upd.refl [g] w).alloc _).drew).trans u1 (by simp)

end Go.Proofs.YtafjolibfbccbaaGreatDoor
