/-
  How a disk's state lies in memory; the contracts of the disk's small functions.
  The contracts of the disk's settle, New, Read, Write, Sync, Cut.
  The contract of the disk's Write.
-/
import Derived.Test.YtafjolibfbccbaaGreatDoorProg
import Derived.Test.YtafjolibfbccbaaGreatDoorZ2JournalOpensAnythingCard
import Derived.Test.YtafjolibfbccbaaGreatDoorZ1JournalOpensAnythingCard
import Derived.WalkSpells
import Derived.StillTailTactics
import Derived.WalkLawsBesides

namespace Go.Proofs.YtafjolibfbccbaaGreatDoor
open Go.RowKit

def pCells (l : List (Nat × List UInt8)) : List Value := l.flatMap fun p => [.int .i64 (p.1 : Int), .string ⟨p.2.toArray⟩]

/-- A disk in memory: the struct in block g, the two contents, the pending writes; F: all its blocks. -/
structure IsDiskAt (w : World) (F : List Nat) (g gd gv : Nat) (A : Option Addr) (c : Nat) (D : DiskS) : Prop where
  head : Blk w g 97 [.bool D.off, .int .i64 (D.left : Int), .slice (some ⟨gd, 0, none⟩) D.sure.length D.sure.length, .slice (some ⟨gv, 0, none⟩) D.sure.length D.sure.length, .slice A D.pend.length c]
  sure : Blk w gd 5 (bCells D.sure)
  vis : Blk w gv 5 (bCells D.vis)
  pend : w.ownsRow 0 92 2 (.slice A D.pend.length c) D.pend.length (pCells D.pend)
  ne : gd ≠ gv
  fp : F = g :: gd :: gv :: (A.map (·.block)).toList
  ok : D.Ok

def IsDisk (w : World) (F : List Nat) (g : Nat) (D : DiskS) : Prop := ∃ gd gv A c, IsDiskAt w F g gd gv A c D

theorem IsDiskAt.upd {w w' : World} {F l : List Nat} {g gd gv c : Nat} {A : Option Addr} {D : DiskS} (h : IsDiskAt w F g gd gv A c D) (hu : Upd l w w') (hd : ∀ k ∈ F, k ∉ l) : IsDiskAt w' F g gd gv A c D := by
  have hF := h.fp
  exact ⟨h.head.upd hu (hd _ (by simp [hF])), h.sure.upd hu (hd _ (by simp [hF])), h.vis.upd hu (hd _ (by simp [hF])),
    own_kept h.pend hu (fun k hk => hd _ (by rw [ownBlock_slice] at hk; simp [hF, hk])), h.ne, h.fp, h.ok⟩
theorem IsDisk.upd {w w' : World} {F l : List Nat} {g : Nat} {D : DiskS} (h : IsDisk w F g D) (hu : Upd l w w') (hd : ∀ k ∈ F, k ∉ l) : IsDisk w' F g D := by
  obtain ⟨gd, gv, A, c, h⟩ := h
  exact ⟨gd, gv, A, c, h.upd hu hd⟩
theorem IsDiskAt.lt {w : World} {F : List Nat} {g gd gv c : Nat} {A : Option Addr} {D : DiskS} (h : IsDiskAt w F g gd gv A c D) : ∀ k ∈ F, k < w.heap.size := by
  intro k hk
  rw [h.fp] at hk
  simp only [List.mem_cons] at hk
  rcases hk with rfl | rfl | rfl | hk
  · exact h.head.lt
  · exact h.sure.lt
  · exact h.vis.lt
  · exact (h.pend.lt k (by rw [ownBlock_slice]; simpa using hk)).2
theorem IsDiskAt.v_far {w : World} {F : List Nat} {g gd gv c : Nat} {A : Option Addr} {D : DiskS} (h : IsDiskAt w F g gd gv A c D) : gv ∉ g :: gd :: (A.map (·.block)).toList := by
  intro hm
  simp only [List.mem_cons] at hm
  rcases hm with hm | hm | hm
  · exact h.vis.ne_ h.head (by decide) hm
  · exact h.ne hm.symm
  · exact own_blk_ne h.pend h.vis (by decide) gv (by rw [ownBlock_slice]; simpa using hm) rfl
theorem IsDiskAt.d_far {w : World} {F : List Nat} {g gd gv c : Nat} {A : Option Addr} {D : DiskS} (h : IsDiskAt w F g gd gv A c D) : gd ∉ g :: gv :: (A.map (·.block)).toList := by
  intro hm
  simp only [List.mem_cons] at hm
  rcases hm with hm | hm | hm
  · exact h.sure.ne_ h.head (by decide) hm
  · exact h.ne hm
  · exact own_blk_ne h.pend h.sure (by decide) gd (by rw [ownBlock_slice]; simpa using hm) rfl
theorem IsDiskAt.g_far {w : World} {F : List Nat} {g gd gv c : Nat} {A : Option Addr} {D : DiskS} (h : IsDiskAt w F g gd gv A c D) : g ∉ gd :: gv :: (A.map (·.block)).toList := by
  intro hm
  simp only [List.mem_cons] at hm
  rcases hm with hm | hm | hm
  · exact h.head.ne_ h.sure (by decide) hm
  · exact h.head.ne_ h.vis (by decide) hm
  · exact own_blk_ne h.pend h.head (by decide) g (by rw [ownBlock_slice]; simpa using hm) rfl
/-- What a call leaves: a disk in the old blocks and new ones; no other block has turned. -/
def Moved (F : List Nat) (w w' : World) (g : Nat) (D : DiskS) : Prop := ∃ F', IsDisk w' F' g D ∧ Upd F w w' ∧ ∀ k ∈ F', k ∈ F ∨ w.heap.size ≤ k

set_option maxHeartbeats 400000 in
/-- check -/
theorem check_nil (w : World) : Calls Tryz.prog 46 #[.pointer none] w fun e w' => e = .returned (.int .i64 1) ∧ w = w' := by
  go_enter Tryz.func46, Tryz.ntmps46
  go_wp2
  go_ret
  exact ⟨rfl, rfl⟩

set_option maxHeartbeats 400000 in
theorem check_off {g : Nat} (w : World) (hc : w.cell? ⟨g, 0, none⟩ = some (.bool true)) : Calls Tryz.prog 46 #[.pointer (some ⟨g, 0, none⟩)] w fun e w' => e = .returned (.int .i64 331) ∧ w = w' := by
  go_enter Tryz.func46, Tryz.ntmps46
  go_wp2
  go_ret
  exact ⟨rfl, rfl⟩

set_option maxHeartbeats 400000 in
theorem check_on {g : Nat} (w : World) (hc : w.cell? ⟨g, 0, none⟩ = some (.bool false)) : Calls Tryz.prog 46 #[.pointer (some ⟨g, 0, none⟩)] w fun e w' => e = .returned (.int .i64 0) ∧ w = w' := by
  go_enter Tryz.func46, Tryz.ntmps46
  go_wp2
  go_ret
  exact ⟨rfl, rfl⟩

set_option maxHeartbeats 400000 in
theorem size_nil (w : World) : Calls Tryz.prog 51 #[.pointer none] w fun e w' => e = .returned (.int .i64 0) ∧ w = w' := by
  go_enter Tryz.func51, Tryz.ntmps51
  go_wp2
  go_ret
  exact ⟨rfl, rfl⟩

set_option maxHeartbeats 400000 in
theorem size_any {g n m : Nat} {a : Option Addr} (w : World) (hc : w.cell? ⟨g, 2, none⟩ = some (.slice a n m)) : Calls Tryz.prog 51 #[.pointer (some ⟨g, 0, none⟩)] w fun e w' => e = .returned (.int .i64 (n : Int)) ∧ w = w' := by
  go_enter Tryz.func51, Tryz.ntmps51
  go_wp2
  go_ret
  exact ⟨rfl, rfl⟩

set_option maxHeartbeats 400000 in
theorem pending_nil (w : World) : Calls Tryz.prog 32 #[.pointer none] w fun e w' => e = .returned (.int .i64 0) ∧ w = w' := by
  go_enter Tryz.func32, Tryz.ntmps32
  go_wp2
  go_ret
  exact ⟨rfl, rfl⟩

set_option maxHeartbeats 400000 in
theorem pending_any {g n m : Nat} {a : Option Addr} (w : World) (hc : w.cell? ⟨g, 4, none⟩ = some (.slice a n m)) : Calls Tryz.prog 32 #[.pointer (some ⟨g, 0, none⟩)] w fun e w' => e = .returned (.int .i64 (n : Int)) ∧ w = w' := by
  go_enter Tryz.func32, Tryz.ntmps32
  go_wp2
  go_ret
  exact ⟨rfl, rfl⟩

set_option maxHeartbeats 400000 in
/-- inside -/
theorem inside_any {g n m : Nat} {a : Option Addr} (off len : Int) (w : World) (hc : w.cell? ⟨g, 2, none⟩ = some (.slice a n m)) (hn : n ≤ 4194304) :
    Calls Tryz.prog 47 #[.pointer (some ⟨g, 0, none⟩), .int .i64 off, .int .i64 len] w fun e w' => e = .returned (.bool (inB n off len)) ∧ w = w' := by
  by_cases h1 : 0 ≤ off
  · by_cases h2 : 0 ≤ len
    · by_cases h3 : off ≤ n
      · by_cases h4 : len ≤ n - off
        · have e : inB n off len = true := by simp [inB]; omega
          have H := hide e
          clear e
          go_enter Tryz.func47, Tryz.ntmps47
          go_wp2
          go_ret
          exact ⟨by rw [H.out]; rfl, rfl⟩
        · have e : inB n off len = false := by simp [inB]; omega
          have H := hide e
          clear e
          go_enter Tryz.func47, Tryz.ntmps47
          go_wp2
          go_ret
          exact ⟨by rw [H.out]; rfl, rfl⟩
      · have e : inB n off len = false := by simp [inB]; omega
        have H := hide e
        clear e
        go_enter Tryz.func47, Tryz.ntmps47
        go_wp2
        go_ret
        exact ⟨by rw [H.out]; rfl, rfl⟩
    · have e : inB n off len = false := by simp [inB]; omega
      have H := hide e
      clear e
      go_enter Tryz.func47, Tryz.ntmps47
      go_wp2
      go_ret
      exact ⟨by rw [H.out]; rfl, rfl⟩
  · have e : inB n off len = false := by simp [inB]; omega
    have H := hide e
    clear e
    go_enter Tryz.func47, Tryz.ntmps47
    go_wp2
    go_ret
    exact ⟨by rw [H.out]; rfl, rfl⟩

set_option maxHeartbeats 400000 in
/-- used -/
theorem used_none {g : Nat} (w : World) (hc : w.cell? ⟨g, 1, none⟩ = some (.int .i64 0)) :
    Calls Tryz.prog 49 #[.pointer (some ⟨g, 0, none⟩)] w fun e w' => e = .returned (.tuple #[]) ∧ w = w' := by
  go_enter Tryz.func49, Tryz.ntmps49
  go_wp2
  refine bodyPost_ret (results_none rfl _ _ _) rfl ?_
  exact ⟨rfl, rfl⟩

set_option maxHeartbeats 400000 in
theorem used_some {g n : Nat} {b : Bool} (w : World) (h0 : w.cell? ⟨g, 0, none⟩ = some (.bool b)) (hc : w.cell? ⟨g, 1, none⟩ = some (.int .i64 ((n : Int) + 1))) (f0 : w.frozen? ⟨g, 0, none⟩ = false) (f1 : w.frozen? ⟨g, 1, none⟩ = false) (hn : n + 1 ≤ 9223372036854775807) :
    Calls Tryz.prog 49 #[.pointer (some ⟨g, 0, none⟩)] w fun e w' => e = .returned (.tuple #[]) ∧ (w.setCell ⟨g, 1, none⟩ (.int .i64 n)).setCell ⟨g, 0, none⟩ (.bool (decide (n = 0))) = w' := by
  have hz : (((n : Int) + 1) == 0) = false := by simp; omega
  go_enter Tryz.func49, Tryz.ntmps49
  go_wp2
  go_end0
  refine ⟨rfl, ?_⟩
  have e : ((n : Int) == 0) = decide (n = 0) := by rw [Bool.eq_iff_iff]; simp
  rw [e]

theorem put_cells (b : List UInt8) (off : Nat) (s : List UInt8) : bCells (put b off s) = (bCells b).take off ++ (bCells s ++ (bCells b).drop (off + s.length)) := by
  simp [put, bCells_append, bCells_take, bCells_drop]

set_option maxHeartbeats 400000 in
/-- onto -/
theorem onto_any {g off n : Nat} (s : ByteArray) (b : List UInt8) (w : World) (hb : Blk w g 5 (bCells b)) (hn : b.length = n) (hf : off + s.size ≤ n) (_hx : n ≤ 4194304) :
    Calls Tryz.prog 48 #[.agg #[.int .i64 (off : Int), .string s], .slice (some ⟨g, 0, none⟩) n n] w fun e w' => e = .returned (.tuple #[]) ∧ Blk w' g 5 (bCells (put b off s.data.toList)) ∧ Upd [g] w w' := by
  go_enter Tryz.func48, Tryz.ntmps48
  go_wp2
  have hon : off ≤ n := by omega
  have Hp := hide (show 0 < s.size → (if n = off then some (⟨g, 0, none⟩ : Addr) else some ⟨g, off, none⟩) = some ⟨g, off, none⟩ ∧ s.size ≤ n - off ∧ off + s.size ≤ (bCells b).length from
    fun h => ⟨by rw [if_neg (by omega)], by omega, by rw [bCells_length]; omega⟩)
  have Hb := hide hb
  clear hb hn hf
  go_region_law (refine step_copy_str rfl (.tmp 7) (.tmp 9) _ _ rfl 5 Tryz.underlying39 (by kernel_rfl) _ _ _ s rfl rfl g off (bCells b) 5 ((Hb.out.alloc _).drew) Hp.out ?_; intro w1 h1 u1)
  all_goals
    go_end0
    refine ⟨rfl, ?_, ?_⟩
    · rw [put_cells, ← Lib.size_eq]
      exact h1
    · exact (((Upd.refl [g] w).alloc _).drew).trans u1 (by simp)

end Go.Proofs.YtafjolibfbccbaaGreatDoor

namespace Go.Proofs.YtafjolibfbccbaaGreatDoor
open Go.RowKit
set_option maxRecDepth 100000
set_option maxHeartbeats 400000

theorem zero_write (w : World) : (zeroValue 92).run Tryz.prog w = .ok (.agg #[.int .i64 0, .string ⟨#[]⟩]) w := by kernel_rfl
theorem bCells_one (l : List UInt8) : ∀ v ∈ bCells l, v.oneCell' = true := Lib.byteCells_one l

/-- settle -/
theorem settle_any {g gf gt n c pn : Nat} {A : Option Addr} {f0 f1 f2 f3 : Value} {b : List UInt8} {cur xs : List Value} (w : World)
    (hh : Blk w g 97 [f0, f1, f2, f3, .slice A pn c]) (hf : Blk w gf 5 (bCells b)) (ht : Blk w gt 5 cur) (hb : b.length = n) (hc : cur.length = n)
    (hp : w.ownsRow 0 92 2 (.slice A pn c) pn xs) :
    Calls Tryz.prog 65 #[.pointer (some ⟨g, 0, none⟩), .slice (some ⟨gf, 0, none⟩) n n, .slice (some ⟨gt, 0, none⟩) n n] w fun e w' => e = .returned (.tuple #[]) ∧
      Blk w' g 97 [f0, f1, f2, f3, .slice A 0 c] ∧ Blk w' gt 5 (bCells b) ∧ w'.ownsRow 0 92 2 (.slice A 0 c) 0 [] ∧ Upd (g :: gt :: (A.map (·.block)).toList) w w' := by
  have hne : g ≠ gt := hh.ne_ ht (by decide)
  have Hb := hide hb
  have Hc := hide hc
  have Hh := hide hh
  have Hf := hide hf
  have Ht := hide ht
  have Hp := hide hp
  have Hq := hide (own_blk_ne hp ht (by decide))
  have Hq' := hide (own_blk_ne hp hh (by decide))
  have Hne := hide hne
  clear hb hc hh hf ht hp hne
  go_enter Tryz.func65, Tryz.ntmps65
  go_wp2_with (first
    | (refine wpList_copy_rows rfl (.tmp 6) (.tmp 7) _ _ rfl 5 Tryz.underlying39 (by kernel_rfl) gt gf n n n rfl rfl cur (bCells b) _ _ Ht.out Hf.out Hc.out (by rw [bCells_length]; exact Hb.out) (bCells_one b) ?_
       intro w1 h1 u1
       have H1 := hide h1
       have U1 := hide u1
       have B1 := hide (Hh.out.upd u1 (by simp; exact Hne.out))
       have P1 := hide (own_kept Hp.out u1 (fun k hk => by simp; exact Hq.out k hk))
       have c1 : w1.cell? ⟨g, 4, none⟩ = some (.slice A pn c) := B1.out.cell 4
       clear h1 u1)
    | (refine wpList_clear_own rfl (.tmp 12) _ rfl 92 Tryz.underlying93 _ zero_write 0 2 pn c A xs rfl (by simp [Value.cells]; decide) rfl P1.out ?_
       intro w2 h2 u2
       obtain ⟨ys, h2⟩ := h2
       have H2 := hide h2
       have U2 := hide u2
       have B2 := hide (B1.out.upd u2 (fun hm => Hq'.out g (by rw [ownBlock_slice]; simpa using hm) rfl))
       have G2 := hide (H1.out.upd u2 (fun hm => Hq.out gt (by rw [ownBlock_slice]; simpa using hm) rfl))
       have c2 : w2.cell? ⟨g, 4, none⟩ = some (.slice A pn c) := B2.out.cell 4
       have f2 : w2.frozen? ⟨g, 4, none⟩ = false := B2.out.frozen 4
       clear h2 u2))
  go_end0
  have hg := B2.out.set_ 4 (.slice A 0 c)
  have uu : Upd (g :: gt :: (A.map (·.block)).toList) w (w2.setCell ⟨g, 4, none⟩ (.slice A 0 c)) :=
    ((((Upd.refl _ w).trans U1.out (by simp)).trans U2.out (by simp; intro x hx; exact .inl (.inr (.inr ⟨x, hx, rfl⟩))))).setCell (.inl (by simp)) _
  refine ⟨rfl, hg, G2.out.far (Ne.symm Hne.out) _, ?_, uu⟩
  have hk := own_kept (own_cut0 H2.out) ((Upd.refl [g] w2).setCell (p := ⟨g, 4, none⟩) (.inl (by simp)) (.slice A 0 c)) (fun k hk => by
    have := Hq'.out k (by rw [ownBlock_slice] at hk ⊢; exact hk)
    simpa using this)
  exact hk

theorem settled_at {w w' : World} {F : List Nat} {g gd gv c : Nat} {A : Option Addr} {D : DiskS} {b : List UInt8} (h : IsDiskAt w F g gd gv A c D) (hb : b.length = D.sure.length) {o : Bool} {l : Nat} (hl : l ≤ 9223372036854775807)
    (hg : Blk w' g 97 [.bool o, .int .i64 (l : Int), .slice (some ⟨gd, 0, none⟩) D.sure.length D.sure.length, .slice (some ⟨gv, 0, none⟩) D.sure.length D.sure.length, .slice A 0 c])
    (h1 : Blk w' gd 5 (bCells b)) (h2 : Blk w' gv 5 (bCells b)) (hp : w'.ownsRow 0 92 2 (.slice A 0 c) 0 []) : IsDiskAt w' F g gd gv A c { D.settled b with off := o, left := l } := by
  refine ⟨?_, h1, h2, by simpa [DiskS.settled, pCells] using hp, h.ne, h.fp, ⟨by simp [DiskS.settled], ?_, ?_, by simp [DiskS.settled], hl⟩⟩
  · simpa [DiskS.settled, hb] using hg
  · simp only [DiskS.settled]; rw [hb]; exact h.ok.pos
  · simp only [DiskS.settled]; rw [hb]; exact h.ok.max

theorem IsDiskAt.moved {w w' : World} {F : List Nat} {g gd' gv' c' : Nat} {A' : Option Addr} {D' : DiskS} (h' : IsDiskAt w' F g gd' gv' A' c' D') (hu : Upd F w w') : Moved F w w' g D' :=
  ⟨F, ⟨_, _, _, _, h'⟩, hu, fun _ hk => .inl hk⟩

/-- Sync -/
theorem sync_any {F : List Nat} {g : Nat} {D : DiskS} (w : World) (h : IsDisk w F g D) :
    Calls Tryz.prog 42 #[.pointer (some ⟨g, 0, none⟩)] w fun e w' => e = .returned (.int .i64 D.sync.2) ∧ Moved F w w' g D.sync.1 := by
  obtain ⟨gd, gv, A, c, h⟩ := h
  cases ho : D.off with
  | true =>
    have hc : w.cell? ⟨g, 0, none⟩ = some (.bool true) := by rw [← ho]; exact h.head.cell 0
    have e2 : D.sync = (D, 331) := by simp [DiskS.sync, ho]
    rw [e2]
    have H := hide h
    clear h ho e2
    go_enter Tryz.func42, Tryz.ntmps42
    go_wp2_with (go_at_call 46; refine (check_off _ hc).mono ?_; rintro e w' ⟨rfl, rfl⟩)
    go_ret
    exact ⟨rfl, H.out.moved (Upd.refl _ _)⟩
  | false =>
    have hc : w.cell? ⟨g, 0, none⟩ = some (.bool false) := by rw [← ho]; exact h.head.cell 0
    have c2 : w.cell? ⟨g, 2, none⟩ = some (.slice (some ⟨gd, 0, none⟩) D.sure.length D.sure.length) := h.head.cell 2
    have c3 : w.cell? ⟨g, 3, none⟩ = some (.slice (some ⟨gv, 0, none⟩) D.sure.length D.sure.length) := h.head.cell 3
    have e2 : D.sync = (D.settled D.vis, 0) := by simp [DiskS.sync, ho]
    rw [e2]
    have S := settle_any (g := g) (gf := gv) (gt := gd) w.drew h.head.drew h.vis.drew h.sure.drew h.ok.len (by simp [bCells]) (show World.ownsRow w.drew _ _ _ _ _ _ from h.pend)
    have H := hide h
    have S' := hide S
    have Ho := hide ho
    clear h ho e2 S
    go_enter Tryz.func42, Tryz.ntmps42
    go_wp2_with (go_at_call 46; refine (check_on _ hc).mono ?_; rintro e w' ⟨rfl, rfl⟩)
    go_region_with ((go_at_call 65; refine S'.out.mono ?_; rintro e w' ⟨rfl, h1, h2, h3, h4⟩))
    all_goals
      go_wp2
      go_ret
      have hd := H.out
      exact ⟨rfl, (settled_at hd hd.ok.len hd.ok.left h1 h2 (hd.vis.drew.upd h4 hd.v_far) h3).moved (((Upd.refl _ w).drew).trans h4 (by rw [hd.fp]; simp; intro x hx; exact .inl (.inr (.inr (.inr ⟨x, hx, rfl⟩)))))⟩
/-- Cut -/
theorem cut_any {F : List Nat} {g : Nat} {D : DiskS} (n : Int) (w : World) (h : IsDisk w F g D) (hn : n ≤ 9223372036854775807) :
    Calls Tryz.prog 29 #[.pointer (some ⟨g, 0, none⟩), .int .i64 n] w fun e w' => e = .returned (.int .i64 (D.cut n).2) ∧ Moved F w w' g (D.cut n).1 := by
  obtain ⟨gd, gv, A, c, h⟩ := h
  cases ho : D.off with
  | true =>
    have hc : w.cell? ⟨g, 0, none⟩ = some (.bool true) := by rw [← ho]; exact h.head.cell 0
    have e2 : D.cut n = (D, 331) := by simp [DiskS.cut, ho]
    rw [e2]
    have H := hide h
    clear h ho e2
    go_enter Tryz.func29, Tryz.ntmps29
    go_wp2_with (go_at_call 46; refine (check_off _ hc).mono ?_; rintro e w' ⟨rfl, rfl⟩)
    go_ret
    exact ⟨rfl, H.out.moved (Upd.refl _ _)⟩
  | false =>
    have hc : w.cell? ⟨g, 0, none⟩ = some (.bool false) := by rw [← ho]; exact h.head.cell 0
    by_cases h0 : n < 0
    · have e2 : D.cut n = (D, 2) := by simp [DiskS.cut, ho, h0]
      rw [e2]
      have H := hide h
      clear h ho e2
      go_enter Tryz.func29, Tryz.ntmps29
      go_wp2_with (go_at_call 46; refine (check_on _ hc).mono ?_; rintro e w' ⟨rfl, rfl⟩)
      go_ret
      exact ⟨rfl, H.out.moved (Upd.refl _ _)⟩
    · have e2 : D.cut n = ({ D with off := decide (n = 0), left := n.toNat }, 0) := by simp [DiskS.cut, ho, h0]
      rw [e2]
      have c1 : w.cell? ⟨g, 1, none⟩ = some (.int .i64 (D.left : Int)) := h.head.cell 1
      have f0 := h.head.frozen 0
      have f1 := h.head.frozen 1
      have H := hide h
      have E := hide e2
      clear h ho e2
      have Hn := hide hn
      clear hn
      go_enter Tryz.func29, Tryz.ntmps29
      go_wp2_with (go_at_call 46; refine (check_on _ hc).mono ?_; rintro e w' ⟨rfl, rfl⟩)
      go_ret
      have hd := H.out
      have e0 : (n == 0) = decide (n = 0) := rfl
      have e1 : n = ((n.toNat : Nat) : Int) := by omega
      have hu : Upd F w ((w.setCell ⟨g, 0, none⟩ (.bool (n == 0))).setCell ⟨g, 1, none⟩ (.int .i64 n)) := ((Upd.refl F w).setCell (.inl (by simp [hd.fp])) _).setCell (.inl (by simp [hd.fp])) _
      have h1 : Upd [g] w ((w.setCell ⟨g, 0, none⟩ (.bool (n == 0))).setCell ⟨g, 1, none⟩ (.int .i64 n)) := ((Upd.refl [g] w).setCell (.inl (by simp)) _).setCell (.inl (by simp)) _
      have hb := (hd.head.set_ 0 (.bool (n == 0))).set_ 1 (.int .i64 n)
      refine ⟨rfl, IsDiskAt.moved ⟨?_, hd.sure.upd h1 (fun hm => hd.d_far (by simp at hm; simp [hm])), hd.vis.upd h1 (fun hm => hd.v_far (by simp at hm; simp [hm])),
        own_kept hd.pend h1 (fun k hk hm => own_blk_ne hd.pend hd.head (by decide) k hk (by simpa using hm)), hd.ne, hd.fp, ⟨hd.ok.len, hd.ok.pos, hd.ok.max, hd.ok.fits, ?_⟩⟩ hu⟩
      · rw [e0] at hb
        show Blk _ g _ [.bool (decide (n = 0)), .int .i64 ((n.toNat : Nat) : Int), _, _, _]
        rw [← e1]
        exact hb
      · have := Hn.out
        show n.toNat ≤ _
        omega

/-- Read -/
theorem read_any {F : List Nat} {g : Nat} {D : DiskS} (off n : Int) (w : World) (h : IsDisk w F g D) :
    Calls Tryz.prog 52 #[.pointer (some ⟨g, 0, none⟩), .int .i64 off, .int .i64 n] w fun e w' => e = .returned (.tuple #[.string ⟨(D.read off n).1.toArray⟩, .int .i64 (D.read off n).2]) ∧ w = w' := by
  obtain ⟨gd, gv, A, c, h⟩ := h
  have c2 : w.cell? ⟨g, 2, none⟩ = some (.slice (some ⟨gd, 0, none⟩) D.sure.length D.sure.length) := h.head.cell 2
  have c3 : w.cell? ⟨g, 3, none⟩ = some (.slice (some ⟨gv, 0, none⟩) D.sure.length D.sure.length) := h.head.cell 3
  have hm := h.ok.max
  cases ho : D.off with
  | true =>
    have hc : w.cell? ⟨g, 0, none⟩ = some (.bool true) := by rw [← ho]; exact h.head.cell 0
    have e2 : D.read off n = ([], 331) := by simp [DiskS.read, ho]
    rw [e2]
    clear h ho e2
    go_enter Tryz.func52, Tryz.ntmps52
    go_wp2_with (go_at_call 46; refine (check_off _ hc).mono ?_; rintro e w' ⟨rfl, rfl⟩)
    go_ret2
    exact ⟨rfl, rfl⟩
  | false =>
    have hc : w.cell? ⟨g, 0, none⟩ = some (.bool false) := by rw [← ho]; exact h.head.cell 0
    have I := inside_any off n w c2 hm
    cases hi : inB D.sure.length off n with
    | false =>
      rw [hi] at I
      have e2 : D.read off n = ([], 330) := by simp [DiskS.read, ho, hi]
      rw [e2]
      have I' := hide I
      clear h ho e2 hi I
      go_enter Tryz.func52, Tryz.ntmps52
      go_wp2_with (first
        | (go_at_call 46; refine (check_on _ hc).mono ?_; rintro e w' ⟨rfl, rfl⟩)
        | (go_at_call 47; refine I'.out.mono ?_; rintro e w' ⟨rfl, rfl⟩))
      go_ret2
      exact ⟨rfl, rfl⟩
    | true =>
      rw [hi] at I
      have hb : 0 ≤ off ∧ 0 ≤ n ∧ off ≤ D.sure.length ∧ n ≤ D.sure.length - off := by simpa [inB] using hi
      obtain ⟨h0, h1, h2, h3⟩ := hb
      obtain ⟨o, rfl⟩ : ∃ m : Nat, off = m := ⟨off.toNat, by omega⟩
      obtain ⟨k, rfl⟩ : ∃ m : Nat, n = m := ⟨n.toNat, by omega⟩
      have h4 : o ≤ D.sure.length := by omega
      have h5 : k ≤ D.sure.length - o := by omega
      have e2 : D.read o k = ((D.vis.drop o).take k, 0) := by simp [DiskS.read, ho, hi]
      rw [e2]
      have I' := hide I
      have hv := run_conv_bytes_if (P := Tryz.prog) h.vis 39 5 9 Tryz.underlying39 Tryz.underlying5 Tryz.underlying9 D.sure.length o k (D.sure.length - o) h.ok.len h4 h5
      clear h ho e2 hi I h0 h1 h2 h3
      go_enter Tryz.func52, Tryz.ntmps52
      go_wp2_with (first
        | (go_at_call 46; refine (check_on _ hc).mono ?_; rintro e w' ⟨rfl, rfl⟩)
        | (go_at_call 47; refine I'.out.mono ?_; rintro e w' ⟨rfl, rfl⟩))
      all_goals
        go_ret2
        exact ⟨rfl, rfl⟩
theorem info_byte : (Tryz.prog.info? 5).map (fun i => (i.zero, i.size, i.bytes)) = some (some (.int .u8 0), 1, 1) := by kernel_rfl
theorem zeros_cells (n : Nat) : (bCells (List.replicate n 0)).toArray = madeCells (Value.int .u8 0).cells n := by
  apply Array.toList_inj.1
  rw [show (Value.int .u8 0).cells = #[Value.int .u8 0] from rfl, toList_madeCells_one]
  simp [bCells, bCell]
theorem make_bytes (n : Nat) (hn : n ≤ 4194304) (w : World) : (Instr.makeSlice 39 (.int .i64 (n : Int)) (.int .i64 (n : Int))).run Tryz.prog w = .ok (.slice (some ⟨w.heap.size, 0, none⟩) n n) (w.alloc (.cells (bCells (List.replicate n 0)).toArray 5)) := by
  obtain ⟨i, hi, hz, hs, hb⟩ := info_parts info_byte
  have hr := run_make (P := Tryz.prog) w 39 5 i (.int .u8 0) Tryz.underlying39 hi hz .i64 .i64 n n (by omega) (Int.le_refl _) (by rw [hb]; omega) (by omega)
  rw [hr, zeros_cells, hs]
  simp

theorem fresh_ok (n : Nat) (h1 : 1 ≤ n) (h2 : n ≤ 4194304) : (DiskS.fresh n).Ok := ⟨by simp [DiskS.fresh], by simpa [DiskS.fresh] using h1, by simpa [DiskS.fresh] using h2, by simp [DiskS.fresh], by simp [DiskS.fresh]⟩

theorem new_bad (n : Int) (w : World) (h : n < 1 ∨ 4194304 < n) : Calls Tryz.prog 24 #[.int .i64 n] w fun e w' => e = .returned (.tuple #[.pointer none, .int .i64 2]) ∧ w = w' := by
  by_cases h1 : n < 1
  · go_enter Tryz.func24, Tryz.ntmps24
    go_wp2
    go_ret2
    exact ⟨rfl, rfl⟩
  · have h2 : 4194304 < n := by omega
    clear h
    go_enter Tryz.func24, Tryz.ntmps24
    go_wp2
    go_ret2
    exact ⟨rfl, rfl⟩

theorem fresh_at {n gd gv : Nat} (w : World) (h1 : 1 ≤ n) (h2 : n ≤ 4194304) (hg : gd = w.heap.size ∧ gv = w.heap.size + 1 ∨ gd = w.heap.size + 1 ∧ gv = w.heap.size) :
    IsDisk (((w.alloc (.cells (bCells (List.replicate n 0)).toArray 5)).alloc (.cells (bCells (List.replicate n 0)).toArray 5)).alloc
      (.cells #[.bool false, .int .i64 0, .slice (some ⟨gd, 0, none⟩) n n, .slice (some ⟨gv, 0, none⟩) n n, .slice none 0 0] 97)).drew [w.heap.size + 1 + 1, gd, gv] (w.heap.size + 1 + 1) (DiskS.fresh n) := by
  have b0 : Blk _ w.heap.size 5 (bCells (List.replicate n 0)) := Blk.new w 5 (bCells (List.replicate n 0))
  have b1 : Blk _ (w.alloc (.cells (bCells (List.replicate n 0)).toArray 5)).heap.size 5 (bCells (List.replicate n 0)) := Blk.new (w.alloc (.cells (bCells (List.replicate n 0)).toArray 5)) 5 (bCells (List.replicate n 0))
  have b2 : Blk _ _ 97 [.bool false, .int .i64 0, .slice (some ⟨gd, 0, none⟩) n n, .slice (some ⟨gv, 0, none⟩) n n, .slice none 0 0] := Blk.new ((w.alloc (.cells (bCells (List.replicate n 0)).toArray 5)).alloc (.cells (bCells (List.replicate n 0)).toArray 5)) 97 _
  simp only [World.size_alloc] at b1 b2
  have c0 := ((b0.alloc (.cells (bCells (List.replicate n 0)).toArray 5)).alloc (.cells #[.bool false, .int .i64 0, .slice (some ⟨gd, 0, none⟩) n n, .slice (some ⟨gv, 0, none⟩) n n, .slice none 0 0] 97)).drew
  have c1 := (b1.alloc (.cells #[.bool false, .int .i64 0, .slice (some ⟨gd, 0, none⟩) n n, .slice (some ⟨gv, 0, none⟩) n n, .slice none 0 0] 97)).drew
  have c2 := b2.drew
  have hl : (DiskS.fresh n).sure.length = n := by simp [DiskS.fresh]
  refine ⟨gd, gv, none, 0, ?_, ?_, ?_, World.ownsRow_nil _ _ _ _, by omega, by simp, fresh_ok n h1 h2⟩
  · rw [hl]; exact c2
  · rcases hg with ⟨rfl, rfl⟩ | ⟨rfl, rfl⟩
    · exact c0
    · exact c1
  · rcases hg with ⟨rfl, rfl⟩ | ⟨rfl, rfl⟩
    · exact c1
    · exact c0

theorem new_good (n : Nat) (w : World) (h1 : 1 ≤ n) (h2 : n ≤ 4194304) : Calls Tryz.prog 24 #[.int .i64 (n : Int)] w fun e w' => ∃ g F, e = .returned (.tuple #[.pointer (some ⟨g, 0, none⟩), .int .i64 0]) ∧ IsDisk w' F g (DiskS.fresh n) ∧ (∀ k ∈ F, w.heap.size ≤ k) ∧ Below w.heap.size w w' := by
  have hmk := fun W => make_bytes n h2 W
  have hn1 : ¬ (n : Int) < 1 := by omega
  have hn2 : ¬ 4194304 < (n : Int) := by omega
  go_enter Tryz.func24, Tryz.ntmps24
  go_wp2
  go_region
  all_goals go_wp2
  all_goals go_ret2
  · exact ⟨_, _, rfl, fresh_at w h1 h2 (.inl ⟨rfl, rfl⟩), by simp; omega, ((((Below.refl _ w).alloc (Nat.le_refl _) _).alloc (by simp) _).alloc (by simp; omega) _).drew⟩
  · exact ⟨_, _, rfl, fresh_at w h1 h2 (.inr ⟨rfl, rfl⟩), by simp; omega, ((((Below.refl _ w).alloc (Nat.le_refl _) _).alloc (by simp) _).alloc (by simp; omega) _).drew⟩
end Go.Proofs.YtafjolibfbccbaaGreatDoor

namespace Go.Proofs.YtafjolibfbccbaaGreatDoor
open Go.RowKit
set_option maxRecDepth 100000
set_option maxHeartbeats 400000

theorem info_write : (Tryz.prog.info? 92).map (fun i => (i.zero, i.size, i.bytes)) = some (some (.agg #[.int .i64 0, .string ⟨#[]⟩]), 2, 24) := by kernel_rfl

theorem written_at {w w1 w2 w3 : World} {F : List Nat} {g gd gv c c' : Nat} {A A' : Option Addr} {D : DiskS} {o1 o2 : Obj} {off : Nat} {s : ByteArray} (h : IsDiskAt w F g gd gv A c D) (hf : off + s.size ≤ D.sure.length)
    (H1 : w1.ownsRow 0 92 2 (.slice A' (D.pend.length + 1) c') (D.pend.length + 1) (pCells D.pend ++ [.int .i64 (off : Int), .string s]))
    (U1 : Upd (A.map (·.block)).toList (((w.alloc o1).alloc o2).drew) w1) (A1 : A'.map (·.block) = A.map (·.block) ∨ A'.map (·.block) = some (((w.alloc o1).alloc o2).drew).heap.size)
    (v2 : Blk w2 gv 5 (bCells (put D.vis off s.data.toList))) (u2 : Upd [gv] ((w1.setCell ⟨g, 4, none⟩ (.slice A' (D.pend.length + 1) c')).drew) w2)
    (u3 : Upd [g] w2 w3) {o : Bool} {l : Nat} (hl : l ≤ 9223372036854775807)
    (h3 : Blk w3 g 97 [.bool o, .int .i64 (l : Int), .slice (some ⟨gd, 0, none⟩) D.sure.length D.sure.length, .slice (some ⟨gv, 0, none⟩) D.sure.length D.sure.length, .slice A' (D.pend.length + 1) c'])
    (hw : D.written off s.data.toList = { D with off := o, left := l, pend := D.pend ++ [(off, s.data.toList)], vis := put D.vis off s.data.toList }) : Moved F w w3 g (D.written off s.data.toList) := by
  have hF := h.fp
  have e0 : Upd F w (((w.alloc o1).alloc o2).drew) := (((Upd.refl F w).alloc _).alloc _).drew
  have e1 : Upd F w w1 := e0.trans U1 (fun x hx => .inl (by rw [hF]; simp at hx; simp [hx]))
  have e2 : Upd F w ((w1.setCell ⟨g, 4, none⟩ (.slice A' (D.pend.length + 1) c')).drew) := (e1.setCell (.inl (by simp [hF])) _).drew
  have e3 : Upd F w w2 := e2.trans u2 (by simp [hF])
  have e4 : Upd F w w3 := e3.trans u3 (by simp [hF])
  have s0 : (((w.alloc o1).alloc o2).drew).heap.size = w.heap.size + 1 + 1 := by show ((w.alloc o1).alloc o2).heap.size = _; simp
  -- the new row of pending writes lies in none of the disk's other blocks
  have hA : ∀ x, A'.map (·.block) = some x → x ≠ g ∧ x ≠ gd ∧ x ≠ gv := by
    intro x hx
    rcases A1 with e | e
    · rw [e] at hx
      exact ⟨fun e => h.g_far (by subst e; simp [hx]), fun e => h.d_far (by subst e; simp [hx]), fun e => h.v_far (by subst e; simp [hx])⟩
    · rw [e, s0] at hx
      injection hx with hx
      have a := h.head.lt
      have b := h.sure.lt
      have c := h.vis.lt
      omega
  have c1 : Upd (g :: gv :: (A.map (·.block)).toList) w w3 :=
    ((((((Upd.refl _ w).alloc o1).alloc o2).drew.trans U1 (fun x hx => .inl (by simp at hx; simp [hx]))).setCell (p := ⟨g, 4, none⟩) (.inl (by simp)) (.slice A' (D.pend.length + 1) c')).drew.trans u2 (by simp)).trans u3 (by simp)
  have p3 : w3.ownsRow 0 92 2 (.slice A' (D.pend.length + 1) c') (D.pend.length + 1) (pCells D.pend ++ [.int .i64 (off : Int), .string s]) := by
    have q1 := own_kept H1 ((Upd.refl [g] w1).setCell (p := ⟨g, 4, none⟩) (.inl (by simp)) (.slice A' (D.pend.length + 1) c')) (fun k hk => by rw [ownBlock_slice] at hk; simp [(hA k hk).1])
    have q2 := own_kept (show World.ownsRow ((w1.setCell ⟨g, 4, none⟩ (.slice A' (D.pend.length + 1) c')).drew) _ _ _ _ _ _ from q1) u2 (fun k hk => by rw [ownBlock_slice] at hk; simp [(hA k hk).2.2])
    exact own_kept q2 u3 (fun k hk => by rw [ownBlock_slice] at hk; simp [(hA k hk).1])
  refine ⟨g :: gd :: gv :: (A'.map (·.block)).toList, ⟨gd, gv, A', c', ?_⟩, e4, ?_⟩
  · rw [hw]
    have lv : (put D.vis off s.data.toList).length = D.vis.length := put_length _ _ _ (by rw [h.ok.len, ← Lib.size_eq]; exact hf)
    refine ⟨?_, h.sure.upd c1 h.d_far, v2.upd u3 (fun hm => h.v_far (by simp at hm; simp [hm])), ?_, h.ne, rfl, ⟨lv.trans h.ok.len, h.ok.pos, h.ok.max, ?_, hl⟩⟩
    · simpa using h3
    · have e : pCells (D.pend ++ [(off, s.data.toList)]) = pCells D.pend ++ [.int .i64 (off : Int), .string s] := by simp [pCells]
      simp only [List.length_append, List.length_cons, List.length_nil, e]
      exact p3
    · intro p hp
      simp only [List.mem_append, List.mem_singleton] at hp
      rcases hp with hp | rfl
      · exact h.ok.fits p hp
      · simp only [← Lib.size_eq]; exact hf
  · intro k hk
    simp only [List.mem_cons] at hk
    rcases hk with rfl | rfl | rfl | hk
    · exact .inl (by simp [hF])
    · exact .inl (by simp [hF])
    · exact .inl (by simp [hF])
    · rcases A1 with e | e
      · rw [e] at hk; exact .inl (by rw [hF]; simp at hk; simp [hk])
      · rw [e, s0] at hk
        simp at hk
        exact .inr (by omega)

/-- append and onto: what the two middle statements make of the disk. -/
theorem write_good {F : List Nat} {g : Nat} {D : DiskS} (off : Nat) (s : ByteArray) (w : World) (h : IsDisk w F g D) (ho : D.off = false) (hi : inB D.sure.length off s.size = true) (hp : D.pend.length ≤ 1000000000) :
    Calls Tryz.prog 13 #[.pointer (some ⟨g, 0, none⟩), .int .i64 (off : Int), .string s] w fun e w' => e = .returned (.int .i64 0) ∧ Moved F w w' g (D.written off s.data.toList) := by
  obtain ⟨gd, gv, A, c, h⟩ := h
  have hc : w.cell? ⟨g, 0, none⟩ = some (.bool false) := by rw [← ho]; exact h.head.cell 0
  have c2 : w.cell? ⟨g, 2, none⟩ = some (.slice (some ⟨gd, 0, none⟩) D.sure.length D.sure.length) := h.head.cell 2
  have hm := h.ok.max
  have I := inside_any off s.size w c2 hm
  rw [hi] at I
  have hb : off ≤ D.sure.length ∧ s.size ≤ D.sure.length - off := by
    have : 0 ≤ (off : Int) ∧ 0 ≤ (s.size : Int) ∧ (off : Int) ≤ D.sure.length ∧ (s.size : Int) ≤ D.sure.length - off := by simpa [inB] using hi
    omega
  have hgl := h.head.lt
  have I' := hide I
  have Ho := hide ho
  have H := hide h
  have Hb := hide hb
  have Hp := hide hp
  have Hm := hide hm
  have c4 : w.cell? ⟨g, 4, none⟩ = some (.slice A D.pend.length c) := h.head.cell 4
  have f4 := h.head.frozen 4
  have B0 := hide (((h.head.alloc (Obj.cells #[Value.int IntKind.i64 (off : Int), Value.string s] 92)).alloc (Obj.cells #[Value.int IntKind.i64 (off : Int), Value.string s] 92)).drew)
  have O1 := hide (show World.ownsRow ((w.alloc (Obj.cells #[Value.int IntKind.i64 (off : Int), Value.string s] 92)).alloc (Obj.cells #[Value.int IntKind.i64 (off : Int), Value.string s] 92)).drew 0 92 2 (.slice A D.pend.length c) D.pend.length (pCells D.pend) from (h.pend.alloc _).alloc _)
  have HC := hide (show ∀ j u, [Value.int .i64 (off : Int), .string s][j]? = some u → ((w.alloc (Obj.cells #[Value.int IntKind.i64 (off : Int), Value.string s] 92)).alloc (Obj.cells #[Value.int IntKind.i64 (off : Int), Value.string s] 92)).drew.cell? ((⟨w.heap.size + 1, 0, none⟩ : Addr).add j) = some u by
    have := cell_two_new (w.alloc (Obj.cells #[Value.int IntKind.i64 (off : Int), Value.string s] 92)) (.int .i64 (off : Int)) (.string s) 92
    rw [World.size_alloc] at this
    exact this)
  have O2 := hide (show ∀ u ∈ [Value.int .i64 (off : Int), .string s], u.oneCell' = true by simp [Value.oneCell'])
  have O3 := hide (show D.pend.length + 1 ≤ maxLen by unfold maxLen; omega)
  have O4 := hide (show (D.pend.length + 1) * 24 ≤ 140737488355328 by omega)
  have O5 := hide (show g ∉ (A.map (·.block)).toList from fun hm => h.g_far (by simp at hm; simp [hm]))
  have V0 := hide (((h.vis.alloc (Obj.cells #[Value.int IntKind.i64 (off : Int), Value.string s] 92)).alloc (Obj.cells #[Value.int IntKind.i64 (off : Int), Value.string s] 92)).drew)
  have D0 := hide (((h.sure.alloc (Obj.cells #[Value.int IntKind.i64 (off : Int), Value.string s] 92)).alloc (Obj.cells #[Value.int IntKind.i64 (off : Int), Value.string s] 92)).drew)
  have L0 := hide (((Blk.new w 92 [Value.int IntKind.i64 (off : Int), Value.string s]).alloc (Obj.cells #[Value.int IntKind.i64 (off : Int), Value.string s] 92)).drew)
  have O6 := hide (show w.heap.size ∉ (A.map (·.block)).toList from fun hm => by
    have := h.lt w.heap.size (by rw [h.fp]; simp at hm; simp [hm])
    omega)
  have O7 := hide (show gv ∉ (A.map (·.block)).toList from fun hm => h.v_far (by simp at hm; simp [hm]))
  have O8 := hide (show gd ∉ (A.map (·.block)).toList from fun hm => h.d_far (by simp at hm; simp [hm]))
  have O9 := hide (show gv ≠ g from fun e => h.v_far (by simp [e]))
  have O10 := hide (show gd ≠ g from fun e => h.d_far (by simp [e]))
  have O11 := hide (show D.vis.length = D.sure.length from h.ok.len)
  clear h ho hi I hb hp hm
  go_enter Tryz.func13, Tryz.ntmps13
  go_wp2_with (first
    | (go_at_call 46; refine (check_on _ hc).mono ?_; rintro e w' ⟨rfl, rfl⟩)
    | (go_at_call 47; refine I'.out.mono ?_; rintro e w' ⟨rfl, rfl⟩))
  go_region_law (refine step_append_row rfl (.tmp 27) (.tmp 29) _ rfl 92 _ 2 24 Tryz.underlying93 info_write rfl (by decide) A D.pend.length c (pCells D.pend) rfl O1.out ⟨w.heap.size + 1, 0, none⟩ 1 1 [.int .i64 (off : Int), .string s] rfl rfl HC.out O2.out O3.out O4.out ?_; intro A' c' w1 h1 u1 a1; have H1 := hide h1; have U1 := hide u1; have A1 := hide a1; have b1 := B0.out.upd u1 O5.out; have B1 := hide b1; have k3 := b1.cell 3; have k4 := b1.cell 4; have k5 := b1.frozen 4; have l1 := L0.out.upd u1 O6.out; have j0 := l1.cell 0; have j1 := l1.cell 1; have V1 := hide (V0.out.upd u1 O7.out); have D1 := hide (D0.out.upd u1 O8.out);  clear h1 u1 a1 b1 l1)
  all_goals
    have ON := hide (onto_any (g := gv) (off := off) (n := D.sure.length) s D.vis ((w1.setCell ⟨g, 4, none⟩ (.slice A' (D.pend.length + 1) c')).drew) ((V1.out.far (p := ⟨g, 4, none⟩) O9.out _).drew) O11.out (by have := Hb.out; omega) Hm.out)
    go_wp2
    go_region_with ((go_at_call 48; refine ON.out.mono ?_; rintro e w2 ⟨rfl, v2, u2⟩))
  all_goals
    have k2 := ((B1.out.set_ 4 (.slice A' (D.pend.length + 1) c')).drew).upd u2 (by simp; exact Ne.symm O9.out)
    have V2 := hide v2
    have U2 := hide u2
    have K2 := hide k2
    clear k2 v2 u2 ON
    have hl := H.out.ok.left
    cases hleft : D.left with
    | zero =>
      have z1 : w2.cell? ⟨g, 1, none⟩ = some (.int .i64 0) := by have := K2.out.cell 1; rw [hleft] at this; exact this
      have Z := hide hleft
      have HL := hide hl
      clear hleft hl
      go_wp2_with (go_at_call 49; refine (used_none _ z1).mono ?_; rintro e w' ⟨rfl, rfl⟩)
      go_ret
      have hb := Hb.out
      refine ⟨rfl, written_at (w3 := w2) (o := false) (l := 0) H.out (by omega) H1.out U1.out A1.out V2.out U2.out (Upd.refl _ _) (by omega) ?_ ?_⟩
      · have k := K2.out
        rw [Ho.out, Z.out] at k
        exact k
      · have z := Z.out
        have o := Ho.out
        cases D
        simp only at z o
        subst z o
        simp [DiskS.written, DiskS.used]
    | succ m =>
      have z0 : w2.cell? ⟨g, 0, none⟩ = some (.bool false) := by have := K2.out.cell 0; rw [Ho.out] at this; exact this
      have z1 : w2.cell? ⟨g, 1, none⟩ = some (.int .i64 ((m : Int) + 1)) := by have := K2.out.cell 1; rw [hleft] at this; exact this
      have US := hide (used_some w2 z0 z1 (K2.out.frozen 0) (K2.out.frozen 1) (by omega))
      have Z := hide hleft
      have HL := hide hl
      clear hleft hl z0 z1
      go_wp2_with (go_at_call 49; refine US.out.mono ?_; rintro e w' ⟨rfl, rfl⟩)
      go_ret
      have hb := Hb.out
      refine ⟨rfl, written_at (o := decide (m = 0)) (l := m) H.out (by omega) H1.out U1.out A1.out V2.out U2.out (((Upd.refl [g] w2).setCell (.inl (by simp)) _).setCell (.inl (by simp)) _) (by have a := HL.out; have b := Z.out; omega) ?_ ?_⟩
      · have k := (K2.out.set_ 1 (.int .i64 (m : Int))).set_ 0 (.bool (decide (m = 0)))
        exact k
      · have z := Z.out
        have o := Ho.out
        cases D
        simp only at z o
        subst z o
        simp [DiskS.written, DiskS.used]

/-- Write, whatever the state and the arguments. -/
theorem write_any {F : List Nat} {g : Nat} {D : DiskS} (off : Int) (s : ByteArray) (w : World) (h : IsDisk w F g D) (hp : D.pend.length ≤ 1000000000) :
    Calls Tryz.prog 13 #[.pointer (some ⟨g, 0, none⟩), .int .i64 off, .string s] w fun e w' => e = .returned (.int .i64 (D.write off s.data.toList).2) ∧ Moved F w w' g (D.write off s.data.toList).1 := by
  have hs : s.data.toList.length = s.size := by rw [← Lib.size_eq]
  cases ho : D.off with
  | true =>
    obtain ⟨gd, gv, A, c, h⟩ := h
    have hc : w.cell? ⟨g, 0, none⟩ = some (.bool true) := by rw [← ho]; exact h.head.cell 0
    have e2 : D.write off s.data.toList = (D, 331) := by simp [DiskS.write, ho]
    rw [e2]
    have H := hide h
    clear h ho e2 hs hp
    go_enter Tryz.func13, Tryz.ntmps13
    go_wp2_with (go_at_call 46; refine (check_off _ hc).mono ?_; rintro e w' ⟨rfl, rfl⟩)
    go_ret
    exact ⟨rfl, H.out.moved (Upd.refl _ _)⟩
  | false =>
    cases hi : inB D.sure.length off s.size with
    | false =>
      obtain ⟨gd, gv, A, c, h⟩ := h
      have hc : w.cell? ⟨g, 0, none⟩ = some (.bool false) := by rw [← ho]; exact h.head.cell 0
      have c2 : w.cell? ⟨g, 2, none⟩ = some (.slice (some ⟨gd, 0, none⟩) D.sure.length D.sure.length) := h.head.cell 2
      have hm := h.ok.max
      have I := inside_any off s.size w c2 hm
      rw [hi] at I
      have e2 : D.write off s.data.toList = (D, 330) := by simp [DiskS.write, ho, hi]
      rw [e2]
      have I' := hide I
      have H := hide h
      clear h ho e2 hs hp I hi
      go_enter Tryz.func13, Tryz.ntmps13
      go_wp2_with (first
        | (go_at_call 46; refine (check_on _ hc).mono ?_; rintro e w' ⟨rfl, rfl⟩)
        | (go_at_call 47; refine I'.out.mono ?_; rintro e w' ⟨rfl, rfl⟩))
      go_ret
      exact ⟨rfl, H.out.moved (Upd.refl _ _)⟩
    | true =>
      have h0 : 0 ≤ off ∧ 0 ≤ (s.size : Int) ∧ off ≤ D.sure.length ∧ (s.size : Int) ≤ D.sure.length - off := by simpa [inB] using hi
      obtain ⟨o, rfl⟩ : ∃ m : Nat, off = m := ⟨off.toNat, by omega⟩
      have e2 : D.write o s.data.toList = (D.written o s.data.toList, 0) := by simp [DiskS.write, ho, hi]
      rw [e2]
      exact write_good o s w h ho hi hp

theorem nil_write (off : Int) (s : ByteArray) (w : World) : Calls Tryz.prog 13 #[.pointer none, .int .i64 off, .string s] w fun e w' => e = .returned (.int .i64 1) ∧ w = w' := by
  go_enter Tryz.func13, Tryz.ntmps13
  go_wp2_with (go_at_call 46; refine (check_nil _).mono ?_; rintro e w' ⟨rfl, rfl⟩)
  go_ret
  exact ⟨rfl, rfl⟩
theorem nil_sync (w : World) : Calls Tryz.prog 42 #[.pointer none] w fun e w' => e = .returned (.int .i64 1) ∧ w = w' := by
  go_enter Tryz.func42, Tryz.ntmps42
  go_wp2_with (go_at_call 46; refine (check_nil _).mono ?_; rintro e w' ⟨rfl, rfl⟩)
  go_ret
  exact ⟨rfl, rfl⟩
theorem nil_cut (n : Int) (w : World) : Calls Tryz.prog 29 #[.pointer none, .int .i64 n] w fun e w' => e = .returned (.int .i64 1) ∧ w = w' := by
  go_enter Tryz.func29, Tryz.ntmps29
  go_wp2_with (go_at_call 46; refine (check_nil _).mono ?_; rintro e w' ⟨rfl, rfl⟩)
  go_ret
  exact ⟨rfl, rfl⟩
theorem nil_read (off n : Int) (w : World) : Calls Tryz.prog 52 #[.pointer none, .int .i64 off, .int .i64 n] w fun e w' => e = .returned (.tuple #[.string ⟨#[]⟩, .int .i64 1]) ∧ w = w' := by
  go_enter Tryz.func52, Tryz.ntmps52
  go_wp2_with (go_at_call 46; refine (check_nil _).mono ?_; rintro e w' ⟨rfl, rfl⟩)
  go_ret2
  exact ⟨rfl, rfl⟩
end Go.Proofs.YtafjolibfbccbaaGreatDoor
