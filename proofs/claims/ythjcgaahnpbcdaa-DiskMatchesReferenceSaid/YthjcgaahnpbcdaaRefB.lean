/-
  How the reference's disk lies in memory; New and Cut.
-/
import Derived.Test.YthjcgaahnpbcdaaRefA
namespace Go.Proofs.Ythjcgaahnpbcdaa
open Go.RowKit
set_option maxHeartbeats 1000000

/-- The reference's disk: the struct in block g, the durable content in gd (r: spare cells), the pending writes. -/
structure IsRefAt (w : World) (F : List Nat) (g gd cs : Nat) (r : List Value) (A : Option Addr) (c : Nat) (D : DiskS) : Prop where
  head : Blk w g 43 [.slice (some ⟨gd, 0, none⟩) D.sure.length cs, .slice A D.pend.length c, .bool D.off, .int .i64 (D.left : Int)]
  sure : Blk w gd 5 (bCells D.sure ++ r)
  cap : D.sure.length + r.length = cs ∧ cs ≤ maxLen
  pend : w.ownsRow 0 80 2 (.slice A D.pend.length c) D.pend.length (pCells D.pend)
  fp : F = g :: gd :: (A.map (·.block)).toList
  ok : D.Ok
def IsRef (w : World) (F : List Nat) (g : Nat) (D : DiskS) : Prop := ∃ gd cs r A c, IsRefAt w F g gd cs r A c D
def MovedR (F : List Nat) (w w' : World) (g : Nat) (D : DiskS) : Prop := ∃ F', IsRef w' F' g D ∧ Upd F w w' ∧ ∀ k ∈ F', k ∈ F ∨ w.heap.size ≤ k

section
variable {w w' : World} {F l : List Nat} {g gd cs c : Nat} {r : List Value} {A : Option Addr} {D : DiskS}
theorem IsRefAt.upd (h : IsRefAt w F g gd cs r A c D) (hu : Upd l w w') (hd : ∀ k ∈ F, k ∉ l) : IsRefAt w' F g gd cs r A c D := by
  have hF := h.fp
  exact ⟨h.head.upd hu (hd _ (by simp [hF])), h.sure.upd hu (hd _ (by simp [hF])), h.cap, own_kept h.pend hu (fun k hk => hd _ (by rw [ownBlock_slice] at hk; simp [hF, hk])), h.fp, h.ok⟩
theorem IsRef.upd (h : IsRef w F g D) (hu : Upd l w w') (hd : ∀ k ∈ F, k ∉ l) : IsRef w' F g D := by
  obtain ⟨gd, cs, r, A, c, h⟩ := h
  exact ⟨gd, cs, r, A, c, h.upd hu hd⟩
theorem IsRefAt.lt (h : IsRefAt w F g gd cs r A c D) : ∀ k ∈ F, k < w.heap.size := by
  intro k hk
  rw [h.fp] at hk
  simp only [List.mem_cons] at hk
  rcases hk with rfl | rfl | hk
  · exact h.head.lt
  · exact h.sure.lt
  · exact (h.pend.lt k (by rw [ownBlock_slice]; simpa using hk)).2
theorem IsRef.lt (h : IsRef w F g D) : ∀ k ∈ F, k < w.heap.size := by
  obtain ⟨gd, cs, r, A, c, h⟩ := h
  exact h.lt
theorem IsRefAt.g_far (h : IsRefAt w F g gd cs r A c D) : g ∉ gd :: (A.map (·.block)).toList := by
  intro hm
  simp only [List.mem_cons] at hm
  rcases hm with hm | hm
  · exact h.head.ne_ h.sure (by decide) hm
  · exact own_blk_ne h.pend h.head (by decide) g (by rw [ownBlock_slice]; simpa using hm) rfl
theorem IsRefAt.d_far (h : IsRefAt w F g gd cs r A c D) : gd ∉ g :: (A.map (·.block)).toList := by
  intro hm
  simp only [List.mem_cons] at hm
  rcases hm with hm | hm
  · exact h.sure.ne_ h.head (by decide) hm
  · exact own_blk_ne h.pend h.sure (by decide) gd (by rw [ownBlock_slice]; simpa using hm) rfl
theorem IsRefAt.moved {w0 : World} {gd' cs' c' : Nat} {r' : List Value} {A' : Option Addr} {D' : DiskS} (h' : IsRefAt w' F g gd' cs' r' A' c' D') (hu : Upd F w0 w') : MovedR F w0 w' g D' := ⟨F, ⟨gd', cs', r', A', c', h'⟩, hu, fun _ hk => .inl hk⟩
end

/-- New -/
theorem refNew (n : Nat) (w : World) (h1 : 1 ≤ n) (h2 : n ≤ 4194304) : Calls Try.prog 18 #[.int .i64 (n : Int)] w fun e w' => ∃ g F, e = .returned (.tuple #[.pointer (some ⟨g, 0, none⟩), .int .i64 0]) ∧ IsRef w' F g (DiskS.fresh n) ∧ (∀ k ∈ F, w.heap.size ≤ k) ∧ Below w.heap.size w w' := by
  have hmk := fun W => make_bytes n h2 W
  have hn1 : ¬ (n : Int) < 1 := by omega
  have hn2 : ¬ 4194304 < (n : Int) := by omega
  go_enter Try.func18, Try.ntmps18
  go_wp2_with fail
  go_ret2
  refine ⟨w.heap.size + 1, rfl, [w.heap.size + 1, w.heap.size], ⟨w.heap.size, n, [], none, 0, ?_⟩, by simp, (((Upd.refl [] w).alloc _).alloc _).toBelow (Nat.le_refl _) (by simp)⟩
  have k1 := (Blk.new w 5 (bCells (List.replicate n 0))).alloc (.cells #[.slice (some ⟨w.heap.size, 0, none⟩) n n, .slice none 0 0, .bool false, .int .i64 0] 43)
  have k2 := Blk.new (w.alloc (.cells (bCells (List.replicate n 0)).toArray 5)) 43 [.slice (some ⟨w.heap.size, 0, none⟩) n n, .slice none 0 0, .bool false, .int .i64 0]
  rw [World.size_alloc] at k2
  refine ⟨?_, by rw [List.append_nil]; exact k1, ⟨by simp [DiskS.fresh], by unfold maxLen; omega⟩, World.ownsRow_nil _ _ _ _, rfl, fresh_ok n h1 h2⟩
  show Blk _ _ _ [.slice (some ⟨w.heap.size, 0, none⟩) (List.replicate n (0 : UInt8)).length n, .slice none 0 0, .bool false, .int .i64 0]
  rw [List.length_replicate]
  exact k2

/-- Cut -/
theorem refCut {F : List Nat} {g : Nat} {D : DiskS} (n : Int) (w : World) (h : IsRef w F g D) (hn : n ≤ 9223372036854775807) :
    Calls Try.prog 32 #[.pointer (some ⟨g, 0, none⟩), .int .i64 n] w fun e w' => e = .returned (.int .i64 (D.cut n).2) ∧ MovedR F w w' g (D.cut n).1 := by
  obtain ⟨gd, cs, r, A, c, h⟩ := h
  cases ho : D.off with
  | true =>
    have hc : w.cell? ⟨g, 2, none⟩ = some (.bool true) := by rw [← ho]; exact h.head.cell 2
    have e2 : D.cut n = (D, 331) := by simp [DiskS.cut, ho]
    rw [e2]
    have H := hide h
    clear h ho e2
    go_enter Try.func32, Try.ntmps32
    go_wp2_with fail
    go_ret
    exact ⟨rfl, H.out.moved (Upd.refl _ _)⟩
  | false =>
    have hc : w.cell? ⟨g, 2, none⟩ = some (.bool false) := by rw [← ho]; exact h.head.cell 2
    by_cases h0 : n < 0
    · have e2 : D.cut n = (D, 2) := by simp [DiskS.cut, ho, h0]
      rw [e2]
      have H := hide h
      clear h ho e2
      go_enter Try.func32, Try.ntmps32
      go_wp2_with fail
      go_ret
      exact ⟨rfl, H.out.moved (Upd.refl _ _)⟩
    · have e2 : D.cut n = ({ D with off := decide (n = 0), left := n.toNat }, 0) := by simp [DiskS.cut, ho, h0]
      rw [e2]
      have c1 : w.cell? ⟨g, 3, none⟩ = some (.int .i64 (D.left : Int)) := h.head.cell 3
      have f0 := h.head.frozen 2
      have f1 := h.head.frozen 3
      have H := hide h
      have E := hide e2
      clear h ho e2
      have Hn := hide hn
      clear hn
      go_enter Try.func32, Try.ntmps32
      go_wp2_with fail
      go_ret
      have hd := H.out
      have e0 : (n == 0) = decide (n = 0) := rfl
      have e1 : n = ((n.toNat : Nat) : Int) := by omega
      have hu : Upd F w ((w.setCell ⟨g, 3, none⟩ (.int .i64 n)).setCell ⟨g, 2, none⟩ (.bool (n == 0))) := ((Upd.refl F w).setCell (.inl (by simp [hd.fp])) _).setCell (.inl (by simp [hd.fp])) _
      have h1 : Upd [g] w ((w.setCell ⟨g, 3, none⟩ (.int .i64 n)).setCell ⟨g, 2, none⟩ (.bool (n == 0))) := ((Upd.refl [g] w).setCell (.inl (by simp)) _).setCell (.inl (by simp)) _
      have hb := (hd.head.set_ 3 (.int .i64 n)).set_ 2 (.bool (n == 0))
      refine ⟨rfl, IsRefAt.moved ⟨?_, hd.sure.upd h1 (fun hm => hd.d_far (by simp at hm; simp [hm])), hd.cap,
        own_kept hd.pend h1 (fun k hk hm => own_blk_ne hd.pend hd.head (by decide) k hk (by simpa using hm)), hd.fp, ⟨hd.ok.len, hd.ok.pos, hd.ok.max, hd.ok.fits, ?_⟩⟩ hu⟩
      · rw [e0] at hb
        show Blk _ g _ [_, _, .bool (decide (n = 0)), .int .i64 ((n.toNat : Nat) : Int)]
        rw [← e1]
        exact hb
      · have := Hn.out
        show n.toNat ≤ _
        omega
end Go.Proofs.Ythjcgaahnpbcdaa
