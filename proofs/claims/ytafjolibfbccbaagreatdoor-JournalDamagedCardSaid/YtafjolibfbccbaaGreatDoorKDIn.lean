/-
  (XDIn without a crash.) A disk of the call's own: its blocks lie from B on, outside X; nothing below B has turned.
-/
import Derived.Test.YtafjolibfbccbaaGreatDoorKPlain
namespace Go.Proofs.YtafjolibfbccbaaGreatDoor
open Go.RowKit
set_option maxRecDepth 100000
set_option maxHeartbeats 1000000

/-- A disk whose blocks lie from B on and outside the blocks X, which are there. -/
def DiskIn (B : Nat) (X : List Nat) (w0 w : World) (g : Nat) (D : DiskS) : Prop := ∃ F, IsDisk w F g D ∧ (∀ k ∈ F, B ≤ k ∧ k ∉ X) ∧ Below B w0 w ∧ B ≤ w.heap.size ∧ ∀ x ∈ X, x < w.heap.size
theorem DiskIn.moved {B : Nat} {X F : List Nat} {w0 w w' : World} {g : Nat} {D' : DiskS} (hF : ∀ k ∈ F, B ≤ k ∧ k ∉ X) (hb : Below B w0 w) (hB : B ≤ w.heap.size) (hX : ∀ x ∈ X, x < w.heap.size) (h : Moved F w w' g D') : DiskIn B X w0 w' g D' ∧ ∀ x ∈ X, w'.heap[x]? = w.heap[x]? := by
  obtain ⟨F', h1, h2, h3⟩ := h
  have hs := h2.size
  refine ⟨⟨F', h1, fun k hk => ?_, hb.trans (h2.toBelow hB (fun x hx => (hF x hx).1)), by omega, fun x hx => Nat.lt_of_lt_of_le (hX x hx) hs⟩, fun x hx => h2.block x (hX x hx) (fun hm => (hF x hm).2 hx)⟩
  rcases h3 k hk with hk | hk
  · exact hF k hk
  · exact ⟨by omega, fun hm => by have := hX k hm; omega⟩
theorem DiskIn.ok {B : Nat} {X : List Nat} {w0 w : World} {g : Nat} {D : DiskS} (h : DiskIn B X w0 w g D) : D.Ok := by
  obtain ⟨F, ⟨gd, gv, A, c, h⟩, _⟩ := h
  exact h.ok
theorem DiskIn.below {B : Nat} {X : List Nat} {w0 w : World} {g : Nat} {D : DiskS} (h : DiskIn B X w0 w g D) : Below B w0 w := by
  obtain ⟨F, _, _, h, _⟩ := h
  exact h
theorem DiskIn.room {B : Nat} {X : List Nat} {w0 w : World} {g : Nat} {D : DiskS} (h : DiskIn B X w0 w g D) : B ≤ w.heap.size := by
  obtain ⟨F, _, _, _, h, _⟩ := h
  exact h
/-- A step elsewhere. -/
theorem DiskIn.step {B : Nat} {X : List Nat} {w0 w w' : World} {g : Nat} {D : DiskS} (h : DiskIn B X w0 w g D) {l : List Nat} (hu : Upd l w w') (hl : ∀ x ∈ l, x ∈ X) (hlB : ∀ x ∈ l, B ≤ x) : DiskIn B X w0 w' g D := by
  obtain ⟨F, h1, h2, h3, h4, h5⟩ := h
  exact ⟨F, h1.upd hu (fun k hk hm => (h2 k hk).2 (hl k hm)), h2, h3.trans (hu.toBelow h4 hlB), Nat.le_trans h4 hu.size, fun x hx => Nat.lt_of_lt_of_le (h5 x hx) hu.size⟩
theorem DiskIn.mono {B : Nat} {X X' : List Nat} {w0 w : World} {g : Nat} {D : DiskS} (h : DiskIn B X w0 w g D) (hs : ∀ x ∈ X', x ∈ X) : DiskIn B X' w0 w g D := by
  obtain ⟨F, h1, h2, h3, h4, h5⟩ := h
  exact ⟨F, h1, fun k hk => ⟨(h2 k hk).1, fun hm => (h2 k hk).2 (hs k hm)⟩, h3, h4, fun x hx => h5 x (hs x hx)⟩
/-- New blocks may be added to X. -/
theorem DiskIn.more {B : Nat} {X : List Nat} {w0 w w' : World} {g : Nat} {D : DiskS} (h : DiskIn B X w0 w g D) (hu : Upd [] w w') (x : Nat) (hx : w.heap.size ≤ x) (hx' : x < w'.heap.size) : DiskIn B (x :: X) w0 w' g D := by
  obtain ⟨F, ⟨gd, gv, A, c, h1⟩, h2, h3, h4, h5⟩ := h
  refine ⟨F, ⟨gd, gv, A, c, h1.upd hu (by simp)⟩, fun k hk => ⟨(h2 k hk).1, fun hm => ?_⟩, h3.trans (hu.toBelow h4 (by simp)), Nat.le_trans h4 hu.size, fun y hy => ?_⟩
  · have := h1.lt k hk
    simp only [List.mem_cons] at hm
    rcases hm with hm | hm
    · omega
    · exact (h2 k hk).2 hm
  · simp only [List.mem_cons] at hy
    rcases hy with rfl | hy
    · exact hx'
    · exact Nat.lt_of_lt_of_le (h5 y hy) hu.size

/-- An append to a row that belongs to X. -/
theorem DiskIn.append {B : Nat} (Y : List Nat) {w0 w w' : World} {g n m c c' size e : Nat} {A A' : Option Addr} {D : DiskS} {o : Obj} {xs ys : List Value} (h : DiskIn B (Y ++ (A.map (·.block)).toList) w0 w g D) (hr : w.ownsRow B e size (.slice A n c) n xs)
    (hu : Upd (A.map (·.block)).toList (w.alloc o) w') (ha : A'.map (·.block) = A.map (·.block) ∨ A'.map (·.block) = some (w.alloc o).heap.size) (hr' : w'.ownsRow B e size (.slice A' m c') m ys) : DiskIn B (Y ++ (A'.map (·.block)).toList) w0 w' g D := by
  have hB : ∀ x ∈ (A.map (·.block)).toList, B ≤ x := fun x hx => (hr.lt x (by rw [ownBlock_slice]; simpa using hx)).1
  have h1 := h.step ((Upd.refl [] w).alloc o) (by simp) (by simp)
  have h2 := h1.step hu (fun x hx => by simp only [List.mem_append]; exact .inr hx) hB
  rcases ha with e | e
  · rw [e]; exact h2
  · rw [e]
    obtain ⟨F, ⟨gd, gv, A2, c2, k1⟩, k2, k3, k4, k5⟩ := h1
    obtain ⟨F', l1, l2, l3, l4, l5⟩ := h2
    have hk := k1.lt
    refine ⟨F, ⟨gd, gv, A2, c2, k1.upd hu (fun k hkm hm => (k2 k hkm).2 (by simp only [List.mem_append]; exact .inr hm))⟩, fun k hkm => ⟨(k2 k hkm).1, fun hm => ?_⟩, l3, l4, fun x hx => ?_⟩
    · have := hk k hkm
      simp only [List.mem_append, Option.toList_some, List.mem_singleton] at hm
      rcases hm with hm | hm
      · exact (k2 k hkm).2 (by simp only [List.mem_append]; exact .inl hm)
      · omega
    · simp only [List.mem_append, Option.toList_some, List.mem_singleton] at hx
      rcases hx with hx | hx
      · exact l5 x (by simp only [List.mem_append]; exact .inl hx)
      · exact (hr'.lt x (by rw [ownBlock_slice, e, hx])).2

/-- What a call leaves of X. -/
def SameAt (X : List Nat) (w w' : World) : Prop := ∀ x ∈ X, w'.heap[x]? = w.heap[x]?
theorem SameAt.blk {X : List Nat} {w w' : World} (h : SameAt X w w') {g : Nat} {t : TypeId} {cs : List Value} (hx : g ∈ X) (hb : Blk w g t cs) : Blk w' g t cs := (h g hx).trans hb

/-- A slice of ints that was just laid. -/
theorem ints_new (w : World) (zs : List Int) (t : TypeId) : Ints (w.alloc (.cells (zs.map (Value.int .i64)).toArray t)).heap.size (w.alloc (.cells (zs.map (Value.int .i64)).toArray t)) (.slice (some ⟨w.heap.size, 0, none⟩) zs.length zs.length) zs :=
  .inr ⟨w.heap.size, 0, zs.length, rfl, by simp, fun j hj => by
    rw [World.cell?_alloc_at _ _ _ _ rfl]
    simp [hj]⟩

theorem SameAt.mono {X X' : List Nat} {w w' : World} (h : SameAt X w w') (hs : ∀ x ∈ X', x ∈ X) : SameAt X' w w' := fun x hx => h x (hs x hx)
theorem own_same {w w' : World} {base e size n c : Nat} {A : Option Addr} {xs : List Value} (h : w.ownsRow base e size (.slice A n c) n xs) (hs : SameAt (A.map (·.block)).toList w w') : w'.ownsRow base e size (.slice A n c) n xs := by
  refine ⟨h.1, ?_⟩
  rcases h.2 with h0 | ⟨g, cap, cur, hv, hb, hg, rest⟩
  · exact .inl h0
  · obtain ⟨rfl, rfl⟩ : A = some ⟨g, 0, none⟩ ∧ c = cap := by simpa using hv
    exact .inr ⟨g, c, cur, rfl, hb, (hs g (by simp)).trans hg, rest⟩
theorem own_base_kept {base : Nat} {e : TypeId} {size n : Nat} {v : Value} {xs : List Value} {l : List Nat} {w w' : World} (h : w.ownsRow base e size v n xs) (hu : Upd l w w') (hn : ∀ k, v.ownBlock = some k → k ∉ l) : w'.ownsRow base e size v n xs := own_kept h hu hn
theorem own_zero {base : Nat} {e : TypeId} {size n : Nat} {v : Value} {xs : List Value} {w : World} (h : w.ownsRow base e size v n xs) : w.ownsRow 0 e size v n xs :=
  ⟨h.1, h.2.imp id fun ⟨g, cap, cur, a, _, b⟩ => ⟨g, cap, cur, a, Nat.zero_le _, b⟩⟩

theorem new_in (n : Nat) (B : Nat) (w0 w : World) (hb : Below B w0 w) (hB : B ≤ w.heap.size) (X : List Nat) (hX : ∀ x ∈ X, x < w.heap.size) (h1 : 1 ≤ n) (h2 : n ≤ 4194304) :
    Calls Tryz.prog 24 #[.int .i64 (n : Int)] w fun e w' => ∃ g, e = .returned (.tuple #[.pointer (some ⟨g, 0, none⟩), .int .i64 0]) ∧ DiskIn B X w0 w' g (DiskS.fresh n) ∧ SameAt X w w' ∧ Below w.heap.size w w' := by
  refine (new_good n w h1 h2).mono ?_
  rintro e w' ⟨g, F, rfl, hd, hF, hbel⟩
  have hs := hbel.size
  exact ⟨g, rfl, ⟨F, hd, fun k hk => ⟨Nat.le_trans hB (hF k hk), fun hm => by have := hF k hk; have := hX k hm; omega⟩, hb.trans (hbel.mono hB), by omega, fun x hx => Nat.lt_of_lt_of_le (hX x hx) hs⟩, fun x hx => hbel.block x (hX x hx), hbel⟩

theorem write_in {B : Nat} {X : List Nat} {w0 w : World} {g : Nat} {D : DiskS} (off : Int) (s : ByteArray) (h : DiskIn B X w0 w g D) (hp : D.pend.length ≤ 1000000000) :
    Calls Tryz.prog 13 #[.pointer (some ⟨g, 0, none⟩), .int .i64 off, .string s] w fun e w' => e = .returned (.int .i64 (D.write off s.data.toList).2) ∧ DiskIn B X w0 w' g (D.write off s.data.toList).1 ∧ SameAt X w w' := by
  obtain ⟨F, h1, h2, h3, h4, h5⟩ := h
  refine (write_any off s w h1 hp).mono ?_
  rintro e w' ⟨rfl, hm⟩
  exact ⟨rfl, DiskIn.moved h2 h3 h4 h5 hm⟩
theorem sync_in {B : Nat} {X : List Nat} {w0 w : World} {g : Nat} {D : DiskS} (h : DiskIn B X w0 w g D) :
    Calls Tryz.prog 42 #[.pointer (some ⟨g, 0, none⟩)] w fun e w' => e = .returned (.int .i64 D.sync.2) ∧ DiskIn B X w0 w' g D.sync.1 ∧ SameAt X w w' := by
  obtain ⟨F, h1, h2, h3, h4, h5⟩ := h
  refine (sync_any w h1).mono ?_
  rintro e w' ⟨rfl, hm⟩
  exact ⟨rfl, DiskIn.moved h2 h3 h4 h5 hm⟩
theorem cut_in {B : Nat} {X : List Nat} {w0 w : World} {g : Nat} {D : DiskS} (n : Int) (h : DiskIn B X w0 w g D) (hn : n ≤ 9223372036854775807) :
    Calls Tryz.prog 29 #[.pointer (some ⟨g, 0, none⟩), .int .i64 n] w fun e w' => e = .returned (.int .i64 (D.cut n).2) ∧ DiskIn B X w0 w' g (D.cut n).1 ∧ SameAt X w w' := by
  obtain ⟨F, h1, h2, h3, h4, h5⟩ := h
  refine (cut_any n w h1 hn).mono ?_
  rintro e w' ⟨rfl, hm⟩
  exact ⟨rfl, DiskIn.moved h2 h3 h4 h5 hm⟩
theorem read_in {B : Nat} {X : List Nat} {w0 w : World} {g : Nat} {D : DiskS} (off n : Int) (h : DiskIn B X w0 w g D) :
    Calls Tryz.prog 52 #[.pointer (some ⟨g, 0, none⟩), .int .i64 off, .int .i64 n] w fun e w' => e = .returned (.tuple #[.string ⟨(D.read off n).1.toArray⟩, .int .i64 (D.read off n).2]) ∧ w = w' := by
  obtain ⟨F, h1, _⟩ := h
  exact read_any off n w h1
theorem pending_in {B : Nat} {X : List Nat} {w0 w : World} {g : Nat} {D : DiskS} (h : DiskIn B X w0 w g D) :
    Calls Tryz.prog 32 #[.pointer (some ⟨g, 0, none⟩)] w fun e w' => e = .returned (.int .i64 (D.pend.length : Int)) ∧ w = w' := by
  obtain ⟨F, ⟨gd, gv, A, c, h1⟩, _⟩ := h
  exact pending_any w (h1.head.cell 4)
theorem size_in {B : Nat} {X : List Nat} {w0 w : World} {g : Nat} {D : DiskS} (h : DiskIn B X w0 w g D) :
    Calls Tryz.prog 51 #[.pointer (some ⟨g, 0, none⟩)] w fun e w' => e = .returned (.int .i64 (D.sure.length : Int)) ∧ w = w' := by
  obtain ⟨F, ⟨gd, gv, A, c, h1⟩, _⟩ := h
  exact size_any w (h1.head.cell 2)
end Go.Proofs.YtafjolibfbccbaaGreatDoor
