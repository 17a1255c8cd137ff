/-
  A journal of the call's own on a disk of the call's own: the contracts of its functions.
-/
import Derived.Test.YtafjolibfbccbaaGreatDoorKDIn
namespace Go.Proofs.YtafjolibfbccbaaGreatDoor
open Go.RowKit
set_option maxRecDepth 100000
set_option maxHeartbeats 4000000

/-- What lies below the call's own blocks and is read. -/
structure Laid (B : Nat) (ks : List Int) (a0 : Addr) (w0 : World) : Prop where
  round : RoundAt w0 ks
  keys : ks.length = 64
  err : ErrAt w0 a0
  roundB : 3 < B
  errB : 0 < B
theorem Laid.later {B : Nat} {ks : List Int} {a0 : Addr} {w0 w : World} (h : Laid B ks a0 w0) (hb : Below B w0 w) : RoundAt w ks ∧ ErrAt w a0 := by
  refine ⟨h.round.below hb h.roundB, ?_⟩
  have h1 := h.err
  unfold ErrAt at h1 ⊢
  exact (World.cell?_of_block (w := w0) (hb.block _ h.errB)).trans h1

/-- A journal and its disk: their blocks lie from B on, outside X. -/
def JIn (B : Nat) (X : List Nat) (w0 w : World) (jb g : Nat) (T : TapeS) (br : Bool) (D : DiskS) : Prop :=
  ∃ A c F, IsTapeAt w B jb 74 A c T [.pointer (some ⟨g, 0, none⟩), .bool br] ∧ IsDisk w F g D ∧ (∀ k ∈ F, B ≤ k ∧ k ∉ X) ∧ (∀ k ∈ jb :: (A.map (·.block)).toList, k ∉ F ∧ k ∉ X) ∧ Below B w0 w ∧ B ≤ w.heap.size ∧ ∀ x ∈ X, x < w.heap.size
theorem JIn.below {B : Nat} {X : List Nat} {w0 w : World} {jb g : Nat} {T : TapeS} {br : Bool} {D : DiskS} (h : JIn B X w0 w jb g T br D) : Below B w0 w := by obtain ⟨_, _, _, _, _, _, _, h, _⟩ := h; exact h
theorem JIn.room {B : Nat} {X : List Nat} {w0 w : World} {jb g : Nat} {T : TapeS} {br : Bool} {D : DiskS} (h : JIn B X w0 w jb g T br D) : B ≤ w.heap.size := by obtain ⟨_, _, _, _, _, _, _, _, h, _⟩ := h; exact h
theorem JIn.ok {B : Nat} {X : List Nat} {w0 w : World} {jb g : Nat} {T : TapeS} {br : Bool} {D : DiskS} (h : JIn B X w0 w jb g T br D) : D.Ok := by
  obtain ⟨_, _, _, _, ⟨_, _, _, _, h⟩, _⟩ := h; exact h.ok
theorem JIn.xlt {B : Nat} {X : List Nat} {w0 w : World} {jb g : Nat} {T : TapeS} {br : Bool} {D : DiskS} (h : JIn B X w0 w jb g T br D) : ∀ x ∈ X, x < w.heap.size := by obtain ⟨_, _, _, _, _, _, _, _, _, h⟩ := h; exact h
theorem tape_lt {w : World} {base tb tt : Nat} {A : Option Addr} {c : Nat} {T : TapeS} {rest : List Value} (h : IsTapeAt w base tb tt A c T rest) : ∀ k ∈ tb :: (A.map (·.block)).toList, k < w.heap.size := by
  intro k hk
  rcases List.mem_cons.1 hk with rfl | hk
  · exact h.2.1.lt
  · exact it_own_lt h.2.2 k (by rw [ownBlock_slice]; simpa using hk)
/-- A step elsewhere. -/
theorem JIn.step {B : Nat} {X : List Nat} {w0 w w' : World} {jb g : Nat} {T : TapeS} {br : Bool} {D : DiskS} (h : JIn B X w0 w jb g T br D) {l : List Nat} (hu : Upd l w w') (hl : ∀ x ∈ l, x ∈ X ∧ B ≤ x) : JIn B X w0 w' jb g T br D := by
  obtain ⟨A, c, F, h1, h2, h3, h4, h5, h6, h7⟩ := h
  exact ⟨A, c, F, h1.stay hu (fun hm => (h4 jb (by simp)).2 (hl _ hm).1) (fun k hk hm => (h4 k (by simp [hk])).2 (hl _ hm).1), h2.upd hu (fun k hk hm => (h3 k hk).2 (hl k hm).1), h3, h4, h5.trans (hu.toBelow h6 (fun x hx => (hl x hx).2)), Nat.le_trans h6 hu.size, fun x hx => Nat.lt_of_lt_of_le (h7 x hx) hu.size⟩
theorem JIn.mono {B : Nat} {X X' : List Nat} {w0 w : World} {jb g : Nat} {T : TapeS} {br : Bool} {D : DiskS} (h : JIn B X w0 w jb g T br D) (hs : ∀ x ∈ X', x ∈ X) : JIn B X' w0 w jb g T br D := by
  obtain ⟨A, c, F, h1, h2, h3, h4, h5, h6, h7⟩ := h
  exact ⟨A, c, F, h1, h2, fun k hk => ⟨(h3 k hk).1, fun hm => (h3 k hk).2 (hs k hm)⟩, fun k hk => ⟨(h4 k hk).1, fun hm => (h4 k hk).2 (hs k hm)⟩, h5, h6, fun x hx => h7 x (hs x hx)⟩
/-- New blocks join X. -/
theorem JIn.more {B : Nat} {X : List Nat} {w0 w w' : World} {jb g : Nat} {T : TapeS} {br : Bool} {D : DiskS} (h : JIn B X w0 w jb g T br D) {l : List Nat} (hu : Upd l w w') (hl : ∀ x ∈ l, x ∈ X ∧ B ≤ x) (Y : List Nat) (hY : ∀ y ∈ Y, y ∈ X ∨ w.heap.size ≤ y ∧ y < w'.heap.size) : JIn B (Y ++ X) w0 w' jb g T br D := by
  have hs := hu.size
  obtain ⟨A, c, F, h1, h2, h3, h4, h5, h6, h7⟩ := h
  have hlt := h2.lt_
  have hlt2 := tape_lt h1
  obtain ⟨A', c', F', k⟩ := (show JIn B X w0 w' jb g T br D from JIn.step ⟨A, c, F, h1, h2, h3, h4, h5, h6, h7⟩ hu hl)
  have hj := (show JIn B X w0 w' jb g T br D from JIn.step ⟨A, c, F, h1, h2, h3, h4, h5, h6, h7⟩ hu hl)
  refine ⟨A, c, F, h1.stay hu (fun hm => (h4 jb (by simp)).2 (hl _ hm).1) (fun k hk hm => (h4 k (by simp [hk])).2 (hl _ hm).1), h2.upd hu (fun k hk hm => (h3 k hk).2 (hl k hm).1), fun k hk => ⟨(h3 k hk).1, fun hm => ?_⟩, fun k hk => ⟨(h4 k hk).1, fun hm => ?_⟩, hj.below, hj.room, fun x hx => ?_⟩
  · rcases List.mem_append.1 hm with hm | hm
    · rcases hY k hm with h | h
      · exact (h3 k hk).2 h
      · have := hlt k hk; omega
    · exact (h3 k hk).2 hm
  · rcases List.mem_append.1 hm with hm | hm
    · rcases hY k hm with h | h
      · exact (h4 k hk).2 h
      · have := hlt2 k hk; omega
    · exact (h4 k hk).2 hm
  · rcases List.mem_append.1 hx with hm | hm
    · rcases hY x hm with h | h
      · have := h7 x h; omega
      · exact h.2
    · have := h7 x hm; omega
/-- The disk of a journal: the journal's blocks are outside it. -/
theorem JIn.disk {B : Nat} {X : List Nat} {w0 w : World} {jb g : Nat} {T : TapeS} {br : Bool} {D : DiskS} (h : JIn B X w0 w jb g T br D) :
    ∃ A c, IsTapeAt w B jb 74 A c T [.pointer (some ⟨g, 0, none⟩), .bool br] ∧ DiskIn B ((jb :: (A.map (·.block)).toList) ++ X) w0 w g D ∧ ∀ k ∈ jb :: (A.map (·.block)).toList, k ∉ X := by
  obtain ⟨A, c, F, h1, h2, h3, h4, h5, h6, h7⟩ := h
  refine ⟨A, c, h1, ⟨F, h2, fun k hk => ⟨(h3 k hk).1, fun hm => ?_⟩, h5, h6, fun x hx => ?_⟩, fun k hk => (h4 k hk).2⟩
  · rcases List.mem_append.1 hm with hm | hm
    · exact (h4 k hm).1 hk
    · exact (h3 k hk).2 hm
  · rcases List.mem_append.1 hx with hm | hm
    · exact tape_lt h1 x hm
    · exact h7 x hm
theorem tape_same {w w' : World} {base tb tt : Nat} {A : Option Addr} {c : Nat} {T : TapeS} {rest : List Value} (h : IsTapeAt w base tb tt A c T rest) (hs : SameAt (tb :: (A.map (·.block)).toList) w w') : IsTapeAt w' base tb tt A c T rest :=
  ⟨h.1, hs.blk (by simp) h.2.1, own_same h.2.2 (hs.mono (fun x hx => by simp [hx]))⟩
theorem JIn.ofDisk {B : Nat} {X : List Nat} {w0 w w' : World} {jb g : Nat} {T : TapeS} {br : Bool} {D : DiskS} {A : Option Addr} {c : Nat} (h1 : IsTapeAt w B jb 74 A c T [.pointer (some ⟨g, 0, none⟩), .bool br]) (h2 : ∀ k ∈ jb :: (A.map (·.block)).toList, k ∉ X)
    (h : DiskIn B ((jb :: (A.map (·.block)).toList) ++ X) w0 w' g D) (hs : SameAt ((jb :: (A.map (·.block)).toList) ++ X) w w') : JIn B X w0 w' jb g T br D ∧ SameAt X w w' := by
  obtain ⟨F, k1, k2, k3, k4, k5⟩ := h
  refine ⟨⟨A, c, F, tape_same h1 (hs.mono (fun x hx => List.mem_append_left _ hx)), k1, fun k hk => ⟨(k2 k hk).1, fun hm => (k2 k hk).2 (List.mem_append_right _ hm)⟩, fun k hk => ⟨fun hm => (k2 k hm).2 (List.mem_append_left _ hk), h2 k hk⟩, k3, k4, fun x hx => k5 x (List.mem_append_right _ hx)⟩, hs.mono (fun x hx => List.mem_append_right _ hx)⟩
/-- A journal is opened. -/
theorem open_in {B : Nat} {X : List Nat} {w0 w : World} {g : Nat} {D : DiskS} {ks : List Int} {a0 : Addr} (hl : Laid B ks a0 w0) (h : DiskIn B X w0 w g D) (hp : D.pend.length ≤ 10000000) :
    Calls Tryz.prog 25 #[.pointer (some ⟨g, 0, none⟩)] w fun e w' => SameAt X w w' ∧ match (OpenS ks D).1 with
      | some T => ∃ jb, e = .returned (.tuple #[.pointer (some ⟨jb, 0, none⟩), .int .i64 0]) ∧ JIn B X w0 w' jb g T false (OpenS ks D).2.1
      | none => e = .returned (.tuple #[.pointer none, .int .i64 (OpenS ks D).2.2]) ∧ DiskIn B X w0 w' g (OpenS ks D).2.1 := by
  obtain ⟨F, h1, h2, h3, h4, h5⟩ := h
  have hla := hl.later h3
  refine (open_journal g a0 ks w h1 hp hla.1 hl.keys hla.2).mono ?_
  rintro e w' ⟨hm, hj⟩
  obtain ⟨hd, hs⟩ := DiskIn.moved h2 h3 h4 h5 hm
  refine ⟨hs, ?_⟩
  revert hj
  cases (OpenS ks D).1 with
  | none => exact fun hj => ⟨hj, hd⟩
  | some T =>
    rintro ⟨jb, A, c, F', rfl, hT, hD', hF', hjF⟩
    have hge : ∀ k ∈ jb :: (A.map (·.block)).toList, w.heap.size ≤ k := tape_ge hT (Nat.le_refl _)
    refine ⟨jb, rfl, A, c, F', ⟨Nat.le_trans h4 hT.1, hT.2.1, it_own_less hT.2.2 h4⟩, hD', fun k hk => ?_, fun k hk => ⟨hjF k hk, fun hx => by have := h5 k hx; have := hge k hk; omega⟩, hd.below, hd.room, ?_⟩
    · rcases hF' k hk with h | h
      · exact h2 k h
      · exact ⟨by omega, fun hx => by have := h5 k hx; omega⟩
    · obtain ⟨_, _, _, _, _, k5⟩ := hd
      exact k5
/-- It is opened again, beside a journal. -/
theorem reopen_in {B : Nat} {X : List Nat} {w0 w : World} {jb g : Nat} {T : TapeS} {br : Bool} {D : DiskS} {ks : List Int} {a0 : Addr} (hl : Laid B ks a0 w0) (h : JIn B X w0 w jb g T br D) (hp : D.pend.length ≤ 10000000) :
    Calls Tryz.prog 25 #[.pointer (some ⟨g, 0, none⟩)] w fun e w' => SameAt X w w' ∧ JIn B X w0 w' jb g T br (OpenS ks D).2.1 ∧ match (OpenS ks D).1 with
      | some T' => ∃ jc A c, e = .returned (.tuple #[.pointer (some ⟨jc, 0, none⟩), .int .i64 0]) ∧ IsTapeAt w' w.heap.size jc 74 A c T' [.pointer (some ⟨g, 0, none⟩), .bool false] ∧ JIn B ((jc :: (A.map (·.block)).toList) ++ X) w0 w' jb g T br (OpenS ks D).2.1
      | none => e = .returned (.tuple #[.pointer none, .int .i64 (OpenS ks D).2.2]) := by
  obtain ⟨A0, c0, F, h1, h2, h3, h4, h5, h6, h7⟩ := h
  have hla := hl.later h5
  refine (open_journal g a0 ks w h2 hp hla.1 hl.keys hla.2).mono ?_
  rintro e w' ⟨hm, hj⟩
  have hlt := tape_lt h1
  have hd0 : DiskIn B ((jb :: (A0.map (·.block)).toList) ++ X) w0 w g D := by
    refine ⟨F, h2, fun k hk => ⟨(h3 k hk).1, fun hm => ?_⟩, h5, h6, fun x hx => ?_⟩
    · rcases List.mem_append.1 hm with hm | hm
      · exact (h4 k hm).1 hk
      · exact (h3 k hk).2 hm
    · rcases List.mem_append.1 hx with hm | hm
      · exact hlt x hm
      · exact h7 x hm
  have hF1 : ∀ k ∈ F, B ≤ k ∧ k ∉ (jb :: (A0.map (·.block)).toList) ++ X := fun k hk => ⟨(h3 k hk).1, fun hm => (List.mem_append.1 hm).elim (fun hm => (h4 k hm).1 hk) (h3 k hk).2⟩
  have hX1 : ∀ x ∈ (jb :: (A0.map (·.block)).toList) ++ X, x < w.heap.size := fun x hx => (List.mem_append.1 hx).elim (hlt x) (h7 x)
  obtain ⟨hd, hs⟩ := DiskIn.moved hF1 h5 h6 hX1 hm
  have hJ := JIn.ofDisk h1 (fun k hk => (h4 k hk).2) hd hs
  refine ⟨hJ.2, hJ.1, ?_⟩
  revert hj
  cases (OpenS ks D).1 with
  | none => exact fun hj => hj
  | some T' =>
    rintro ⟨jc, A, c, F', rfl, hT, hD', hF', hjF⟩
    have hge : ∀ k ∈ jc :: (A.map (·.block)).toList, w.heap.size ≤ k := tape_ge hT (Nat.le_refl _)
    refine ⟨jc, A, c, rfl, hT, A0, c0, F', tape_same h1 (fun x hx => hs x (List.mem_append_left _ hx)), hD', fun k hk => ⟨?_, fun hm => ?_⟩, fun k hk => ⟨fun hm => ?_, fun hm => ?_⟩, hd.below, hd.room, fun x hx => ?_⟩
    · rcases hF' k hk with h | h
      · exact (h3 k h).1
      · omega
    · rcases List.mem_append.1 hm with hm | hm
      · exact hjF k hm hk
      · rcases hF' k hk with h | h
        · exact (h3 k h).2 hm
        · have := h7 k hm; omega
    · rcases hF' k hm with h | h
      · exact (h4 k hk).1 h
      · have := hlt k hk; omega
    · rcases List.mem_append.1 hm with hm | hm
      · have := hge k hm; have := hlt k hk; omega
      · exact (h4 k hk).2 hm
    · rcases List.mem_append.1 hx with hm | hm
      · exact tape_lt hT x hm
      · have := h7 x hm; have := hJ.1.xlt x hm; omega
/-- A group is appended. -/
theorem append_in {B : Nat} {X : List Nat} {w0 w : World} {jb g : Nat} {T : TapeS} {br : Bool} {D : DiskS} {ks : List Int} {a0 : Addr} (la : Option Addr) (n lc : Nat) (l : List ByteArray) (hL : Laid B ks a0 w0) (h : JIn B X w0 w jb g T br D)
    (hl : l.length = n) (hla : n ≤ 1000) (hS : StrsAt w la l) (hb : ∀ s ∈ l, s.size ≤ 1000000000) (hp : D.pend.length ≤ 10000000) (hts : T.size ≤ D.sure.length) (hth : T.head.length ≤ 1000) (htr : T.recs.length ≤ 1000000000) :
    Calls Tryz.prog 10 #[.pointer (some ⟨jb, 0, none⟩), .slice la n lc] w fun e w' => e = .returned (.int .i64 (appendS ks T D br l).2.2.2) ∧ JIn B X w0 w' jb g (appendS ks T D br l).1 (appendS ks T D br l).2.2.1 (appendS ks T D br l).2.1 ∧ SameAt X w w' := by
  have hok := h.ok
  obtain ⟨A, c, F, h1, h2, h3, h4, h5, h6, h7⟩ := h
  have hla2 := hL.later h5
  refine (append_any B jb g A c T br la n lc l ks w h1 h2 (fun k hk => (h4 k hk).1) hla2.1 hL.keys hl hla hS hb hp ⟨hts, hok.max⟩ hth htr h6).mono ?_
  rintro e w' ⟨rfl, A', c', F', k1, k2, k3, k4, k5, k6⟩
  have hjX : jb ∉ X := (h4 jb (by simp)).2
  have hs := k3.size
  refine ⟨rfl, ⟨A', c', F', k1, k2, fun k hk => ?_, fun k hk => ⟨k6 k hk, fun hx => ?_⟩, h5.trans (k3.toBelow h6 (fun x hx => ?_)), by omega, fun x hx => Nat.lt_of_lt_of_le (h7 x hx) hs⟩, fun x hx => k3.block x (h7 x hx) (fun hm => ?_)⟩
  · rcases k4 k hk with h | h
    · exact h3 k h
    · exact ⟨by omega, fun hx => by have := h7 k hx; omega⟩
  · rcases List.mem_cons.1 hk with rfl | hk
    · exact hjX hx
    · rcases k5 k hk with h | h
      · exact (h4 k (by simp [h])).2 hx
      · have := h7 k hx; omega
  · rcases List.mem_cons.1 hx with rfl | hx
    · exact h1.1
    · exact (h3 x hx).1
  · rcases List.mem_cons.1 hm with rfl | hm
    · exact hjX hx
    · exact (h3 x hm).2 hx
theorem append_nil (la : Option Addr) (n lc : Nat) (w : World) : Calls Tryz.prog 10 #[.pointer none, .slice la n lc] w fun e w' => e = .returned (.int .i64 1) ∧ w = w' := by
  go_enter Tryz.func10, Tryz.ntmps10
  go_wp2_with fail
  go_ret
  exact ⟨rfl, rfl⟩
theorem room_in {B : Nat} {X : List Nat} {w0 w : World} {jb g : Nat} {T : TapeS} {br : Bool} {D : DiskS} (h : JIn B X w0 w jb g T br D) (hts : T.size ≤ D.sure.length) :
    Calls Tryz.prog 20 #[.pointer (some ⟨jb, 0, none⟩)] w fun e w' => e = .returned (.int .i64 ((D.sure.length - T.size : Nat) : Int)) ∧ Upd [] w w' := by
  obtain ⟨A, c, F, h1, h2, _⟩ := h
  exact room_any B jb g A c T br w h1 h2 hts
theorem records_in {B : Nat} {X : List Nat} {w0 w : World} {jb g : Nat} {T : TapeS} {br : Bool} {D : DiskS} (h : JIn B X w0 w jb g T br D) (hn : T.recs.length ≤ 1000000000000) :
    Calls Tryz.prog 19 #[.pointer (some ⟨jb, 0, none⟩)] w fun e w' => ∃ A' c', e = .returned (.slice A' T.recs.length c') ∧ w'.ownsRow w.heap.size 9 1 (.slice A' T.recs.length c') T.recs.length (T.recs.map strV) ∧ Upd [] w w' := by
  obtain ⟨A, c, F, h1, h2, _⟩ := h
  exact records_any B jb _ A c T _ w h1 hn
theorem jcut_in {B : Nat} {X : List Nat} {w0 w : World} {jb g : Nat} {T : TapeS} {br : Bool} {D : DiskS} (n : Int) (h : JIn B X w0 w jb g T br D) (hn : n ≤ 9223372036854775807) :
    Calls Tryz.prog 29 #[.pointer (some ⟨g, 0, none⟩), .int .i64 n] w fun e w' => e = .returned (.int .i64 (D.cut n).2) ∧ JIn B X w0 w' jb g T br (D.cut n).1 ∧ SameAt X w w' := by
  obtain ⟨A, c, h1, h2, h3⟩ := h.disk
  refine (cut_in n h2 hn).mono ?_
  rintro e w' ⟨rfl, k1, k2⟩
  exact ⟨rfl, JIn.ofDisk h1 h3 k1 k2⟩
theorem jwrite_in {B : Nat} {X : List Nat} {w0 w : World} {jb g : Nat} {T : TapeS} {br : Bool} {D : DiskS} (off : Int) (s : ByteArray) (h : JIn B X w0 w jb g T br D) (hp : D.pend.length ≤ 1000000000) :
    Calls Tryz.prog 13 #[.pointer (some ⟨g, 0, none⟩), .int .i64 off, .string s] w fun e w' => e = .returned (.int .i64 (D.write off s.data.toList).2) ∧ JIn B X w0 w' jb g T br (D.write off s.data.toList).1 ∧ SameAt X w w' := by
  obtain ⟨A, c, h1, h2, h3⟩ := h.disk
  refine (write_in off s h2 hp).mono ?_
  rintro e w' ⟨rfl, k1, k2⟩
  exact ⟨rfl, JIn.ofDisk h1 h3 k1 k2⟩
theorem jread_in {B : Nat} {X : List Nat} {w0 w : World} {jb g : Nat} {T : TapeS} {br : Bool} {D : DiskS} (off n : Int) (h : JIn B X w0 w jb g T br D) :
    Calls Tryz.prog 52 #[.pointer (some ⟨g, 0, none⟩), .int .i64 off, .int .i64 n] w fun e w' => e = .returned (.tuple #[.string ⟨(D.read off n).1.toArray⟩, .int .i64 (D.read off n).2]) ∧ w = w' := by
  obtain ⟨A, c, h1, h2, h3⟩ := h.disk
  exact read_in off n h2
theorem jsize_in {B : Nat} {X : List Nat} {w0 w : World} {jb g : Nat} {T : TapeS} {br : Bool} {D : DiskS} (h : JIn B X w0 w jb g T br D) :
    Calls Tryz.prog 51 #[.pointer (some ⟨g, 0, none⟩)] w fun e w' => e = .returned (.int .i64 (D.sure.length : Int)) ∧ w = w' := by
  obtain ⟨A, c, h1, h2, h3⟩ := h.disk
  exact size_in h2
theorem jpending_in {B : Nat} {X : List Nat} {w0 w : World} {jb g : Nat} {T : TapeS} {br : Bool} {D : DiskS} (h : JIn B X w0 w jb g T br D) :
    Calls Tryz.prog 32 #[.pointer (some ⟨g, 0, none⟩)] w fun e w' => e = .returned (.int .i64 (D.pend.length : Int)) ∧ w = w' := by
  obtain ⟨A, c, h1, h2, h3⟩ := h.disk
  exact pending_in h2
/-- Opening no disk. -/
theorem open_nil (w : World) : Calls Tryz.prog 25 #[.pointer none] w fun e w' => e = .returned (.tuple #[.pointer none, .int .i64 1]) ∧ w = w' := by
  go_enter Tryz.func25, Tryz.ntmps25
  go_wp2_with fail
  refine bodyPost_ret (v := .tuple #[.pointer none, .int .i64 1]) (by simp [results, Tryz.results25, go_sem]) rfl ?_
  exact ⟨rfl, rfl⟩
end Go.Proofs.YtafjolibfbccbaaGreatDoor
