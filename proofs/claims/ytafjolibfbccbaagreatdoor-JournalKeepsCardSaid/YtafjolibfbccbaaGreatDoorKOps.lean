/-
  A slice of calls on a journal that came in.
-/
import Derived.Test.YtafjolibfbccbaaGreatDoorKCrIn
namespace Go.Proofs.YtafjolibfbccbaaGreatDoor
open Go.RowKit
set_option maxRecDepth 100000
set_option maxHeartbeats 1000000

/-- A call that came in: which, a group of records, a number, a list of numbers. -/
structure OpP where
  kind : Int
  la : Option Addr
  ln : Nat
  lc : Nat
  l : List ByteArray
  n : Int
  ka : Option Addr
  kn : Nat
  kc : Nat
  keep : List Int
def OpR (W : World) (x : OpP) (vs : List Value) : Prop := vs = [.int .i64 x.kind, .slice x.la x.ln x.lc, .int .i64 x.n, .slice x.ka x.kn x.kc] ∧
  (Lit.int .i64 x.kind).wf = true ∧ (Lit.int .i64 x.n).wf = true ∧ StrsArg W x.la x.ln x.lc x.l ∧ IntsArg W x.ka x.kn x.kc x.keep
def OpsArg (W : World) (a : Option Addr) (len cap : Nat) (xs : List OpP) : Prop := RowArg W a len cap 4 OpR xs
open Go.Deep Go.ChangeShapes in
theorem open_ops {H : Type} {enc : TypeId × Value → H} {w : World} {base : Nat} {spare : Nat → Bool} {held : Bool} {a : Option Addr} {len cap : Nat} {d : DataW H} {p : List MemPlace}
    (h : DataW.Trod enc Tryz.prog w base spare held 60 (.slice a len cap) d p) : ∃ xs, OpsArg w a len cap xs := by
  refine open_rows Tryz.underlying60 Tryz.underlying62 (by kernel_rfl) (by kernel_rfl) (by decide) OpR (fun n vs hl hv => ?_) h
  match vs, hl with
  | [v0, v1, v2, v3], _ =>
    obtain ⟨y0, h0⟩ := hv 0 _ v0 rfl rfl
    obtain ⟨y1, h1⟩ := hv 1 _ v1 rfl rfl
    obtain ⟨y2, h2⟩ := hv 2 _ v2 rfl rfl
    obtain ⟨y3, h3⟩ := hv 3 _ v3 rfl rfl
    obtain ⟨x0, e0, _, w0⟩ := DataW.trod_int Tryz.underlying3 h0
    obtain ⟨x2, e2, _, w2⟩ := DataW.trod_int Tryz.underlying3 h2
    simp at e0 e2
    subst e0 e2
    obtain ⟨a1, l1, c1, z1, e1, hs⟩ := open_strs_raw h1
    simp at e1
    subst e1
    obtain ⟨y3a, y3b⟩ := y3
    have hsl : ∃ aa l c, v3 = .slice aa l c := by
      rcases open_slice1 Tryz.underlying56 (by kernel_rfl) h3 with ⟨hcs, _⟩ | ⟨x, l, c, m, n, V, Dt, Pl, hcs, _⟩
      · exact ⟨none, 0, 0, by simpa using hcs⟩
      · exact ⟨_, _, _, by simpa using hcs⟩
    obtain ⟨aa, l, c, rfl⟩ := hsl
    obtain ⟨zs, hz⟩ := open_ints_arg Tryz.underlying56 Tryz.underlying3 (by kernel_rfl) (show DataW.Trod enc Tryz.prog w base spare held 56 (.slice aa l c) y3a y3b from ⟨n, h3⟩)
    exact ⟨⟨x0, a1, l1, c1, z1, x2, aa, l, c, zs⟩, rfl, w0, w2, hs, hz⟩
/-- The state of a journal through power failures: it stands, or it broke while a group was appended. -/
def KState (ks : List Int) (N : Nat) (L : List (List UInt8)) (D : DiskS) (br : Bool) : Prop :=
  (br = false ∧ ∃ m, D = diskLeft N (bytesOf ks L) m) ∨ (br = true ∧ D.off = true ∧ D.sure.length = N ∧ D.pend.length ≤ 1 ∧ ∃ G, G.length ≤ 6 ∧ (∀ r ∈ G, r.length ≤ 100) ∧ Crashes ks N L G D)
theorem KState.pend {ks : List Int} {N : Nat} {L : List (List UInt8)} {D : DiskS} {br : Bool} (h : KState ks N L D br) : D.pend.length ≤ 1 := by
  rcases h with ⟨_, m, rfl⟩ | ⟨_, _, _, h, _⟩
  · rw [left_pend]; omega
  · exact h
theorem KState.size {ks : List Int} {N : Nat} {L : List (List UInt8)} {D : DiskS} {br : Bool} (h : KState ks N L D br) (hL : lenL L ≤ N) : D.sure.length = N := by
  rcases h with ⟨_, m, rfl⟩ | ⟨_, _, h, _⟩
  · exact left_size _ _ _ (by rw [bytesOf_length]; exact hL)
  · exact h
theorem KState.cut {ks : List Int} {N : Nat} {L : List (List UInt8)} {D : DiskS} {br : Bool} (h : KState ks N L D br) (c : Nat) (hc : c ≠ 0) : KState ks N L (D.cut (c : Int)).1 br := by
  rcases h with ⟨h1, m, rfl⟩ | h
  · rw [cut_left _ _ _ _ hc]; exact .inl ⟨h1, c, rfl⟩
  · rw [cut_off D _ h.2.1]; exact .inr h
theorem KState.crash {ks : List Int} {N : Nat} {L : List (List UInt8)} {D : DiskS} {br : Bool} (h : KState ks N L D br) (hL : lenL L ≤ N) (hr : ∀ r ∈ L, r.length ≤ 100) (keep : List Int) (torn : Int) :
    ∃ G, G.length ≤ 6 ∧ (∀ r ∈ L ++ G, r.length ≤ 100) ∧ OpenS ks (D.crash keep torn) = (some (tapeOf ks (L ++ G)), diskOf N (bytesOf ks (L ++ G)), 0) ∧ (D.crash keep torn).pend.length = 0 ∧ lenL (L ++ G) ≤ N := by
  obtain ⟨G, g1, g2, g3⟩ : ∃ G, G.length ≤ 6 ∧ (∀ r ∈ G, r.length ≤ 100) ∧ Crashes ks N L G D := by
    rcases h with ⟨_, m, rfl⟩ | ⟨_, _, _, _, h⟩
    · exact ⟨[], by simp, by simp, crashes_left ks N m L [] hL⟩
    · exact h
  have hG : ∀ r ∈ L ++ G, r.length ≤ 100 := fun r hm => (List.mem_append.1 hm).elim (hr r) (g2 r)
  obtain ⟨L', h1, h2, h3, h4⟩ := crashes_open g3 (fun r hm => by have := hG r hm; omega) keep torn
  rcases h1 with rfl | rfl
  · exact ⟨[], by simp, by simpa using hr, by rw [List.append_nil]; exact h2, h3, by rw [List.append_nil]; exact h4⟩
  · exact ⟨G, g1, hG, h2, h3, h4⟩
theorem KState.append {ks : List Int} {N : Nat} {L : List (List UInt8)} {D : DiskS} {br : Bool} (h : KState ks N L D br) (hL : lenL L ≤ N) (l : List ByteArray) (hs : ∀ s ∈ l, s.size ≤ 100) (hl : l.length ≤ 6) :
    (∃ D', appendS ks (tapeOf ks L) D br l = (tapeOf ks (L ++ bytesL l), D', false, 0) ∧ KState ks N (L ++ bytesL l) D' false ∧ lenL (L ++ bytesL l) ≤ N) ∨
    (∃ D' br' er, appendS ks (tapeOf ks L) D br l = (tapeOf ks L, D', br', er) ∧ (er == 0) = false ∧ KState ks N L D' br') := by
  rcases h with ⟨rfl, m, rfl⟩ | h
  · rcases append_cases ks N m L l (fun s hm => by have := hs s hm; omega) hL with ⟨m', h1, _, h2⟩ | h1 | ⟨D', h1, h2, h3, h4, h5, _⟩
    · exact .inl ⟨_, h1, .inl ⟨rfl, m', rfl⟩, h2⟩
    · exact .inr ⟨_, _, _, h1, rfl, .inl ⟨rfl, m, rfl⟩⟩
    · refine .inr ⟨_, _, _, h1, rfl, .inr ⟨rfl, h2, h3, h4, bytesL l, by unfold bytesL; rw [List.length_map]; exact hl, fun r hm => ?_, h5⟩⟩
      unfold bytesL at hm
      obtain ⟨s, hs', rfl⟩ := List.mem_map.1 hm
      show s.data.toList.length ≤ 100
      rw [Array.length_toList]
      exact hs s hs'
  · obtain ⟨rfl, h⟩ := h
    exact .inr ⟨_, _, _, append_broken ks _ D l, rfl, .inr ⟨rfl, h⟩⟩
end Go.Proofs.YtafjolibfbccbaaGreatDoor
