/-
  The reference's Read.
-/
import Derived.Test.YthjcgaahnpbcdaaRefD
namespace Go.Proofs.Ythjcgaahnpbcdaa
open Go.RowKit
set_option maxRecDepth 100000
set_option maxHeartbeats 1000000

/-- 'string(b[o:o+k])' of a row with spare cells. -/
theorem run_conv_row {P : Program} {w : World} {g t : Nat} {b : List UInt8} {r : List Value} (hb : Blk w g t (bCells b ++ r)) (src e dst : TypeId) (hs : P.underlying src = some (.slice e)) (he : P.underlying e = some (.int .u8)) (hd : P.underlying dst = some .string) (o k cap : Nat) (h : o + k ≤ b.length) :
    (convert src dst (.slice (some ⟨g, o, none⟩) k cap)).run P w = .ok (.string ⟨((b.drop o).take k).toArray⟩) w := by
  have hx := run_convert_bytes_arg (P := P) w src e hs he g o k cap (((b.drop o).take k).map fun x => (x.toNat : Int)) (by simp; omega) (fun i hi => by
    rw [hb.cell]
    have e1 : ((b.drop o).take k)[i]? = b[o + i]? := by rw [List.getElem?_take_of_lt hi, List.getElem?_drop]
    have e2 : b[o + i]? = some (b[o + i]'(by omega)) := List.getElem?_eq_getElem (by omega)
    have e3 : (((b.drop o).take k).map fun x : UInt8 => (x.toNat : Int))[i]? = some ((b[o + i]'(by omega)).toNat : Int) := by rw [List.getElem?_map, e1, e2]; rfl
    rw [List.getD, e3, List.getElem?_append_left (by rw [bCells_length]; omega), bCells, List.getElem?_map, e2]
    rfl) dst hd
  rw [hx]
  congr 2
  apply ByteArray.ext
  apply Array.toList_inj.1
  rw [strOfNums_data, List.map_map]
  show _ = (b.drop o).take k
  conv => rhs; rw [← List.map_id ((b.drop o).take k)]
  apply List.map_congr_left
  intro x _
  simp
theorem run_conv_row_if {P : Program} {w : World} {g t : Nat} {b : List UInt8} {r : List Value} (hb : Blk w g t (bCells b ++ r)) (src e dst : TypeId) (hs : P.underlying src = some (.slice e)) (he : P.underlying e = some (.int .u8)) (hd : P.underlying dst = some .string) (n o k cap c' : Nat) (hn : b.length = n) (hc : n ≤ cap) (ho : o ≤ n) (h : k ≤ n - o) :
    (convert src dst (.slice (if cap = o then some ⟨g, 0, none⟩ else some ⟨g, o, none⟩) k c')).run P w = .ok (.string ⟨((b.drop o).take k).toArray⟩) w := by
  subst hn
  split
  · rename_i q
    have hk : k = 0 := by omega
    subst hk
    have := run_conv_row hb src e dst hs he hd 0 0 c' (by omega)
    simpa using this
  · exact run_conv_row hb src e dst hs he hd o k c' (by omega)

theorem refRead {F : List Nat} {g : Nat} {D : DiskS} (off n : Int) (w : World) (h : IsRef w F g D) (hp : D.pend.length ≤ 1000000000) (hs : D.vis = puts D.sure D.pend) :
    Calls Try.prog 20 #[.pointer (some ⟨g, 0, none⟩), .int .i64 off, .int .i64 n] w fun e w' => e = .returned (.tuple #[.string ⟨(D.read off n).1.toArray⟩, .int .i64 (D.read off n).2]) ∧ Upd [] w w' := by
  obtain ⟨gd, cs, r, A, c, h⟩ := h
  have c0 : w.cell? ⟨g, 0, none⟩ = some (.slice (some ⟨gd, 0, none⟩) D.sure.length cs) := h.head.cell 0
  have hm := h.ok.max
  cases ho : D.off with
  | true =>
    have hc : w.cell? ⟨g, 2, none⟩ = some (.bool true) := by rw [← ho]; exact h.head.cell 2
    have e2 : D.read off n = ([], 331) := by simp [DiskS.read, ho]
    rw [e2]
    clear h ho e2 hs hp
    go_enter Try.func20, Try.ntmps20
    go_wp2_with fail
    go_ret2
    exact ⟨rfl, Upd.refl _ _⟩
  | false =>
    have hc : w.cell? ⟨g, 2, none⟩ = some (.bool false) := by rw [← ho]; exact h.head.cell 2
    cases hi : inB D.sure.length off n with
    | false =>
      have e2 : D.read off n = ([], 330) := by simp [DiskS.read, ho, hi]
      rw [e2]
      have hn : ¬ (0 ≤ off ∧ 0 ≤ n ∧ off ≤ D.sure.length ∧ n ≤ D.sure.length - off) := by simpa [inB] using hi
      obtain ⟨l, El⟩ : ∃ l, D.sure.length = l := ⟨_, rfl⟩
      rw [El] at c0 hm hn
      clear h ho e2 hs hp hi El
      by_cases h1 : off < 0
      · clear hn
        go_enter Try.func20, Try.ntmps20
        go_wp2_with fail
        go_ret2
        exact ⟨rfl, Upd.refl _ _⟩
      · by_cases h2 : n < 0
        · clear hn
          go_enter Try.func20, Try.ntmps20
          go_wp2_with fail
          go_ret2
          exact ⟨rfl, Upd.refl _ _⟩
        · by_cases h3 : (l : Int) < off
          · clear hn
            go_enter Try.func20, Try.ntmps20
            go_wp2_with fail
            go_ret2
            exact ⟨rfl, Upd.refl _ _⟩
          · have h4 : (l : Int) - off < n := by omega
            clear hn
            go_enter Try.func20, Try.ntmps20
            go_wp2_with fail
            go_ret2
            exact ⟨rfl, Upd.refl _ _⟩
    | true =>
      have hb : 0 ≤ off ∧ 0 ≤ n ∧ off ≤ D.sure.length ∧ n ≤ D.sure.length - off := by simpa [inB] using hi
      obtain ⟨h0, h1, h2, h3⟩ := hb
      obtain ⟨o, rfl⟩ : ∃ m : Nat, off = m := ⟨off.toNat, by omega⟩
      obtain ⟨k, rfl⟩ : ∃ m : Nat, n = m := ⟨n.toNat, by omega⟩
      have h4 : o ≤ D.sure.length := by omega
      have h5 : k ≤ D.sure.length - o := by omega
      have e2 : D.read o k = (((puts D.sure D.pend).drop o).take k, 0) := by simp [DiskS.read, ho, hi, hs]
      rw [e2]
      have VI := hide (refVisible w h hp)
      have HL := hide (show (puts D.sure D.pend).length = D.sure.length by rw [← hs]; exact h.ok.len)
      have H := hide h
      obtain ⟨l, El⟩ : ∃ l, Hid (D.sure.length = l) := ⟨_, rfl⟩
      rw [El.out] at c0 hm h4 h5 VI HL
      clear h ho e2 hi h0 h1 h2 h3 hs hp
      go_enter Try.func20, Try.ntmps20
      go_wp2_with fail
      refine VI.out.mono ?_
      rintro e w1 ⟨gb, cb, rb, rfl, hgb, hbl, hrb, hcb, hu⟩
      have hv := run_conv_row_if (P := Try.prog) hbl 40 5 9 Try.underlying40 Try.underlying5 Try.underlying9 l o k cb (cb - o) HL.out (by omega) h4 h5
      have HU := hide hu
      have hcb2 : l ≤ cb := by omega
      clear hu hbl hgb VI hrb
      clear hcb
      go_wp2_with fail
      all_goals
        go_ret2
        exact ⟨rfl, HU.out⟩
end Go.Proofs.Ythjcgaahnpbcdaa
