/-
  airchecklaw34.sane; content.
-/
import Derived.Test.YtafjolibfbccbaaGreatDoorKLawF
namespace Go.Proofs.YtafjolibfbccbaaGreatDoor
open Go.RowKit
set_option maxRecDepth 100000
set_option maxHeartbeats 4000000

theorem putStrS_short (r : List UInt8) (h : r.length < 64) : (putStrS r).length = r.length + 1 := by
  unfold putStrS
  rw [List.length_append, putS_length]
  have hz : zigS (r.length : Int) = 2 * r.length := by unfold zigS; rw [if_neg (by omega)]; omega
  rw [hz, groupsS_last (by omega)]
  simp; omega
theorem putStrS_mid (r : List UInt8) (h : 64 ≤ r.length) (h2 : r.length < 8192) : (putStrS r).length = r.length + 2 := by
  unfold putStrS
  rw [List.length_append, putS_length]
  have hz : zigS (r.length : Int) = 2 * r.length := by unfold zigS; rw [if_neg (by omega)]; omega
  rw [hz, groupsS_more (by omega), groupsS_last (by omega)]
  simp; omega
theorem lenL_cons (r : List UInt8) (l : List (List UInt8)) : lenL (r :: l) = 33 + (putStrS r).length + lenL l := by unfold lenL; rw [List.map_cons, List.sum_cons]
theorem lenL_nil : lenL [] = 0 := rfl
/-- The strings of a row of the call's own. -/
theorem strs_own {w : World} {base n c : Nat} {A : Option Addr} {l : List (List UInt8)} (h : w.ownsRow base 9 1 (.slice A n c) n (l.map strV)) : StrsAt w A (l.map fun r => ⟨r.toArray⟩) := by
  intro j s hs
  rw [List.getElem?_map, Option.map_eq_some_iff] at hs
  obtain ⟨r, hr, rfl⟩ := hs
  rcases h.2 with ⟨hv, h0⟩ | ⟨g, cap, cur, hv, _⟩
  · have hl := h.1
    rw [List.length_map] at hl
    have := (List.getElem?_eq_some_iff.1 hr).1
    omega
  · simp only [Value.slice.injEq] at hv
    obtain ⟨rfl, _, rfl⟩ := hv
    have h1 := h.cells (g := g) rfl j (strV r) (by rw [List.getElem?_map, hr]; rfl)
    have e : (⟨g, 0, none⟩ : Addr).add j = ⟨g, 0 + j, none⟩ := by unfold Addr.add; split <;> simp_all
    rw [e] at h1
    exact ⟨g, 0, rfl, h1⟩
/-- A row of strings that was just laid. -/
theorem strs_new (w : World) (l : List ByteArray) : StrsAt (w.alloc (.cells (l.map Value.string).toArray 9)) (some ⟨w.heap.size, 0, none⟩) l := by
  intro j s hs
  refine ⟨_, _, rfl, ?_⟩
  have h := (Blk.new w 9 (l.map Value.string)).cell (0 + j)
  rw [h, Nat.zero_add, List.getElem?_map, hs]
  rfl
theorem content_any {F : List Nat} {g : Nat} {D : DiskS} (w : World) (h : IsDisk w F g D) (ho : D.off = false) :
    Calls Tryz.prog 22 #[.pointer (some ⟨g, 0, none⟩)] w fun e w' => e = .returned (.string ⟨D.vis.toArray⟩) ∧ w = w' := by
  obtain ⟨gd, gv, DA, dc, hDA⟩ := h
  have hD : IsDisk w F g D := ⟨_, _, _, _, hDA⟩
  have hOk := hDA.ok
  have HSZ := hide (size_any w (hDA.head.cell 2))
  have HRD := hide (read_any 0 (D.sure.length : Int) w hD)
  have hrd : D.read 0 (D.sure.length : Int) = (D.vis, 0) := by
    unfold DiskS.read inB
    rw [if_neg (by simp [ho]), if_pos (by simp)]
    simp only [Int.toNat_natCast, List.drop_zero, Int.toNat_zero]
    rw [List.take_of_length_le (by have := hOk.len; omega)]
  rw [hrd] at HRD
  obtain ⟨N, hN⟩ : ∃ N, D.sure.length = N := ⟨_, rfl⟩
  rw [hN] at HSZ HRD
  clear hDA hD hOk ho hrd hN
  go_enter Tryz.func22, Tryz.ntmps22
  go_wp2_with fail
  refine HSZ.out.mono ?_
  rintro e w' ⟨rfl, rfl⟩
  go_wp2_with fail
  refine HRD.out.mono ?_
  rintro e w' ⟨rfl, rfl⟩
  go_wp2_with fail
  go_ret
  exact ⟨rfl, rfl⟩

/-- The records of the example. -/
def R1 : List ByteArray := [⟨#[97, 98]⟩, ⟨#[]⟩]
def zs (n : Nat) : ByteArray := ⟨(List.replicate n 0).toArray⟩
def L1 : List (List UInt8) := bytesL R1
def L2 : List (List UInt8) := L1 ++ bytesL [zs 95]
theorem zs_size (n : Nat) : (zs n).size = n := by show (List.replicate n (0 : UInt8)).toArray.size = n; simp
theorem zs_bytes (n : Nat) : bytesL [zs n] = [List.replicate n 0] := rfl
theorem lenL_1 : lenL L1 = 70 := by
  unfold L1 R1 bytesL
  rw [List.map_cons, List.map_cons, List.map_nil, lenL_cons, lenL_cons, lenL_nil, putStrS_short _ (by decide), putStrS_short _ (by decide)]
  rfl
theorem lenL_zs (n : Nat) (h : 64 ≤ n) (h2 : n < 8192) : lenL (bytesL [zs n]) = n + 35 := by
  rw [zs_bytes, lenL_cons, lenL_nil, putStrS_mid _ (by simp; omega) (by simp; omega)]
  simp; omega
theorem lenL_2 : lenL L2 = 200 := by unfold L2; rw [lenL_append, lenL_1, lenL_zs 95 (by omega) (by omega)]
theorem R1_small : ∀ s ∈ R1, s.size ≤ 65536 := by decide
theorem L2_small : ∀ r ∈ L2, r.length ≤ 65536 := by
  intro r hr
  rcases List.mem_append.1 hr with h | h
  · exact lens_of R1 R1_small r h
  · exact lens_of [zs 95] (by simp [zs_size]) r h
theorem k0 (ks : List Int) : OpenS ks (DiskS.fresh 200) = (some (tapeOf ks []), diskOf 200 (bytesOf ks []), 0) := by
  rw [fresh_of]
  exact open_of ks [] 200 (diskOf 200 []) rfl (by unfold diskOf bytesOf; simp [addL]) (by simp)
theorem k1 (ks : List Int) : appendS ks (tapeOf ks []) (diskOf 200 (bytesOf ks [])) false R1 = (tapeOf ks L1, diskOf 200 (bytesOf ks L1), false, 0) := append_ok ks 200 [] R1 R1_small (by have := lenL_1; unfold L1 at this; rw [this, lenL_nil]; omega)
theorem k2 (ks : List Int) : appendS ks (tapeOf ks L1) (diskOf 200 (bytesOf ks L1)) false [zs 96] = (tapeOf ks L1, diskOf 200 (bytesOf ks L1), false, 341) :=
  append_full ks 200 L1 [zs 96] _ (diskOf_size _ _ (by rw [bytesOf_length, lenL_1]; omega)) (by simp [zs_size]) (by rw [lenL_1]; omega) (by rw [lenL_1, lenL_zs 96 (by omega) (by omega)]; omega)
theorem k3 (ks : List Int) : appendS ks (tapeOf ks L1) (diskOf 200 (bytesOf ks L1)) false [zs 95] = (tapeOf ks L2, diskOf 200 (bytesOf ks L2), false, 0) :=
  append_ok ks 200 L1 [zs 95] (by simp [zs_size]) (by rw [lenL_1, lenL_zs 95 (by omega) (by omega)]; omega)
theorem diskOf_vis (n : Nat) (s : List UInt8) : (diskOf n s).vis = s ++ List.replicate (n - s.length) 0 := rfl
theorem k4 (ks : List Int) : OpenS ks (diskOf 200 (bytesOf ks L2)) = (some (tapeOf ks L2), diskOf 200 (bytesOf ks L2), 0) :=
  open_of ks L2 _ _ rfl (diskOf_vis _ _) L2_small
theorem k5 (ks : List Int) : ∃ D, (diskOf 200 (bytesOf ks L2)).write 0 (⟨#[2]⟩ : ByteArray).data.toList = (D, 0) ∧ OpenS ks D = (none, D, 342) ∧ D.sure.length = 200 ∧ D.pend.length = 1 := by
  have hl := bytesOf_length ks L2
  rw [lenL_2] at hl
  obtain ⟨b, t, hb⟩ : ∃ b t, bytesOf ks L2 = b :: t := by
    cases h : bytesOf ks L2 with
    | nil => rw [h] at hl; simp at hl
    | cons b t => exact ⟨b, t, rfl⟩
  rw [hb] at hl
  have e := write_on (diskOf 200 (b :: t)) [] [b] (t ++ List.replicate (200 - (b :: t).length) 0) [2] 0 rfl rfl rfl (by unfold diskOf; simp) rfl rfl
  rw [hb]
  exact ⟨_, e, open_bad ks _ rfl 2 (t ++ List.replicate (200 - (b :: t).length) 0) (by simp) (by decide) (by decide), diskOf_size _ _ (by omega), rfl⟩
theorem room_of (ks : List Int) (n : Nat) (l : List (List UInt8)) (h : lenL l ≤ n) : (diskOf n (bytesOf ks l)).sure.length - (tapeOf ks l).size = n - lenL l := by
  rw [diskOf_size _ _ (by rw [bytesOf_length]; exact h), tapeOf_size, bytesOf_length]
theorem size_le (ks : List Int) (n : Nat) (l : List (List UInt8)) (h : lenL l ≤ n) : (tapeOf ks l).size ≤ (diskOf n (bytesOf ks l)).sure.length := by
  rw [diskOf_size _ _ (by rw [bytesOf_length]; exact h), tapeOf_size, bytesOf_length]; exact h
theorem recs_le (ks : List Int) (l : List (List UInt8)) (h : l.length ≤ 1000000000) : (tapeOf ks l).recs.length ≤ 1000000000 := by rw [tapeOf_recs]; exact h
theorem conv_zeros (w : World) (n g : Nat) (h : Blk w g 5 (bCells (List.replicate n 0))) : (Go.convert 39 9 (.slice (some ⟨g, 0, none⟩) n n)).run Tryz.prog w = .ok (.string (zs n)) w := by
  have hcv := run_conv_bytes h 39 5 9 Tryz.underlying39 Tryz.underlying5 Tryz.underlying9 0 n n (by simp)
  rw [show (List.drop 0 (List.replicate n (0 : UInt8))).take n = List.replicate n 0 by simp] at hcv
  exact hcv
end Go.Proofs.YtafjolibfbccbaaGreatDoor
