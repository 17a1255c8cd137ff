/-
  journal.open: the records of a content, or an error.
-/
import Derived.Test.YtafjolibfbccbaaGreatDoorKLoad
import Derived.Test.YtafjolibfbccbaaGreatDoorKIs
import Derived.Test.YtafjolibfbccbaaGreatDoorDiskB
import Derived.Defers
import Derived.Recover
namespace Go.Proofs.YtafjolibfbccbaaGreatDoor
open Go.RowKit
set_option maxRecDepth 100000
set_option maxHeartbeats 4000000

theorem open1_has (v : Value) (xT : TypeId) (w : World) : (Instr.typeAssert (.iface 222 v) xT 80 true).run Tryz.prog w = .ok (.tuple #[.iface 222 v, .bool true]) w := run_typeAssert_hasB Tryz.underlying80 (by kernel_rfl) v xT w
theorem open1_lacks (xT : TypeId) (w : World) : (Instr.typeAssert .nilIface xT 80 true).run Tryz.prog w = .ok (.tuple #[.nilIface, .bool false]) w := by kernel_rfl
theorem open1_idle (pj pe : Addr) (w : World) :
    CallsD Tryz.prog 76 #[.pointer (some pj), .pointer (some pe)] .returning w fun e u' w' => e = .returned (.tuple #[]) ∧ u' = .returning ∧ w' = w := by
  have hl := open1_lacks
  refine callsD_of_wpS Tryz.func76 rfl fun c₀ cs hu => ?_
  simp only [Tryz.ntmps76, List.size_toArray, List.length_cons, List.length_nil, Nat.reduceAdd, Nat.reduceSub, Array.replicate_succ, Array.replicate_zero, List.push_toArray, List.append_toArray, List.nil_append, List.cons_append]
  apply wpS_seq
  apply wpS_region
  simp [wpOpsS, go_sem, recoverD, hu, Exit.thenS, hl]
  refine wpS_of_wp ?_
  go_wp2_with fail
  refine ⟨rfl, .returning, by cases c₀; simp_all, _, results_none rfl _ _ _, rfl, rfl, rfl⟩
theorem open1_catch (gj ge : Nat) (a0 : Addr) (vj ve : Value) (w : World) (he : ErrAt w a0) (cj : w.cell? ⟨gj, 0, none⟩ = some vj) (ce : w.cell? ⟨ge, 0, none⟩ = some ve) (fj : w.frozen? ⟨gj, 0, none⟩ = false) (fe : w.frozen? ⟨ge, 0, none⟩ = false) (hne : gj ≠ ge) :
    CallsD Tryz.prog 76 #[.pointer (some ⟨gj, 0, none⟩), .pointer (some ⟨ge, 0, none⟩)] (.panicking [{ v := damagedV a0, recovered := false }]) w fun e u' w' =>
      e = .returned (.tuple #[]) ∧ u' = .panicking [{ v := damagedV a0, recovered := true }] ∧ w' = (w.setCell ⟨gj, 0, none⟩ (.pointer none)).setCell ⟨ge, 0, none⟩ (.int .i64 342) := by
  have hl := open1_has
  have hc : w.cell? ⟨(0 : Nat), 0, none⟩ = some (.iface 222 (.pointer (some a0))) := he
  unfold damagedV
  refine callsD_of_wpS Tryz.func76 rfl fun c₀ cs hu => ?_
  simp only [Tryz.ntmps76, List.size_toArray, List.length_cons, List.length_nil, Nat.reduceAdd, Nat.reduceSub, Array.replicate_succ, Array.replicate_zero, List.push_toArray, List.append_toArray, List.nil_append, List.cons_append]
  apply wpS_seq
  apply wpS_region
  simp [wpOpsS, go_sem, recoverD, hu, Exit.thenS, hl]
  refine wpS_of_wp ?_
  go_wp2_with fail
  refine (is_same a0 w).mono ?_
  rintro e w' ⟨rfl, rfl⟩
  go_wp2_with fail
  exact ⟨rfl, _, rfl, _, results_none rfl _ _ _, rfl, rfl, rfl⟩
theorem IsTape.less {w : World} {base base' tb tt : Nat} {T : TapeS} {rest : List Value} (h : IsTape w base tb tt T rest) (hb : base' ≤ base) : IsTape w base' tb tt T rest := by
  obtain ⟨A, c, h0, hB, hO⟩ := h
  exact ⟨A, c, by omega, hB, it_own_less hO hb⟩
/-- A tape without records. -/
def tape0 : TapeS := ⟨[], List.replicate 32 0, 0⟩
/-- The journal at jb: its tape, its disk, and that it is not broken. -/
def IsJournal (w : World) (base jb g : Nat) (T : TapeS) (broken : Bool) : Prop := IsTape w base jb 74 T [.pointer (some ⟨g, 0, none⟩), .bool broken]
def OpenPost (ks : List Int) (bs : List UInt8) (g : Nat) (w : World) (e : Ending) (w' : World) : Prop :=
  Below w.heap.size w w' ∧ match loadS ks bs (bs.length + 1) tape0 with
    | some T => ∃ jb, e = .returned (.tuple #[.pointer (some ⟨jb, 0, none⟩), .int .i64 0]) ∧ IsJournal w' w.heap.size jb g T false
    | none => e = .returned (.tuple #[.pointer none, .int .i64 342])
set_option maxHeartbeats 40000000 in
theorem open_any (g : Nat) (s : ByteArray) (bs : List UInt8) (a0 : Addr) (ks : List Int) (w : World) (hk : RoundAt w ks) (hkl : ks.length = 64) (he : ErrAt w a0) (hb : s.data.toList = bs) (hs : s.size ≤ 100000000) :
    Calls Tryz.prog 54 #[.pointer (some ⟨g, 0, none⟩), .string s] w (OpenPost ks bs g w) := by
  have hmf : ∀ (fn : Fn) (first cap : Array Value) (w : World), (Instr.makeFunc fn first cap).run Tryz.prog w = .ok (.func fn first cap) w := fun _ _ _ _ => rfl
  have hmk := make_bytes 32 (by decide)
  have HK := hide hk
  have HKL := hide hkl
  have HE := hide he
  have HB := hide hb
  have HS := hide hs
  have HMK := hide hmk
  clear hk hkl he hb hs hmk
  go_enter_defers Tryz.func54, Tryz.ntmps54
  go_upto_region 2 with fail
  obtain ⟨w1, hw⟩ : ∃ x, (w.alloc (.cells #[.pointer none] 28)).alloc (.cells #[.int .i64 0] 33) = x := ⟨_, rfl⟩
  have BJ := hide (show Blk w1 w.heap.size 28 [.pointer none] by rw [← hw]; exact (Blk.new w _ _).alloc _)
  have BE := hide (show Blk w1 (w.heap.size + 1) 33 [.int .i64 0] by
    rw [← hw]
    have h9 := Blk.new (w.alloc (.cells #[.pointer none] 28)) 33 [.int .i64 0]
    rw [World.size_alloc] at h9
    exact h9)
  have S1 := hide (show w1.heap.size = w.heap.size + 2 by rw [← hw]; simp)
  have U1 := hide (show Upd [] w w1 by rw [← hw]; exact ((Upd.refl [] _).alloc _).alloc _)
  rw [hw]
  clear hw
  have hmk := HMK.out w1
  obtain ⟨w2, hw⟩ : ∃ x, w1.alloc (.cells (bCells (List.replicate 32 0)).toArray 5) = x := ⟨_, rfl⟩
  have u : Upd [] w1 w2 := by rw [← hw]; exact (Upd.refl [] _).alloc _
  have B2 := Blk.new w1 5 (bCells (List.replicate 32 0))
  rw [hw] at hmk B2
  have hcv := run_conv_bytes B2 39 5 9 Tryz.underlying39 Tryz.underlying5 Tryz.underlying9 0 32 32 (by decide)
  replace BJ := hide (keepB BJ.out u)
  replace BE := hide (keepB BE.out u)
  replace U1 := hide (U1.out.trans u (by simp))
  have S2 := hide (show w2.heap.size = w.heap.size + 3 by rw [← hw, World.size_alloc, S1.out])
  rw [S1.out] at hmk hcv
  replace hmk : (Instr.makeSlice 39 (.int .i64 32) (.int .i64 32)).run Tryz.prog w1 = .ok (.slice (some ⟨w.heap.size + 2, 0, none⟩) 32 32) w2 := hmk
  rw [show (List.drop 0 (List.replicate 32 (0 : UInt8))).take 32 = List.replicate 32 0 from rfl] at hcv
  obtain ⟨zb, hzb⟩ : ∃ x : ByteArray, ⟨(List.replicate 32 (0 : UInt8)).toArray⟩ = x := ⟨_, rfl⟩
  rw [hzb] at hcv
  have HZ := hide hzb
  have fj := (BJ.out.alloc (.cells #[.slice none 0 0, .string zb, .int .i64 0, .pointer (some ⟨g, 0, none⟩), .bool false] 74)).frozen 0
  have cj := ((BJ.out.alloc (.cells #[.slice none 0 0, .string zb, .int .i64 0, .pointer (some ⟨g, 0, none⟩), .bool false] 74)).cell 0).trans (show _ = some (Value.pointer none) from rfl)
  clear hw u B2 hzb
  go_upto_region 3 with fail
  rw [S2.out]
  obtain ⟨w3, hw⟩ : ∃ x, (w2.alloc (.cells #[.slice none 0 0, .string zb, .int .i64 0, .pointer (some ⟨g, 0, none⟩), .bool false] 74)).setCell ⟨w.heap.size, 0, none⟩ (.pointer (some ⟨w.heap.size + 3, 0, none⟩)) = x := ⟨_, rfl⟩
  have BN := hide (show Blk w3 (w.heap.size + 3) 74 [.slice none 0 0, .string zb, .int .i64 0, .pointer (some ⟨g, 0, none⟩), .bool false] by
    have h9 := Blk.new w2 74 [.slice none 0 0, .string zb, .int .i64 0, .pointer (some ⟨g, 0, none⟩), .bool false]
    rw [S2.out] at h9
    rw [← hw]
    exact h9.far (by simp) _)
  replace BJ := hide (show Blk w3 w.heap.size 28 [.pointer (some ⟨w.heap.size + 3, 0, none⟩)] by rw [← hw]; exact (BJ.out.alloc _).set_ 0 _)
  replace BE := hide (show Blk w3 (w.heap.size + 1) 33 [.int .i64 0] by rw [← hw]; exact (BE.out.alloc _).far (by simp) _)
  replace U1 := hide (show Upd [] w w3 by rw [← hw]; exact (U1.out.alloc _).setCell (.inr (Nat.le_refl _)) _)
  rw [hw]
  clear hw hmk hcv fj cj
  have HT := hide (show IsTape w3 (w.heap.size + 2) (w.heap.size + 3) 74 tape0 [.pointer (some ⟨g, 0, none⟩), .bool false] from ⟨none, 0, by omega, by have h9 := BN.out; rw [← HZ.out] at h9; exact h9, World.ownsRow_nil _ _ _ _⟩)
  have hk3 := HK.out.upd U1.out (by simp)
  have he3 : ErrAt w3 a0 := keepc _ _ _ _ U1.out HE.out
  have hkb : 3 < w.heap.size := HK.out.lt
  have heb : 0 < w.heap.size := World.block_lt_of_cell? _ _ HE.out
  have hs3 : w.heap.size + 4 ≤ w3.heap.size := by have := BN.out.lt; omega
  have HL := hide (load_any (w.heap.size + 2) (w.heap.size + 3) 74 tape0 [.pointer (some ⟨g, 0, none⟩), .bool false] s bs a0 ks w3 HT.out (by decide) (by omega) hk3 HKL.out (by omega) he3 (by omega) HB.out HS.out ⟨by simp [tape0], by simp [tape0], by simp [tape0]⟩)
  have cj := (BJ.out.cell 0).trans (show _ = some (Value.pointer (some ⟨w.heap.size + 3, 0, none⟩)) from rfl)
  clear hk3 he3 hkb heb hs3
  go_wp2_with fail
  refine HL.out.mono ?_
  rintro e w4 ⟨hb4, hm4⟩
  have BJ4 := hide (BJ.out.below hb4 (by omega))
  have BE4 := hide (BE.out.below hb4 (by omega))
  have B4 := hide ((U1.out.toBelow (Nat.le_refl _) (by simp)).trans (hb4.mono (Nat.le_add_right _ 2)))
  have hS4 := hb4.size
  clear hb4
  cases hld : loadS ks bs (bs.length + 1) tape0 with
  | none =>
    rw [hld] at hm4
    simp only at hm4
    subst hm4
    have HLD := hide hld
    clear hld cj
    go_wp2_with fail
    refine leaves_cons (f := 76) (args := #[.pointer (some ⟨w.heap.size, 0, none⟩), .pointer (some ⟨w.heap.size + 1, 0, none⟩)]) (by simp) (by simp [go_sem]) ?_
    refine (open1_catch w.heap.size (w.heap.size + 1) a0 _ _ w4 ((B4.out.cell (p := ⟨_, 0, none⟩) (World.block_lt_of_cell? _ _ HE.out)).trans HE.out) ((BJ4.out.cell 0).trans rfl) ((BE4.out.cell 0).trans rfl) (BJ4.out.frozen 0) (BE4.out.frozen 0) (by omega)).mono ?_
    rintro e u' w'' ⟨rfl, rfl, rfl⟩
    have k0 := (((BJ4.out.set_ 0 (.pointer none)).far (p := ⟨w.heap.size + 1, 0, none⟩) (by simp) (.int .i64 342)).cell 0).trans (show _ = some (Value.pointer none) from rfl)
    have k1 := (((BE4.out.far (p := ⟨w.heap.size, 0, none⟩) (by simp) (.pointer none)).set_ 0 (.int .i64 342)).cell 0).trans (show _ = some (Value.int .i64 342) from rfl)
    have hP : OpenPost ks bs g w (.returned (.tuple #[.pointer none, .int .i64 342])) ((w4.setCell ⟨w.heap.size, 0, none⟩ (.pointer none)).setCell ⟨w.heap.size + 1, 0, none⟩ (.int .i64 342)) :=
      ⟨(B4.out.setCell (p := ⟨w.heap.size, 0, none⟩) (Nat.le_refl _) _).setCell (p := ⟨w.heap.size + 1, 0, none⟩) (Nat.le_succ _) _, by rw [HLD.out]⟩
    have HP := hide hP
    clear hP
    simp [Leaves, settle, results, Tryz.results54, go_sem, k0, k1]
    exact HP.out
  | some T =>
    rw [hld] at hm4
    simp only at hm4
    obtain ⟨rfl, hT4⟩ := hm4
    have HLD := hide hld
    have HT4 := hide hT4
    clear hld cj hT4
    have cj4 := (BJ4.out.cell 0).trans (show _ = some (Value.pointer (some ⟨w.heap.size + 3, 0, none⟩)) from rfl)
    have ce4 := (BE4.out.cell 0).trans (show _ = some (Value.int .i64 0) from rfl)
    have fj4 := BJ4.out.frozen 0
    have fe4 := BE4.out.frozen 0
    go_wp2_with fail
    obtain ⟨w5, hw⟩ : ∃ x, (w4.setCell ⟨w.heap.size, 0, none⟩ (.pointer (some ⟨w.heap.size + 3, 0, none⟩))).setCell ⟨w.heap.size + 1, 0, none⟩ (.int .i64 0) = x := ⟨_, rfl⟩
    have k0 := (((BJ4.out.set_ 0 (.pointer (some ⟨w.heap.size + 3, 0, none⟩))).far (p := ⟨w.heap.size + 1, 0, none⟩) (by simp) (.int .i64 0)).cell 0).trans (show _ = some (Value.pointer (some ⟨w.heap.size + 3, 0, none⟩)) from rfl)
    have k1 := (((BE4.out.far (p := ⟨w.heap.size, 0, none⟩) (by simp) (.pointer (some ⟨w.heap.size + 3, 0, none⟩))).set_ 0 (.int .i64 0)).cell 0).trans (show _ = some (Value.int .i64 0) from rfl)
    have B5 : Below w.heap.size w w5 := by rw [← hw]; exact (B4.out.setCell (p := ⟨w.heap.size, 0, none⟩) (Nat.le_refl _) _).setCell (p := ⟨w.heap.size + 1, 0, none⟩) (Nat.le_succ _) _
    have u5 : Upd [w.heap.size, w.heap.size + 1] w4 w5 := by rw [← hw]; exact ((Upd.refl _ _).setCell (.inl (by simp)) _).setCell (.inl (by simp)) _
    rw [hw] at k0 k1 ⊢
    have hP : OpenPost ks bs g w (.returned (.tuple #[.pointer (some ⟨w.heap.size + 3, 0, none⟩), .int .i64 0])) w5 :=
      ⟨B5, by rw [HLD.out]; exact ⟨_, rfl, (HT4.out.upd u5 (by simp) (by simp) (by decide)).less (by omega)⟩⟩
    have HP := hide hP
    clear hP hw u5 B5 cj4 ce4 fj4 fe4
    refine leaves_cons (f := 76) (args := #[.pointer (some ⟨w.heap.size, 0, none⟩), .pointer (some ⟨w.heap.size + 1, 0, none⟩)]) (by simp) (by simp [go_sem]) ?_
    refine (open1_idle _ _ w5).mono ?_
    rintro e u' w'' ⟨rfl, rfl, rfl⟩
    simp [Leaves, settle, results, Tryz.results54, go_sem, k0, k1]
    exact HP.out
end Go.Proofs.YtafjolibfbccbaaGreatDoor
