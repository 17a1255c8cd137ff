/-
  journal.open: the records of a content, or an error.
  journal.Open: the journal of a disk.
-/
import Derived.Test.YtafjolibfbccbaaGreatDoorZ24JournalOpensAnythingCard
import Derived.Test.YtafjolibfbccbaaGreatDoorKIs
import Derived.Test.YtafjolibfbccbaaGreatDoorZ3JournalOpensAnythingCard
import Derived.Defers
import Derived.Recover
import Derived.Test.YtafjolibfbccbaaGreatDoorZ18JournalOpensAnythingCard

namespace Go.Proofs.YtafjolibfbccbaaGreatDoor
open Go.RowKit
set_option maxRecDepth 100000
set_option maxHeartbeats 4000000

theorem open1_has (v : Value) (xT : TypeId) (w : World) : (Instr.typeAssert (.iface 222 v) xT 80 true).run Tryz.prog w = .ok (.tuple #[.iface 222 v, .bool true]) w := run_typeAssert_hasB Tryz.underlying80 (by kernel_rfl) v xT w
theorem open1_lacks (xT : TypeId) (w : World) : (Instr.typeAssert .nilIface xT 80 true).run Tryz.prog w = .ok (.tuple #[.nilIface, .bool false]) w := by kernel_rfl
theorem open1_idle (pj pe : Addr) (w : World) :
    CallsD Tryz.prog 76 #[.pointer (some pj), .pointer (some pe)] .returning w fun e u' w' => e = .returned (.tuple #[]) ∧ u' = .returning ∧ w' = w := by
  have hl := open1_lacks
  refine callsD_of_wpS Tryz.func76 rfl fun c₀ cs hu => ?_
  simp only [Tryz.ntmps76, List.size_toArray, List.length_cons, List.length_nil, Nat.reduceAdd, Nat.reduceSub, Array.replicate_succ, Array.replicate_zero, List.push_toArray, List.append_toArray, List.nil_append, List.cons_append]
  apply wpS_seq
  apply wpS_region
  simp [wpOpsS, go_sem, recoverD, hu, Exit.thenS, hl]
  refine wpS_of_wp ?_
  go_wp2_with fail
  refine ⟨rfl, .returning, by cases c₀; simp_all, _, results_none rfl _ _ _, rfl, rfl, rfl⟩
theorem open1_catch (gj ge : Nat) (a0 : Addr) (vj ve : Value) (w : World) (he : ErrAt w a0) (cj : w.cell? ⟨gj, 0, none⟩ = some vj) (ce : w.cell? ⟨ge, 0, none⟩ = some ve) (fj : w.frozen? ⟨gj, 0, none⟩ = false) (fe : w.frozen? ⟨ge, 0, none⟩ = false) (hne : gj ≠ ge) :
    CallsD Tryz.prog 76 #[.pointer (some ⟨gj, 0, none⟩), .pointer (some ⟨ge, 0, none⟩)] (.panicking [{ v := damagedV a0, recovered := false }]) w fun e u' w' =>
      e = .returned (.tuple #[]) ∧ u' = .panicking [{ v := damagedV a0, recovered := true }] ∧ w' = (w.setCell ⟨gj, 0, none⟩ (.pointer none)).setCell ⟨ge, 0, none⟩ (.int .i64 342) := by
  have hl := open1_has
  have hc : w.cell? ⟨(0 : Nat), 0, none⟩ = some (.iface 222 (.pointer (some a0))) := he
  unfold damagedV
  refine callsD_of_wpS Tryz.func76 rfl fun c₀ cs hu => ?_
  simp only [Tryz.ntmps76, List.size_toArray, List.length_cons, List.length_nil, Nat.reduceAdd, Nat.reduceSub, Array.replicate_succ, Array.replicate_zero, List.push_toArray, List.append_toArray, List.nil_append, List.cons_append]
  apply wpS_seq
  apply wpS_region
  simp [wpOpsS, go_sem, recoverD, hu, Exit.thenS, hl]
  refine wpS_of_wp ?_
  go_wp2_with fail
  refine (is_same a0 w).mono ?_
  rintro e w' ⟨rfl, rfl⟩
  go_wp2_with fail
  exact ⟨rfl, _, rfl, _, results_none rfl _ _ _, rfl, rfl, rfl⟩
theorem IsTape.less {w : World} {base base' tb tt : Nat} {T : TapeS} {rest : List Value} (h : IsTape w base tb tt T rest) (hb : base' ≤ base) : IsTape w base' tb tt T rest := by
  obtain ⟨A, c, h0, hB, hO⟩ := h
  exact ⟨A, c, by omega, hB, it_own_less hO hb⟩
/-- A tape without records. -/
def tape0 : TapeS := ⟨[], List.replicate 32 0, 0⟩
/-- The journal at jb: its tape, its disk, and that it is not broken. -/
def IsJournal (w : World) (base jb g : Nat) (T : TapeS) (broken : Bool) : Prop := IsTape w base jb 74 T [.pointer (some ⟨g, 0, none⟩), .bool broken]
def OpenPost (ks : List Int) (bs : List UInt8) (g : Nat) (w : World) (e : Ending) (w' : World) : Prop :=
  Below w.heap.size w w' ∧ match loadS ks bs (bs.length + 1) tape0 with
    | some T => ∃ jb, e = .returned (.tuple #[.pointer (some ⟨jb, 0, none⟩), .int .i64 0]) ∧ IsJournal w' w.heap.size jb g T false
    | none => e = .returned (.tuple #[.pointer none, .int .i64 342])
set_option maxHeartbeats 40000000 in
theorem open_any (g : Nat) (s : ByteArray) (bs : List UInt8) (a0 : Addr) (ks : List Int) (w : World) (hk : RoundAt w ks) (hkl : ks.length = 64) (he : ErrAt w a0) (hb : s.data.toList = bs) (hs : s.size ≤ 100000000) :
    Calls Tryz.prog 54 #[.pointer (some ⟨g, 0, none⟩), .string s] w (OpenPost ks bs g w) := by
  have hmf : ∀ (fn : Fn) (first cap : Array Value) (w : World), (Instr.makeFunc fn first cap).run Tryz.prog w = .ok (.func fn first cap) w := fun _ _ _ _ => rfl
  have hmk := make_bytes 32 (by decide)
  have HK := hide hk
  have HKL := hide hkl
  have HE := hide he
  have HB := hide hb
  have HS := hide hs
  have HMK := hide hmk
  clear hk hkl he hb hs hmk
  go_enter_defers Tryz.func54, Tryz.ntmps54
  go_upto_region 2 with fail
  obtain ⟨w1, hw⟩ : ∃ x, (w.alloc (.cells #[.pointer none] 28)).alloc (.cells #[.int .i64 0] 33) = x := ⟨_, rfl⟩
  have BJ := hide (show Blk w1 w.heap.size 28 [.pointer none] by rw [← hw]; exact (Blk.new w _ _).alloc _)
  have BE := hide (show Blk w1 (w.heap.size + 1) 33 [.int .i64 0] by
    rw [← hw]
    have h9 := Blk.new (w.alloc (.cells #[.pointer none] 28)) 33 [.int .i64 0]
    rw [World.size_alloc] at h9
    exact h9)
  have S1 := hide (show w1.heap.size = w.heap.size + 2 by rw [← hw]; simp)
  have U1 := hide (show Upd [] w w1 by rw [← hw]; exact ((Upd.refl [] _).alloc _).alloc _)
  rw [hw]
  clear hw
  have hmk := HMK.out w1
  obtain ⟨w2, hw⟩ : ∃ x, w1.alloc (.cells (bCells (List.replicate 32 0)).toArray 5) = x := ⟨_, rfl⟩
  have u : Upd [] w1 w2 := by rw [← hw]; exact (Upd.refl [] _).alloc _
  have B2 := Blk.new w1 5 (bCells (List.replicate 32 0))
  rw [hw] at hmk B2
  have hcv := run_conv_bytes B2 39 5 9 Tryz.underlying39 Tryz.underlying5 Tryz.underlying9 0 32 32 (by decide)
  replace BJ := hide (keepB BJ.out u)
  replace BE := hide (keepB BE.out u)
  replace U1 := hide (U1.out.trans u (by simp))
  have S2 := hide (show w2.heap.size = w.heap.size + 3 by rw [← hw, World.size_alloc, S1.out])
  rw [S1.out] at hmk hcv
  replace hmk : (Instr.makeSlice 39 (.int .i64 32) (.int .i64 32)).run Tryz.prog w1 = .ok (.slice (some ⟨w.heap.size + 2, 0, none⟩) 32 32) w2 := hmk
  rw [show (List.drop 0 (List.replicate 32 (0 : UInt8))).take 32 = List.replicate 32 0 from rfl] at hcv
  obtain ⟨zb, hzb⟩ : ∃ x : ByteArray, ⟨(List.replicate 32 (0 : UInt8)).toArray⟩ = x := ⟨_, rfl⟩
  rw [hzb] at hcv
  have HZ := hide hzb
  have fj := (BJ.out.alloc (.cells #[.slice none 0 0, .string zb, .int .i64 0, .pointer (some ⟨g, 0, none⟩), .bool false] 74)).frozen 0
  have cj := ((BJ.out.alloc (.cells #[.slice none 0 0, .string zb, .int .i64 0, .pointer (some ⟨g, 0, none⟩), .bool false] 74)).cell 0).trans (show _ = some (Value.pointer none) from rfl)
  clear hw u B2 hzb
  go_upto_region 3 with fail
  rw [S2.out]
  obtain ⟨w3, hw⟩ : ∃ x, (w2.alloc (.cells #[.slice none 0 0, .string zb, .int .i64 0, .pointer (some ⟨g, 0, none⟩), .bool false] 74)).setCell ⟨w.heap.size, 0, none⟩ (.pointer (some ⟨w.heap.size + 3, 0, none⟩)) = x := ⟨_, rfl⟩
  have BN := hide (show Blk w3 (w.heap.size + 3) 74 [.slice none 0 0, .string zb, .int .i64 0, .pointer (some ⟨g, 0, none⟩), .bool false] by
    have h9 := Blk.new w2 74 [.slice none 0 0, .string zb, .int .i64 0, .pointer (some ⟨g, 0, none⟩), .bool false]
    rw [S2.out] at h9
    rw [← hw]
    exact h9.far (by simp) _)
  replace BJ := hide (show Blk w3 w.heap.size 28 [.pointer (some ⟨w.heap.size + 3, 0, none⟩)] by rw [← hw]; exact (BJ.out.alloc _).set_ 0 _)
  replace BE := hide (show Blk w3 (w.heap.size + 1) 33 [.int .i64 0] by rw [← hw]; exact (BE.out.alloc _).far (by simp) _)
  replace U1 := hide (show Upd [] w w3 by rw [← hw]; exact (U1.out.alloc _).setCell (.inr (Nat.le_refl _)) _)
  rw [hw]
  clear hw hmk hcv fj cj
  have HT := hide (show IsTape w3 (w.heap.size + 2) (w.heap.size + 3) 74 tape0 [.pointer (some ⟨g, 0, none⟩), .bool false] from ⟨none, 0, by omega, by have h9 := BN.out; rw [← HZ.out] at h9; exact h9, World.ownsRow_nil _ _ _ _⟩)
  have hk3 := HK.out.upd U1.out (by simp)
  have he3 : ErrAt w3 a0 := keepc _ _ _ _ U1.out HE.out
  have hkb : 3 < w.heap.size := HK.out.lt
  have heb : 0 < w.heap.size := World.block_lt_of_cell? _ _ HE.out
  have hs3 : w.heap.size + 4 ≤ w3.heap.size := by have := BN.out.lt; omega
  have HL := hide (load_any (w.heap.size + 2) (w.heap.size + 3) 74 tape0 [.pointer (some ⟨g, 0, none⟩), .bool false] s bs a0 ks w3 HT.out (by decide) (by omega) hk3 HKL.out (by omega) he3 (by omega) HB.out HS.out ⟨by simp [tape0], by simp [tape0], by simp [tape0]⟩)
  have cj := (BJ.out.cell 0).trans (show _ = some (Value.pointer (some ⟨w.heap.size + 3, 0, none⟩)) from rfl)
  clear hk3 he3 hkb heb hs3
  go_wp2_with fail
  refine HL.out.mono ?_
  rintro e w4 ⟨hb4, hm4⟩
  have BJ4 := hide (BJ.out.below hb4 (by omega))
  have BE4 := hide (BE.out.below hb4 (by omega))
  have B4 := hide ((U1.out.toBelow (Nat.le_refl _) (by simp)).trans (hb4.mono (Nat.le_add_right _ 2)))
  have hS4 := hb4.size
  clear hb4
  cases hld : loadS ks bs (bs.length + 1) tape0 with
  | none =>
    rw [hld] at hm4
    simp only at hm4
    subst hm4
    have HLD := hide hld
    clear hld cj
    go_wp2_with fail
    refine leaves_cons (f := 76) (args := #[.pointer (some ⟨w.heap.size, 0, none⟩), .pointer (some ⟨w.heap.size + 1, 0, none⟩)]) (by simp) (by simp [go_sem]) ?_
    refine (open1_catch w.heap.size (w.heap.size + 1) a0 _ _ w4 ((B4.out.cell (p := ⟨_, 0, none⟩) (World.block_lt_of_cell? _ _ HE.out)).trans HE.out) ((BJ4.out.cell 0).trans rfl) ((BE4.out.cell 0).trans rfl) (BJ4.out.frozen 0) (BE4.out.frozen 0) (by omega)).mono ?_
    rintro e u' w'' ⟨rfl, rfl, rfl⟩
    have k0 := (((BJ4.out.set_ 0 (.pointer none)).far (p := ⟨w.heap.size + 1, 0, none⟩) (by simp) (.int .i64 342)).cell 0).trans (show _ = some (Value.pointer none) from rfl)
    have k1 := (((BE4.out.far (p := ⟨w.heap.size, 0, none⟩) (by simp) (.pointer none)).set_ 0 (.int .i64 342)).cell 0).trans (show _ = some (Value.int .i64 342) from rfl)
    have hP : OpenPost ks bs g w (.returned (.tuple #[.pointer none, .int .i64 342])) ((w4.setCell ⟨w.heap.size, 0, none⟩ (.pointer none)).setCell ⟨w.heap.size + 1, 0, none⟩ (.int .i64 342)) :=
      ⟨(B4.out.setCell (p := ⟨w.heap.size, 0, none⟩) (Nat.le_refl _) _).setCell (p := ⟨w.heap.size + 1, 0, none⟩) (Nat.le_succ _) _, by rw [HLD.out]⟩
    have HP := hide hP
    clear hP
    simp [Leaves, settle, results, Tryz.results54, go_sem, k0, k1]
    exact HP.out
  | some T =>
    rw [hld] at hm4
    simp only at hm4
    obtain ⟨rfl, hT4⟩ := hm4
    have HLD := hide hld
    have HT4 := hide hT4
    clear hld cj hT4
    have cj4 := (BJ4.out.cell 0).trans (show _ = some (Value.pointer (some ⟨w.heap.size + 3, 0, none⟩)) from rfl)
    have ce4 := (BE4.out.cell 0).trans (show _ = some (Value.int .i64 0) from rfl)
    have fj4 := BJ4.out.frozen 0
    have fe4 := BE4.out.frozen 0
    go_wp2_with fail
    obtain ⟨w5, hw⟩ : ∃ x, (w4.setCell ⟨w.heap.size, 0, none⟩ (.pointer (some ⟨w.heap.size + 3, 0, none⟩))).setCell ⟨w.heap.size + 1, 0, none⟩ (.int .i64 0) = x := ⟨_, rfl⟩
    have k0 := (((BJ4.out.set_ 0 (.pointer (some ⟨w.heap.size + 3, 0, none⟩))).far (p := ⟨w.heap.size + 1, 0, none⟩) (by simp) (.int .i64 0)).cell 0).trans (show _ = some (Value.pointer (some ⟨w.heap.size + 3, 0, none⟩)) from rfl)
    have k1 := (((BE4.out.far (p := ⟨w.heap.size, 0, none⟩) (by simp) (.pointer (some ⟨w.heap.size + 3, 0, none⟩))).set_ 0 (.int .i64 0)).cell 0).trans (show _ = some (Value.int .i64 0) from rfl)
    have B5 : Below w.heap.size w w5 := by rw [← hw]; exact (B4.out.setCell (p := ⟨w.heap.size, 0, none⟩) (Nat.le_refl _) _).setCell (p := ⟨w.heap.size + 1, 0, none⟩) (Nat.le_succ _) _
    have u5 : Upd [w.heap.size, w.heap.size + 1] w4 w5 := by rw [← hw]; exact ((Upd.refl _ _).setCell (.inl (by simp)) _).setCell (.inl (by simp)) _
    rw [hw] at k0 k1 ⊢
    have hP : OpenPost ks bs g w (.returned (.tuple #[.pointer (some ⟨w.heap.size + 3, 0, none⟩), .int .i64 0])) w5 :=
      ⟨B5, by rw [HLD.out]; exact ⟨_, rfl, (HT4.out.upd u5 (by simp) (by simp) (by decide)).less (by omega)⟩⟩
    have HP := hide hP
    clear hP hw u5 B5 cj4 ce4 fj4 fe4
    refine leaves_cons (f := 76) (args := #[.pointer (some ⟨w.heap.size, 0, none⟩), .pointer (some ⟨w.heap.size + 1, 0, none⟩)]) (by simp) (by simp [go_sem]) ?_
    refine (open1_idle _ _ w5).mono ?_
    rintro e u' w'' ⟨rfl, rfl, rfl⟩
    simp [Leaves, settle, results, Tryz.results54, go_sem, k0, k1]
    exact HP.out
end Go.Proofs.YtafjolibfbccbaaGreatDoor

namespace Go.Proofs.YtafjolibfbccbaaGreatDoor
open Go.RowKit
set_option maxRecDepth 100000
set_option maxHeartbeats 40000000

/-- What Open makes of a disk: the tape, the disk behind it, the error. -/
def OpenS (ks : List Int) (D : DiskS) : Option TapeS × DiskS × Int :=
  if D.off = true then (none, D, 331) else match loadS ks D.vis (D.vis.length + 1) tape0 with
  | none => (none, D, 342)
  | some T => if Lib.trimB (D.vis.drop T.size) 0 = [] then (some T, D, 0) else
      let r := runOps D [.write (T.size : Int) ⟨(List.replicate (D.vis.length - T.size) 0).toArray⟩, .sync]
      if r.2 ≠ 0 then (none, r.1, r.2) else (some T, r.1, 0)
theorem IsDisk.lt_ {w : World} {F : List Nat} {g : Nat} {D : DiskS} (h : IsDisk w F g D) : ∀ k ∈ F, k < w.heap.size := by
  obtain ⟨_, _, _, _, h⟩ := h
  exact h.lt
def OpenJPost (ks : List Int) (g : Nat) (F : List Nat) (D : DiskS) (w : World) (e : Ending) (w' : World) : Prop :=
  Moved F w w' g (OpenS ks D).2.1 ∧ match (OpenS ks D).1 with
    | some T => ∃ jb A c F', e = .returned (.tuple #[.pointer (some ⟨jb, 0, none⟩), .int .i64 0]) ∧ IsTapeAt w' w.heap.size jb 74 A c T [.pointer (some ⟨g, 0, none⟩), .bool false] ∧ IsDisk w' F' g (OpenS ks D).2.1 ∧ (∀ k ∈ F', k ∈ F ∨ w.heap.size ≤ k) ∧ (∀ k ∈ jb :: (A.map (·.block)).toList, k ∉ F')
    | none => e = .returned (.tuple #[.pointer none, .int .i64 (OpenS ks D).2.2])
theorem loadS_size (ks : List Int) (bs : List UInt8) : ∀ (f : Nat) (T0 T : TapeS), loadS ks bs f T0 = some T → T0.size ≤ bs.length → T.size ≤ bs.length := by
  intro f
  induction f with
  | zero => intro T0 T h h0; simp [loadS] at h; rw [← h]; exact h0
  | succ f ih =>
    intro T0 T h h0
    rw [loadS] at h
    split at h
    · split at h
      · rename_i h1 h2
        refine ih _ T h ?_
        obtain ⟨_, _, h3, h4⟩ := h2
        have h5 := congrArg List.length h4
        rw [List.length_take, List.length_drop] at h5
        unfold storedS at h5
        unfold TapeS.add
        simp only [List.length_cons, List.length_append, chainS_length] at h5 ⊢
        omega
      · cases h
    · simp only [Option.some.injEq] at h
      rw [← h]; exact h0
theorem open_journal {F : List Nat} {D : DiskS} (g : Nat) (a0 : Addr) (ks : List Int) (w : World) (hD : IsDisk w F g D) (hp : D.pend.length ≤ 10000000) (hk : RoundAt w ks) (hkl : ks.length = 64) (he : ErrAt w a0) :
    Calls Tryz.prog 25 #[.pointer (some ⟨g, 0, none⟩)] w (OpenJPost ks g F D w) := by
  obtain ⟨gd, gv, DA, dc, hDA⟩ := hD
  have hD : IsDisk w F g D := ⟨_, _, _, _, hDA⟩
  have HFL := hide hD.lt_
  obtain ⟨N, hN⟩ : ∃ N, D.sure.length = N := ⟨_, rfl⟩
  have hOk := hDA.ok
  have hNm : N ≤ 4194304 := by rw [← hN]; exact hOk.max
  have hvl : D.vis.length = N := by rw [← hN]; exact hOk.len
  have HSZ := hide (size_any w (hDA.head.cell 2))
  rw [hN] at HSZ
  have HRD := hide (read_any 0 (N : Int) w hD)
  have HD := hide hD
  have HK := hide hk
  have HKL := hide hkl
  have HE := hide he
  have HP := hide hp
  have HVL := hide hvl
  have HN := hide hN
  clear hDA hD hOk hk hkl he hp hvl hN
  obtain ⟨off, hoff⟩ : ∃ x, D.off = x := ⟨_, rfl⟩
  cases off with
  | true =>
    have HOF := hide (show OpenS ks D = (none, D, 331) by unfold OpenS; rw [if_pos hoff])
    have hrd : D.read 0 (N : Int) = ([], 331) := by unfold DiskS.read; rw [if_pos hoff]
    rw [hrd] at HRD
    clear hrd hoff
    go_enter Tryz.func25, Tryz.ntmps25
    go_wp2_with fail
    refine HSZ.out.mono ?_
    rintro e w' ⟨rfl, rfl⟩
    go_wp2_with fail
    refine HRD.out.mono ?_
    rintro e w' ⟨rfl, rfl⟩
    go_wp2_with fail
    refine bodyPost_ret (v := .tuple #[.pointer none, .int .i64 331]) (by simp [results, Tryz.results25, go_sem]) rfl ?_
    unfold OpenJPost
    rw [HOF.out]
    exact ⟨⟨F, HD.out, Upd.refl _ _, fun _ hk => .inl hk⟩, rfl⟩
  | false =>
    have hrd : D.read 0 (N : Int) = (D.vis, 0) := by
      unfold DiskS.read inB
      rw [if_neg (by simp [hoff]), HN.out, if_pos (by simp)]
      simp only [Int.toNat_natCast, List.drop_zero, Int.toNat_zero]
      rw [List.take_of_length_le (by have := HVL.out; omega)]
    rw [hrd] at HRD
    have HOF := hide hoff
    clear hrd hoff
    obtain ⟨s, hs⟩ : ∃ s : ByteArray, ⟨D.vis.toArray⟩ = s := ⟨_, rfl⟩
    rw [hs] at HRD
    have hsb : s.data.toList = D.vis := by rw [← hs]
    have hsz : s.size = N := by rw [← hs]; show D.vis.toArray.size = N; rw [List.size_toArray]; exact HVL.out
    have HSB := hide hsb
    clear hs hsb
    have HO := hide (open_any g s D.vis a0 ks w HK.out HKL.out HE.out HSB.out (by omega))
    go_enter Tryz.func25, Tryz.ntmps25
    go_wp2_with fail
    refine HSZ.out.mono ?_
    rintro e w' ⟨rfl, rfl⟩
    go_wp2_with fail
    refine HRD.out.mono ?_
    rintro e w' ⟨rfl, rfl⟩
    go_wp2_with fail
    refine HO.out.mono ?_
    rintro e w1 ⟨hb1, hm1⟩
    cases hld : loadS ks D.vis (D.vis.length + 1) tape0 with
    | none =>
      rw [hld] at hm1
      simp only at hm1
      subst hm1
      have HOP := hide (show OpenS ks D = (none, D, 342) by unfold OpenS; rw [if_neg (by simp [HOF.out]), hld])
      have HB1 := hide hb1
      clear hld hb1
      go_wp2_with fail
      refine bodyPost_ret (v := .tuple #[.pointer none, .int .i64 342]) (by simp [results, Tryz.results25, go_sem]) rfl ?_
      unfold OpenJPost
      rw [HOP.out]
      have u1 : Upd [] w w1 := (Upd.refl _ _).below HB1.out
      exact ⟨⟨F, HD.out.upd u1 (by simp), u1.mono (by simp), fun _ hk => .inl hk⟩, rfl⟩
    | some T =>
      rw [hld] at hm1
      simp only at hm1
      obtain ⟨jb, rfl, hJ⟩ := hm1
      have hTsz := loadS_size ks D.vis _ tape0 T hld (by simp [tape0])
      obtain ⟨A, c, hjb, hJB, hJO⟩ := hJ
      have u1 : Upd [] w w1 := (Upd.refl _ _).below hb1
      have HLD := hide hld
      have HJB := hide hJB
      have HJO := hide hJO
      have HJL := hide hjb
      clear hld hb1 hJB hJO hjb
      replace HD := hide (HD.out.upd u1 (by simp))
      have HU := hide u1
      clear u1
      obtain ⟨q, hq⟩ : ∃ q, T.size = q := ⟨_, rfl⟩
      have hqN : q ≤ N := by have := HVL.out; omega
      have HQ := hide hq
      have c2 : w1.cell? ⟨jb, 2, none⟩ = some (.int .i64 (q : Int)) := by rw [← hq]; exact (HJB.out.cell 2).trans rfl
      have hsl := fun W => slice_str_l (P := Tryz.prog) W Tryz.underlying9 s HSB.out q (by omega) (q : Int) rfl
      obtain ⟨rs, hrs⟩ : ∃ x : ByteArray, ⟨(D.vis.drop q).toArray⟩ = x := ⟨_, rfl⟩
      rw [hrs] at hsl
      have HTR := hide (Tryz.strings_Trim_one rs 0 (by decide) w1 (by rw [← hrs]; simp [ByteArray.size]; have := HVL.out; omega))
      have hrd : rs.data.toList = D.vis.drop q := by rw [← hrs]
      rw [hrd] at HTR
      have HRS := hide hrd
      clear hq hTsz hrs hrd
      go_wp2_with fail
      refine HTR.out.mono ?_
      rintro e w2 ⟨rfl, hw2⟩
      have u2 : Upd [] w1 w2 := by rcases hw2 with h | h <;> rw [h]; exact Upd.refl _ _; exact (Upd.refl [] _).drew
      clear hw2
      have u := u2
      replace HD := hide (HD.out.upd u (by simp))
      replace HU := hide (HU.out.trans u (by simp))
      replace HJB := hide (keepB HJB.out u)
      replace HJO := hide (own_kept HJO.out u (by simp))
      clear u u2 c2
      obtain ⟨tr, htr⟩ : ∃ x, Lib.trimB (D.vis.drop q) 0 = x := ⟨_, rfl⟩
      rw [htr]
      by_cases hz : tr = []
      case pos =>
        have HOP := hide (show OpenS ks D = (some T, D, 0) by unfold OpenS; rw [if_neg (by simp [HOF.out]), HLD.out]; simp only; rw [HQ.out, htr, if_pos hz])
        subst hz
        clear htr
        go_wp2_with fail
        refine bodyPost_ret (v := .tuple #[.pointer (some ⟨jb, 0, none⟩), .int .i64 0]) (by simp [results, Tryz.results25, go_sem]) rfl ?_
        unfold OpenJPost
        rw [HOP.out]
        exact ⟨⟨F, HD.out, HU.out.mono (by simp), fun _ hk => .inl hk⟩, jb, A, c, F, rfl, ⟨HJL.out, HJB.out, HJO.out⟩, HD.out, fun k hk => .inl hk, fun k hk hF => absurd (HFL.out k hF) (by rcases List.mem_cons.1 hk with rfl | hk; have := HJL.out; omega; have := it_own_block HJO.out k (by rw [ownBlock_slice]; simpa using hk); omega)⟩
      obtain ⟨b, l, hbl⟩ : ∃ b l, tr = b :: l := by
        cases tr with
        | nil => exact absurd rfl hz
        | cons b l => exact ⟨b, l, rfl⟩
      have HNZ := hide (show Lib.trimB (D.vis.drop T.size) 0 ≠ [] by rw [HQ.out, htr]; exact hz)
      subst hbl
      clear hz htr
      go_upto_region 10 with fail
      obtain ⟨nz, hnz⟩ : ∃ x, N - q = x := ⟨_, rfl⟩
      have hsub : IntKind.i64.wrap ((N : Int) - (q : Int)) = (nz : Int) := by rw [Go.IntWalk.i64_in _ (by omega)]; omega
      have HNZ2 := hide hnz
      have hnzm : nz ≤ 4194304 := by omega
      have hmf : ∀ (fn : Fn) (first cap : Array Value) (w : World), (Instr.makeFunc fn first cap).run Tryz.prog w = .ok (.func fn first cap) w := fun _ _ _ _ => rfl
      clear hnz
      refine wp_region_held_drew (S := (fun w' => w'.cell? ⟨jb, 2, none⟩ = some (.int .i64 (q : Int)))) (by kernel_rfl) (by exact (show _ = some (Value.int .i64 (q : Int)) from by rw [← HQ.out]; exact (HJB.out.cell 2).trans rfl)) (fun hHeld => ?_)
      obtain ⟨wd, hw⟩ : ∃ x, w2.drew = x := ⟨_, rfl⟩
      have u : Upd [] w2 wd := by rw [← hw]; exact (Upd.refl [] _).drew
      rw [hw] at hHeld ⊢
      clear hw
      replace HD := hide (HD.out.upd u (by simp))
      replace HU := hide (HU.out.trans u (by simp))
      replace HJB := hide (keepB HJB.out u)
      replace HJO := hide (own_kept HJO.out u (by simp))
      clear u
      refine wpAnyH_take (i := 0) (oi := ?oi0M2) (v := ?v0M2) ?oi0_0M2 (by kernel_rfl) ?ff0M2 ?rr0M2 ?hq0M2 (Or.inl ⟨?hw0M2, ?hy0M2⟩) (by assumption) ?rest0M2
      case oi0_0M2 => conv => lhs; whnf; arg 1; whnf
      case hq0M2 => exact fun _ _ _ h => h
      case ff0M2 | rr0M2 => kernel_rfl
      case hw0M2 => rfl
      case hy0M2 => intro w hSw; (try dsimp only at hSw); first | (go_simp; done) | (go_simp; with_reducible rfl)
      try simp only [Act.put, List.setIfInBounds_toArray, List.set_cons_zero, List.set_cons_succ]
      refine wpAnyH_take (i := 1) (oi := ?oi1M2) (v := ?v1M2) ?oi0_1M2 (by kernel_rfl) ?ff1M2 ?rr1M2 ?hq1M2 (Or.inl ⟨?hw1M2, ?hy1M2⟩) (by assumption) ?rest1M2
      case oi0_1M2 => conv => lhs; whnf; arg 1; whnf
      case hq1M2 => exact fun _ _ _ h => h
      case ff1M2 | rr1M2 => kernel_rfl
      case hw1M2 => rfl
      case hy1M2 => intro w hSw; (try dsimp only at hSw); first | (go_simp; done) | (go_simp; with_reducible rfl)
      try simp only [Act.put, List.setIfInBounds_toArray, List.set_cons_zero, List.set_cons_succ]
      refine wpAnyH_take (i := 2) (oi := ?oi2M2) (v := ?v2M2) ?oi0_2M2 (by kernel_rfl) ?ff2M2 ?rr2M2 ?hq2M2 (Or.inl ⟨?hw2M2, ?hy2M2⟩) (by assumption) ?rest2M2
      case oi0_2M2 => conv => lhs; whnf; arg 1; whnf
      case hq2M2 => exact fun _ _ _ h => h
      case ff2M2 | rr2M2 => kernel_rfl
      case hw2M2 => rfl
      case hy2M2 => intro w hSw; (try dsimp only at hSw); first | (go_simp; done) | (go_simp; with_reducible rfl)
      try simp only [Act.put, List.setIfInBounds_toArray, List.set_cons_zero, List.set_cons_succ]
      refine wpAnyH_take (i := 3) (oi := ?oi3M2) (v := ?v3M2) ?oi0_3M2 (by kernel_rfl) ?ff3M2 ?rr3M2 ?hq3M2 (Or.inl ⟨?hw3M2, ?hy3M2⟩) (by assumption) ?rest3M2
      case oi0_3M2 => conv => lhs; whnf; arg 1; whnf
      case hq3M2 => exact fun _ _ _ h => h
      case ff3M2 | rr3M2 => kernel_rfl
      case hw3M2 => rfl
      case hy3M2 => intro w hSw; (try dsimp only at hSw); first | (go_simp; done) | (go_simp; with_reducible rfl)
      try simp only [Act.put, List.setIfInBounds_toArray, List.set_cons_zero, List.set_cons_succ]
      refine wpAnyH_take (i := 4) (oi := ?oi4M2) (v := ?v4M2) ?oi0_4M2 (by kernel_rfl) ?ff4M2 ?rr4M2 ?hq4M2 (Or.inl ⟨?hw4M2, ?hy4M2⟩) (by assumption) ?rest4M2
      case oi0_4M2 => conv => lhs; whnf; arg 1; whnf
      case hq4M2 => exact fun _ _ _ h => h
      case ff4M2 | rr4M2 => kernel_rfl
      case hw4M2 => rfl
      case hy4M2 => intro w hSw; (try dsimp only at hSw); first | (go_simp; done) | (go_simp; with_reducible rfl)
      try simp only [Act.put, List.setIfInBounds_toArray, List.set_cons_zero, List.set_cons_succ]
      refine wpAnyH_take (i := 5) (oi := ?oi5M2) (v := ?v5M2) ?oi0_5M2 (by kernel_rfl) ?ff5M2 ?rr5M2 ?hq5M2 (Or.inl ⟨?hw5M2, ?hy5M2⟩) (by assumption) ?rest5M2
      case oi0_5M2 => conv => lhs; whnf; arg 1; whnf
      case hq5M2 => exact fun _ _ _ h => h
      case ff5M2 | rr5M2 => kernel_rfl
      case hw5M2 => rfl
      case hy5M2 => intro w hSw; (try dsimp only at hSw); first | (go_simp; done) | (go_simp; with_reducible rfl)
      try simp only [Act.put, List.setIfInBounds_toArray, List.set_cons_zero, List.set_cons_succ]
      refine wpAnyH_take (i := 6) (oi := ?oi6M2) (v := ?v6M2) ?oi0_6M2 (by kernel_rfl) ?ff6M2 ?rr6M2 ?hq6M2 (Or.inl ⟨?hw6M2, ?hy6M2⟩) (by assumption) ?rest6M2
      case oi0_6M2 => conv => lhs; whnf; arg 1; whnf
      case hq6M2 => exact fun _ _ _ h => h
      case ff6M2 | rr6M2 => kernel_rfl
      case hw6M2 => rfl
      case hy6M2 => intro w hSw; (try dsimp only at hSw); first | (go_simp; done) | (go_simp; with_reducible rfl)
      try simp only [Act.put, List.setIfInBounds_toArray, List.set_cons_zero, List.set_cons_succ]
      refine wpAnyH_take (i := 7) (oi := ?oi7M2) (v := ?v7M2) ?oi0_7M2 (by kernel_rfl) ?ff7M2 ?rr7M2 ?hq7M2 (Or.inl ⟨?hw7M2, ?hy7M2⟩) (by assumption) ?rest7M2
      case oi0_7M2 => conv => lhs; whnf; arg 1; whnf
      case hq7M2 => exact fun _ _ _ h => h
      case ff7M2 | rr7M2 => kernel_rfl
      case hw7M2 => rfl
      case hy7M2 => intro w hSw; (try dsimp only at hSw); first | (go_simp; done) | (go_simp; with_reducible rfl)
      try simp only [Act.put, List.setIfInBounds_toArray, List.set_cons_zero, List.set_cons_succ]
      refine wpAnyH_take (i := 8) (oi := ?oi8M2) (v := ?v8M2) ?oi0_8M2 (by kernel_rfl) ?ff8M2 ?rr8M2 ?hq8M2 (Or.inl ⟨?hw8M2, ?hy8M2⟩) (by assumption) ?rest8M2
      case oi0_8M2 => conv => lhs; whnf; arg 1; whnf
      case hq8M2 => exact fun _ _ _ h => h
      case ff8M2 | rr8M2 => kernel_rfl
      case hw8M2 => rfl
      case hy8M2 => intro w hSw; (try dsimp only at hSw); first | (go_simp; done) | (go_simp; with_reducible rfl)
      try simp only [Act.put, List.setIfInBounds_toArray, List.set_cons_zero, List.set_cons_succ]
      refine wpAnyH_take (i := 9) (oi := ?oi9M2) (v := ?v9M2) ?oi0_9M2 (by kernel_rfl) ?ff9M2 ?rr9M2 ?hq9M2 (Or.inl ⟨?hw9M2, ?hy9M2⟩) (by assumption) ?rest9M2
      case oi0_9M2 => conv => lhs; whnf; arg 1; whnf
      case hq9M2 => exact fun _ _ _ h => h
      case ff9M2 | rr9M2 => kernel_rfl
      case hw9M2 => rfl
      case hy9M2 => intro w hSw; (try dsimp only at hSw); first | (go_simp; done) | (go_simp; with_reducible rfl)
      try simp only [Act.put, List.setIfInBounds_toArray, List.set_cons_zero, List.set_cons_succ]
      refine wpAnyH_take (i := 10) (oi := ?oi10M2) (v := ?v10M2) ?oi0_10M2 (by kernel_rfl) ?ff10M2 ?rr10M2 ?hq10M2 (Or.inl ⟨?hw10M2, ?hy10M2⟩) (by assumption) ?rest10M2
      case oi0_10M2 => conv => lhs; whnf; arg 1; whnf
      case hq10M2 => exact fun _ _ _ h => h
      case ff10M2 | rr10M2 => kernel_rfl
      case hw10M2 => rfl
      case hy10M2 => intro w hSw; (try dsimp only at hSw); first | (go_simp; done) | (go_simp; with_reducible rfl)
      try simp only [Act.put, List.setIfInBounds_toArray, List.set_cons_zero, List.set_cons_succ]
      refine wpAnyH_take (i := 11) (oi := ?oi11M2) (v := ?v11M2) ?oi0_11M2 (by kernel_rfl) ?ff11M2 ?rr11M2 ?hq11M2 (Or.inl ⟨?hw11M2, ?hy11M2⟩) (by assumption) ?rest11M2
      case oi0_11M2 => conv => lhs; whnf; arg 1; whnf
      case hq11M2 => exact fun _ _ _ h => h
      case ff11M2 | rr11M2 => kernel_rfl
      case hw11M2 => rfl
      case hy11M2 => intro w hSw; (try dsimp only at hSw); first | (go_simp; done) | (go_simp; with_reducible rfl)
      try simp only [Act.put, List.setIfInBounds_toArray, List.set_cons_zero, List.set_cons_succ]
      refine wpAnyH_take (i := 12) (oi := ?oi12M2) (v := ?v12M2) ?oi0_12M2 (by kernel_rfl) ?ff12M2 ?rr12M2 ?hq12M2 (Or.inl ⟨?hw12M2, ?hy12M2⟩) (by assumption) ?rest12M2
      case oi0_12M2 => conv => lhs; whnf; arg 1; whnf
      case hq12M2 => exact fun _ _ _ h => h
      case ff12M2 | rr12M2 => kernel_rfl
      case hw12M2 => rfl
      case hy12M2 => intro w hSw; (try dsimp only at hSw); first | (go_simp; done) | (go_simp; with_reducible rfl)
      try simp only [Act.put, List.setIfInBounds_toArray, List.set_cons_zero, List.set_cons_succ]
      refine wpAnyH_take (i := 13) (oi := ?oi13M2) (v := ?v13M2) ?oi0_13M2 (by kernel_rfl) ?ff13M2 ?rr13M2 ?hq13M2 (Or.inl ⟨?hw13M2, ?hy13M2⟩) (by assumption) ?rest13M2
      case oi0_13M2 => conv => lhs; whnf; arg 1; whnf
      case hq13M2 => exact fun _ _ _ h => h
      case ff13M2 | rr13M2 => kernel_rfl
      case hw13M2 => rfl
      case hy13M2 => intro w hSw; (try dsimp only at hSw); first | (go_simp; done) | (go_simp; with_reducible rfl)
      try simp only [Act.put, List.setIfInBounds_toArray, List.set_cons_zero, List.set_cons_succ]
      refine wpAnyH_take (i := 17) (oi := ?oi17M3) (v := ?v17M3) ?oi0_17M3 (by kernel_rfl) ?ff17M3 ?rr17M3 ?hq17M3 (Or.inl ⟨?hw17M3, ?hy17M3⟩) (by assumption) ?rest17M3
      case oi0_17M3 => conv => lhs; whnf; arg 1; whnf
      case hq17M3 => exact fun _ _ _ h => h
      case ff17M3 | rr17M3 => kernel_rfl
      case hw17M3 => rfl
      case hy17M3 => intro w hSw; (try dsimp only at hSw); first | (go_simp; done) | (go_simp; with_reducible rfl)
      try simp only [Act.put, List.setIfInBounds_toArray, List.set_cons_zero, List.set_cons_succ]
      refine wpAnyH_take (i := 18) (oi := ?oi18M3) (v := ?v18M3) ?oi0_18M3 (by kernel_rfl) ?ff18M3 ?rr18M3 ?hq18M3 (Or.inl ⟨?hw18M3, ?hy18M3⟩) (by assumption) ?rest18M3
      case oi0_18M3 => conv => lhs; whnf; arg 1; whnf
      case hq18M3 => exact fun _ _ _ h => h
      case ff18M3 | rr18M3 => kernel_rfl
      case hw18M3 => rfl
      case hy18M3 => intro w hSw; (try dsimp only at hSw); first | (go_simp; done) | (go_simp; with_reducible rfl)
      try simp only [Act.put, List.setIfInBounds_toArray, List.set_cons_zero, List.set_cons_succ]
      refine wpAnyH_ready (rs := [14]) (by kernel_rfl) (by simp) (AllReadyH.cons (o := ?oiM4) ?oi0_M4 (fun K hK => ?_) AllReadyH.nil)
      case oi0_M4 => conv => lhs; whnf; arg 1; whnf
      have hmk := make_bytes nz hnzm wd
      go_simp
      obtain ⟨wm, hw⟩ : ∃ x, wd.alloc (.cells (bCells (List.replicate nz 0)).toArray 5) = x := ⟨_, rfl⟩
      have u : Upd [] wd wm := by rw [← hw]; exact (Upd.refl [] _).alloc _
      have BZ := hide (show Blk wm wd.heap.size 5 (bCells (List.replicate nz 0)) by rw [← hw]; exact Blk.new wd _ _)
      rw [hw]
      clear hw hmk
      replace HD := hide (HD.out.upd u (by simp))
      replace HU := hide (HU.out.trans u (by simp))
      replace HJB := hide (keepB HJB.out u)
      replace HJO := hide (own_kept HJO.out u (by simp))
      clear u
      (try dsimp only)
      refine hK.out _ _ (by exact (show _ = some (Value.int .i64 (q : Int)) from by rw [← HQ.out]; exact (HJB.out.cell 2).trans rfl)) (fun hHeld => ?_)
      clear hK K
      try simp only [Act.put, List.setIfInBounds_toArray, List.set_cons_zero, List.set_cons_succ]
      refine wpAnyH_ready (rs := [15]) (by kernel_rfl) (by simp) (AllReadyH.cons (o := ?oiM5) ?oi0_M5 (fun K hK => ?_) AllReadyH.nil)
      case oi0_M5 => conv => lhs; whnf; arg 1; whnf
      have hcv := run_conv_bytes BZ.out 39 5 9 Tryz.underlying39 Tryz.underlying5 Tryz.underlying9 0 nz nz (by simp)
      rw [show (List.drop 0 (List.replicate nz (0 : UInt8))).take nz = List.replicate nz 0 by simp] at hcv
      obtain ⟨zb, hzb⟩ : ∃ x : ByteArray, ⟨(List.replicate nz (0 : UInt8)).toArray⟩ = x := ⟨_, rfl⟩
      rw [hzb] at hcv
      have HZB := hide hzb
      clear hzb
      go_simp
      (try dsimp only)
      refine hK.out _ _ (by exact (show _ = some (Value.int .i64 (q : Int)) from by rw [← HQ.out]; exact (HJB.out.cell 2).trans rfl)) (fun hHeld => ?_)
      clear hK K hcv
      try simp only [Act.put, List.setIfInBounds_toArray, List.set_cons_zero, List.set_cons_succ]
      refine wpAnyH_ready (rs := [16]) (by kernel_rfl) (by simp) (AllReadyH.cons (o := ?oiM6) ?oi0_M6 (fun K hK => ?_) AllReadyH.nil)
      case oi0_M6 => conv => lhs; whnf; arg 1; whnf
      go_simp
      go_at_call 41
      refine (writing_any (.pointer (some ⟨jb, 0, none⟩)) (.int .i64 (q : Int)) zb _ rfl _ rfl wm).mono ?_
      rintro e w3 ⟨rfl, hw⟩
      have u : Upd [] wm w3 := by rw [← hw]; exact (((Upd.refl [] _).alloc _).alloc _).alloc _
      obtain ⟨pj, hpj⟩ : ∃ x, wm.heap.size = x := ⟨_, rfl⟩
      have hW : WrAt w3 pj (pj + 1) (pj + 2) jb g (q : Int) zb := by
        have h0 : Blk w3 pj 28 [.pointer (some ⟨jb, 0, none⟩)] := by rw [← hw, ← hpj]; exact ((Blk.new wm _ _).alloc _).alloc _
        have h1 : Blk w3 (pj + 1) 3 [.int .i64 (q : Int)] := by
          have h9 := Blk.new (wm.alloc (.cells #[.pointer (some ⟨jb, 0, none⟩)] 28)) 3 [.int .i64 (q : Int)]
          rw [World.size_alloc, hpj] at h9
          rw [← hw]; exact h9.alloc _
        have h2 : Blk w3 (pj + 2) 9 [.string zb] := by
          have h9 := Blk.new ((wm.alloc (.cells #[.pointer (some ⟨jb, 0, none⟩)] 28)).alloc (.cells #[.int .i64 (q : Int)] 3)) 9 [.string zb]
          rw [World.size_alloc, World.size_alloc, hpj] at h9
          rw [← hw]; exact h9
        exact ⟨(h0.cell 0).trans rfl, (h1.cell 0).trans rfl, (h2.cell 0).trans rfl, ((keepB HJB.out u).cell 3).trans rfl⟩
      have HPJ := hide (show w.heap.size ≤ pj ∧ pj + 2 < w3.heap.size from ⟨by rw [← hpj]; exact HU.out.size, World.block_lt_of_cell? _ _ hW.2.2.1⟩)
      have HW := hide hW
      rw [hpj]
      clear hw hW hpj
      replace HD := hide (HD.out.upd u (by simp))
      replace HU := hide (HU.out.trans u (by simp))
      replace HJB := hide (keepB HJB.out u)
      replace HJO := hide (own_kept HJO.out u (by simp))
      clear u
      (try dsimp only)
      refine hK.out _ _ (by exact (show _ = some (Value.int .i64 (q : Int)) from by rw [← HQ.out]; exact (HJB.out.cell 2).trans rfl)) (fun hHeld => ?_)
      clear hK K
      try simp only [Act.put, List.setIfInBounds_toArray, List.set_cons_zero, List.set_cons_succ]
      refine wpAnyH_ready (rs := [19]) (by kernel_rfl) (by simp) (AllReadyH.cons (o := ?oiM7) ?oi0_M7 (fun K hK => ?_) AllReadyH.nil)
      case oi0_M7 => conv => lhs; whnf; arg 1; whnf
      go_simp
      obtain ⟨w4, hw⟩ : ∃ x, w3.alloc (.cells #[.func (.func 72) #[] #[.pointer (some ⟨pj, 0, none⟩), .pointer (some ⟨pj + 1, 0, none⟩), .pointer (some ⟨pj + 2, 0, none⟩)], .func (.func 42) #[.pointer (some ⟨g, 0, none⟩)] #[]] 85) = x := ⟨_, rfl⟩
      have u : Upd [] w3 w4 := by rw [← hw]; exact (Upd.refl [] _).alloc _
      have HG := hide (show Blk w4 w3.heap.size 85 [.func (.func 72) #[] #[.pointer (some ⟨pj, 0, none⟩), .pointer (some ⟨pj + 1, 0, none⟩), .pointer (some ⟨pj + 2, 0, none⟩)], .func (.func 42) #[.pointer (some ⟨g, 0, none⟩)] #[]] by rw [← hw]; exact Blk.new w3 _ _)
      have HGS := hide (show w.heap.size ≤ w3.heap.size from HU.out.size)
      rw [hw]
      obtain ⟨gs, hgs⟩ : ∃ x, w3.heap.size = x := ⟨_, rfl⟩
      rw [hgs] at HG HGS ⊢
      clear hw hgs
      replace HW := hide (show WrAt w4 pj (pj + 1) (pj + 2) jb g (q : Int) zb from ⟨keepc _ _ _ _ u HW.out.1, keepc _ _ _ _ u HW.out.2.1, keepc _ _ _ _ u HW.out.2.2.1, keepc _ _ _ _ u HW.out.2.2.2⟩)
      replace HD := hide (HD.out.upd u (by simp))
      replace HU := hide (HU.out.trans u (by simp))
      replace HJB := hide (keepB HJB.out u)
      replace HJO := hide (own_kept HJO.out u (by simp))
      clear u
      (try dsimp only)
      refine hK.out _ _ (by exact (show _ = some (Value.int .i64 (q : Int)) from by rw [← HQ.out]; exact (HJB.out.cell 2).trans rfl)) (fun hHeld => ?_)
      clear hK K
      try simp only [Act.put, List.setIfInBounds_toArray, List.set_cons_zero, List.set_cons_succ]
      refine wpAnyH_ready (rs := [20]) (by kernel_rfl) (by simp) (AllReadyH.cons (o := ?oiM8) ?oi0_M8 (fun K hK => ?_) AllReadyH.nil)
      case oi0_M8 => conv => lhs; whnf; arg 1; whnf
      go_simp
      go_at_call 40
      refine (first_any [.write (q : Int) zb, .sync] gs g 2 w4 rfl (by decide) HD.out (by have := HP.out; omega) HG.out.lt (fun h => absurd (HFL.out _ h) (by have := HGS.out; omega)) (fun k o ho => ?_)).mono ?_
      · match k, ho with
        | 0, ho => cases ho; exact ⟨pj, pj + 1, pj + 2, jb, (HG.out.cell 0).trans rfl, HW.out, fun h => absurd (HFL.out _ h) (by have := HPJ.out.1; omega), fun h => absurd (HFL.out _ h) (by have := HPJ.out.1; omega), fun h => absurd (HFL.out _ h) (by have := HPJ.out.1; omega), fun h => absurd (HFL.out _ h) (by have := HJL.out; omega)⟩
        | 1, ho => cases ho; exact (HG.out.cell 1).trans rfl
      rintro e w9 ⟨rfl, hm⟩
      obtain ⟨r, hr⟩ : ∃ r, runOps D [.write (q : Int) zb, .sync] = r := ⟨_, rfl⟩
      rw [hr] at hm ⊢
      obtain ⟨F', hD9, hU9, hF9⟩ := hm
      have hjF : jb ∉ F := fun h => absurd (HFL.out _ h) (by have := HJL.out; omega)
      have hJB9 := HJB.out.upd hU9 hjF
      have hJO9 := own_kept HJO.out hU9 (fun k hk hF => absurd (HFL.out _ hF) (by have := it_own_block HJO.out k hk; omega))
      have HJB9 := hide hJB9
      have HJO9 := hide hJO9
      have HD9 := hide hD9
      have HF9 := hide (show ∀ k ∈ F', k ∈ F ∨ w.heap.size ≤ k from fun k hk => (hF9 k hk).imp id (fun h => Nat.le_trans HU.out.size h))
      have HF9B := hide (show ∀ k ∈ jb :: (A.map (·.block)).toList, k ∉ F' from fun k hk hF => (hF9 k hF).elim (fun h => absurd (HFL.out _ h) (by rcases List.mem_cons.1 hk with rfl | hk; have := HJL.out; omega; have := it_own_block HJO.out k (by rw [ownBlock_slice]; simpa using hk); omega)) (fun h => by rcases List.mem_cons.1 hk with rfl | hk; have := HJB.out.lt; omega; have := it_own_lt HJO.out k (by rw [ownBlock_slice]; simpa using hk); omega))
      have HU9 := hide ((HU.out.mono (l' := F) (by simp)).trans hU9 (fun x hx => .inl hx))
      have HRR := hide (show runOps D [.write (T.size : Int) ⟨(List.replicate (D.vis.length - T.size) 0).toArray⟩, .sync] = r by rw [HQ.out, HVL.out, HNZ2.out, HZB.out]; exact hr)
      have c29 : w9.cell? ⟨jb, 2, none⟩ = some (.int .i64 (q : Int)) := by rw [← HQ.out]; exact (HJB9.out.cell 2).trans rfl
      clear hJB9 hJO9 hD9 hU9 hF9 hjF hr
      obtain ⟨er, her⟩ : ∃ x, r.2 = x := ⟨_, rfl⟩
      rw [her]
      (try dsimp only)
      refine hK.out _ _ (by exact c29) (fun hHeld => ?_)
      clear hK K c29
      try simp only [Act.put, List.setIfInBounds_toArray, List.set_cons_zero, List.set_cons_succ]
      refine wpAnyH_take (i := 21) (oi := ?oi21M9) (v := ?v21M9) ?oi0_21M9 (by kernel_rfl) ?ff21M9 ?rr21M9 ?hq21M9 (Or.inl ⟨?hw21M9, ?hy21M9⟩) (by assumption) ?rest21M9
      case oi0_21M9 => conv => lhs; whnf; arg 1; whnf
      case hq21M9 => exact fun _ _ _ h => h
      case ff21M9 | rr21M9 => kernel_rfl
      case hw21M9 => rfl
      case hy21M9 => intro w hSw; (try dsimp only at hSw); first | (go_simp; done) | (go_simp; with_reducible rfl)
      try simp only [Act.put, List.setIfInBounds_toArray, List.set_cons_zero, List.set_cons_succ]
      refine wpAnyH_done (by kernel_rfl) ?_ _
      by_cases he0 : er = 0
      case neg =>
        have heb : ((er : Int) != 0) = true := by simp [he0]
        have HOP := hide (show OpenS ks D = (none, r.1, er) by unfold OpenS; rw [if_neg (by simp [HOF.out]), HLD.out]; simp only; rw [if_neg HNZ.out, HRR.out, if_pos (by rw [her]; exact he0), her])
        clear he0 her
        go_wp2_with fail
        refine bodyPost_ret (v := .tuple #[.pointer none, .int .i64 er]) (by simp [results, Tryz.results25, go_sem]) rfl ?_
        unfold OpenJPost
        rw [HOP.out]
        exact ⟨⟨F', HD9.out, HU9.out, HF9.out⟩, rfl⟩
      have heb : ((er : Int) != 0) = false := by simp [he0]
      have HOP := hide (show OpenS ks D = (some T, r.1, 0) by unfold OpenS; rw [if_neg (by simp [HOF.out]), HLD.out]; simp only; rw [if_neg HNZ.out, HRR.out, if_neg (by rw [her]; simp [he0])])
      clear he0 her
      go_wp2_with fail
      refine bodyPost_ret (v := .tuple #[.pointer (some ⟨jb, 0, none⟩), .int .i64 0]) (by simp [results, Tryz.results25, go_sem]) rfl ?_
      unfold OpenJPost
      rw [HOP.out]
      exact ⟨⟨F', HD9.out, HU9.out, HF9.out⟩, jb, A, c, F', rfl, ⟨HJL.out, HJB9.out, HJO9.out⟩, HD9.out, HF9.out, HF9B.out⟩
end Go.Proofs.YtafjolibfbccbaaGreatDoor
