/-
  (*journal.Journal).writing; journal.first at two calls and at four.
-/
import Derived.Test.YtafjolibfbccbaaGreatDoorZ3JournalOpensAnythingCard
import Derived.Test.YtafjolibfbccbaaGreatDoorZ4JournalOpensAnythingCard
import Derived.Deep.RegionHeld3
import Derived.LoopN
import Derived.Deep.CutBlock

namespace Go.Proofs.YtafjolibfbccbaaGreatDoor
open Go.RowKit
set_option maxRecDepth 100000
set_option maxHeartbeats 4000000

theorem writing_any (j at_ : Value) (s : ByteArray) (n : Int) (hat : at_ = .int .i64 n) (pj : Option Addr) (hj : j = .pointer pj) (w : World) :
    Calls Tryz.prog 41 #[j, at_, .string s] w fun e w' => e = .returned (.func (.func 72) #[] #[.pointer (some ⟨w.heap.size, 0, none⟩), .pointer (some ⟨w.heap.size + 1, 0, none⟩), .pointer (some ⟨w.heap.size + 2, 0, none⟩)]) ∧
      ((w.alloc (.cells #[j] 28)).alloc (.cells #[at_] 3)).alloc (.cells #[.string s] 9) = w' := by
  subst hat hj
  have hmf : ∀ (fn : Fn) (first cap : Array Value) (w : World), (Instr.makeFunc fn first cap).run Tryz.prog w = .ok (.func fn first cap) w := fun _ _ _ _ => rfl
  go_enter Tryz.func41, Tryz.ntmps41
  go_wp2
  go_ret
  exact ⟨rfl, rfl⟩
theorem Moved.from_ {F : List Nat} {w wd w' : World} {g : Nat} {D : DiskS} (h : Moved F wd w' g D) (hu : Upd [] w wd) : Moved F w w' g D := by
  obtain ⟨F', h1, h2, h3⟩ := h
  exact ⟨F', h1, (hu.mono (l' := F) (by simp)).trans h2 (fun x hx => .inl hx), fun k hk => (h3 k hk).imp id (fun h => Nat.le_trans hu.size h)⟩
theorem moved_cell {F : List Nat} {w w' : World} {g : Nat} {D : DiskS} {b o : Nat} {v : Value} (h : Moved F w w' g D) (hb : b ∉ F) (hc : w.cell? ⟨b, o, none⟩ = some v) : w'.cell? ⟨b, o, none⟩ = some v := by
  obtain ⟨F', _, h2, _⟩ := h
  exact (h2.cell (p := ⟨b, o, none⟩) (World.block_lt_of_cell? _ _ hc) hb).trans hc
/-- What a closure of writing has captured. -/
def WrAt (w : World) (pj pa ps jb g : Nat) (at_ : Int) (s : ByteArray) : Prop :=
  w.cell? ⟨pj, 0, none⟩ = some (.pointer (some ⟨jb, 0, none⟩)) ∧ w.cell? ⟨pa, 0, none⟩ = some (.int .i64 at_) ∧ w.cell? ⟨ps, 0, none⟩ = some (.string s) ∧ w.cell? ⟨jb, 3, none⟩ = some (.pointer (some ⟨g, 0, none⟩))
theorem writing1_any {F : List Nat} {D : DiskS} (pj pa ps jb g : Nat) (at_ : Int) (s : ByteArray) (w : World) (hD : IsDisk w F g D) (hp : D.pend.length ≤ 1000000000) (hw : WrAt w pj pa ps jb g at_ s) (hf : pj ∉ F ∧ pa ∉ F ∧ ps ∉ F ∧ jb ∉ F) :
    Calls Tryz.prog 72 #[.pointer (some ⟨pj, 0, none⟩), .pointer (some ⟨pa, 0, none⟩), .pointer (some ⟨ps, 0, none⟩)] w fun e w' => e = .returned (.int .i64 (D.write at_ s.data.toList).2) ∧ Moved F w w' g (D.write at_ s.data.toList).1 := by
  obtain ⟨cj, ca, cs, cg⟩ := hw
  have HD := hide hD
  have CJ := hide cj
  have CA := hide ca
  have CS := hide cs
  have CG := hide cg
  have HP := hide hp
  clear hD cj ca cs cg hp
  go_enter Tryz.func72, Tryz.ntmps72
  go_upto_region 1 with fail
  refine wp_region_held_drew (S := (fun w' => w'.cell? ⟨pj, 0, none⟩ = some (.pointer (some ⟨jb, 0, none⟩)) ∧ w'.cell? ⟨pa, 0, none⟩ = some (.int .i64 at_) ∧ w'.cell? ⟨ps, 0, none⟩ = some (.string s) ∧ w'.cell? ⟨jb, 3, none⟩ = some (.pointer (some ⟨g, 0, none⟩)))) (by kernel_rfl) (by exact ⟨CJ.out, CA.out, CS.out, CG.out⟩) (fun hHeld => ?_)
  obtain ⟨wd, hwD⟩ : ∃ x, w.drew = x := ⟨_, rfl⟩
  have u : Upd [] w wd := by rw [← hwD]; exact (Upd.refl [] _).drew
  rw [hwD] at hHeld ⊢
  clear hwD
  replace HD := hide (HD.out.upd u (by simp))
  have HU := hide u
  clear u
  refine wpAnyH_take (i := 0) (oi := ?oi0M2) (v := ?v0M2) ?oi0_0M2 (by kernel_rfl) ?ff0M2 ?rr0M2 ?hq0M2 (Or.inl ⟨?hw0M2, ?hy0M2⟩) (by assumption) ?rest0M2
  case oi0_0M2 => conv => lhs; whnf; arg 1; whnf
  case hq0M2 => exact fun _ _ _ h => h
  case ff0M2 | rr0M2 => kernel_rfl
  case hw0M2 => rfl
  case hy0M2 => intro w hSw; (try dsimp only at hSw); first | (go_simp; done) | (go_simp; with_reducible rfl)
  try simp only [Act.put, List.setIfInBounds_toArray, List.set_cons_zero, List.set_cons_succ]
  refine wpAnyH_take (i := 1) (oi := ?oi1M2) (v := ?v1M2) ?oi0_1M2 (by kernel_rfl) ?ff1M2 ?rr1M2 ?hq1M2 (Or.inl ⟨?hw1M2, ?hy1M2⟩) (by assumption) ?rest1M2
  case oi0_1M2 => conv => lhs; whnf; arg 1; whnf
  case hq1M2 => exact fun _ _ _ h => h
  case ff1M2 | rr1M2 => kernel_rfl
  case hw1M2 => rfl
  case hy1M2 => intro w hSw; (try dsimp only at hSw); first | (go_simp; done) | (go_simp; with_reducible rfl)
  try simp only [Act.put, List.setIfInBounds_toArray, List.set_cons_zero, List.set_cons_succ]
  refine wpAnyH_take (i := 2) (oi := ?oi2M2) (v := ?v2M2) ?oi0_2M2 (by kernel_rfl) ?ff2M2 ?rr2M2 ?hq2M2 (Or.inl ⟨?hw2M2, ?hy2M2⟩) (by assumption) ?rest2M2
  case oi0_2M2 => conv => lhs; whnf; arg 1; whnf
  case hq2M2 => exact fun _ _ _ h => h
  case ff2M2 | rr2M2 => kernel_rfl
  case hw2M2 => rfl
  case hy2M2 => intro w hSw; (try dsimp only at hSw); first | (go_simp; done) | (go_simp; with_reducible rfl)
  try simp only [Act.put, List.setIfInBounds_toArray, List.set_cons_zero, List.set_cons_succ]
  refine wpAnyH_take (i := 3) (oi := ?oi3M2) (v := ?v3M2) ?oi0_3M2 (by kernel_rfl) ?ff3M2 ?rr3M2 ?hq3M2 (Or.inl ⟨?hw3M2, ?hy3M2⟩) (by assumption) ?rest3M2
  case oi0_3M2 => conv => lhs; whnf; arg 1; whnf
  case hq3M2 => exact fun _ _ _ h => h
  case ff3M2 | rr3M2 => kernel_rfl
  case hw3M2 => rfl
  case hy3M2 => intro w hSw; (try dsimp only at hSw); first | (go_simp; done) | (go_simp; with_reducible rfl)
  try simp only [Act.put, List.setIfInBounds_toArray, List.set_cons_zero, List.set_cons_succ]
  refine wpAnyH_take (i := 4) (oi := ?oi4M2) (v := ?v4M2) ?oi0_4M2 (by kernel_rfl) ?ff4M2 ?rr4M2 ?hq4M2 (Or.inl ⟨?hw4M2, ?hy4M2⟩) (by assumption) ?rest4M2
  case oi0_4M2 => conv => lhs; whnf; arg 1; whnf
  case hq4M2 => exact fun _ _ _ h => h
  case ff4M2 | rr4M2 => kernel_rfl
  case hw4M2 => rfl
  case hy4M2 => intro w hSw; (try dsimp only at hSw); first | (go_simp; done) | (go_simp; with_reducible rfl)
  try simp only [Act.put, List.setIfInBounds_toArray, List.set_cons_zero, List.set_cons_succ]
  refine wpAnyH_take (i := 5) (oi := ?oi5M2) (v := ?v5M2) ?oi0_5M2 (by kernel_rfl) ?ff5M2 ?rr5M2 ?hq5M2 (Or.inl ⟨?hw5M2, ?hy5M2⟩) (by assumption) ?rest5M2
  case oi0_5M2 => conv => lhs; whnf; arg 1; whnf
  case hq5M2 => exact fun _ _ _ h => h
  case ff5M2 | rr5M2 => kernel_rfl
  case hw5M2 => rfl
  case hy5M2 => intro w hSw; (try dsimp only at hSw); first | (go_simp; done) | (go_simp; with_reducible rfl)
  try simp only [Act.put, List.setIfInBounds_toArray, List.set_cons_zero, List.set_cons_succ]
  refine wpAnyH_ready (rs := [6]) (by kernel_rfl) (by simp) (AllReadyH.cons (o := ?oiM3) ?oi0_M3 (fun K hK => ?_) AllReadyH.nil)
  case oi0_M3 => conv => lhs; whnf; arg 1; whnf
  go_simp
  go_at_call 13
  with_reducible (refine (write_any at_ s wd HD.out HP.out).mono ?_)
  rintro e w2 ⟨rfl, hm⟩
  have HM := hide (hm.from_ HU.out)
  have hk := fun (b o : Nat) (v : Value) (hb : b ∉ F) (hc : wd.cell? ⟨b, o, none⟩ = some v) => moved_cell hm hb hc
  have HKC := hide hk
  clear hm hk
  (try dsimp only)
  refine hK.out _ _ (by exact ⟨HKC.out _ _ _ hf.1 hHeld.1, HKC.out _ _ _ hf.2.1 hHeld.2.1, HKC.out _ _ _ hf.2.2.1 hHeld.2.2.1, HKC.out _ _ _ hf.2.2.2 hHeld.2.2.2⟩) (fun hHeld => ?_)
  clear hK K
  try simp only [Act.put, List.setIfInBounds_toArray, List.set_cons_zero, List.set_cons_succ]
  refine wpAnyH_take (i := 7) (oi := ?oi7M4) (v := ?v7M4) ?oi0_7M4 (by kernel_rfl) ?ff7M4 ?rr7M4 ?hq7M4 (Or.inl ⟨?hw7M4, ?hy7M4⟩) (by assumption) ?rest7M4
  case oi0_7M4 => conv => lhs; whnf; arg 1; whnf
  case hq7M4 => exact fun _ _ _ h => h
  case ff7M4 | rr7M4 => kernel_rfl
  case hw7M4 => rfl
  case hy7M4 => intro w hSw; (try dsimp only at hSw); first | (go_simp; done) | (go_simp; with_reducible rfl)
  try simp only [Act.put, List.setIfInBounds_toArray, List.set_cons_zero, List.set_cons_succ]
  refine wpAnyH_done (by kernel_rfl) ?_ _
  go_wp2_with fail
  go_ret
  exact ⟨rfl, HM.out⟩
/-- What journal.first is handed. -/
inductive DOp where
  | write (at_ : Int) (s : ByteArray)
  | sync
def DOp.run (D : DiskS) : DOp → DiskS × Int
  | .write a s => D.write a s.data.toList
  | .sync => D.sync
def runOps : DiskS → List DOp → DiskS × Int
  | D, [] => (D, 0)
  | D, o :: l => if (o.run D).2 ≠ 0 then o.run D else runOps (o.run D).1 l
/-- The k-th function of the row at gs does the operation. -/
def CallAt (w : World) (F : List Nat) (gs g k : Nat) : DOp → Prop
  | .write a s => ∃ pj pa ps jb, w.cell? ⟨gs, k, none⟩ = some (.func (.func 72) #[] #[.pointer (some ⟨pj, 0, none⟩), .pointer (some ⟨pa, 0, none⟩), .pointer (some ⟨ps, 0, none⟩)]) ∧ WrAt w pj pa ps jb g a s ∧ (pj ∉ F ∧ pa ∉ F ∧ ps ∉ F ∧ jb ∉ F)
  | .sync => w.cell? ⟨gs, k, none⟩ = some (.func (.func 42) #[.pointer (some ⟨g, 0, none⟩)] #[])
theorem Moved.refl_ {F : List Nat} {w : World} {g : Nat} {D : DiskS} (h : IsDisk w F g D) : Moved F w w g D := ⟨F, h, Upd.refl _ _, fun _ hk => .inl hk⟩
theorem Moved.trans_ {F F' : List Nat} {w w1 w2 : World} {g : Nat} {D' : DiskS} (hu : Upd F w w1) (hs : ∀ k ∈ F', k ∈ F ∨ w.heap.size ≤ k) (h : Moved F' w1 w2 g D') : Moved F w w2 g D' := by
  obtain ⟨F2, h1, h2, h3⟩ := h
  exact ⟨F2, h1, hu.trans h2 hs, fun k hk => (h3 k hk).elim (hs k) (fun h => .inr (Nat.le_trans hu.size h))⟩
theorem WrAt.lt {w : World} {pj pa ps jb g : Nat} {a : Int} {s : ByteArray} (h : WrAt w pj pa ps jb g a s) : pj < w.heap.size ∧ pa < w.heap.size ∧ ps < w.heap.size ∧ jb < w.heap.size :=
  ⟨World.block_lt_of_cell? _ _ h.1, World.block_lt_of_cell? _ _ h.2.1, World.block_lt_of_cell? _ _ h.2.2.1, World.block_lt_of_cell? _ _ h.2.2.2⟩
theorem WrAt.moved {F : List Nat} {w w' : World} {pj pa ps jb g g' : Nat} {a : Int} {s : ByteArray} {D : DiskS} (h : WrAt w pj pa ps jb g a s) (hm : Moved F w w' g' D) (hf : pj ∉ F ∧ pa ∉ F ∧ ps ∉ F ∧ jb ∉ F) : WrAt w' pj pa ps jb g a s :=
  ⟨moved_cell hm hf.1 h.1, moved_cell hm hf.2.1 h.2.1, moved_cell hm hf.2.2.1 h.2.2.1, moved_cell hm hf.2.2.2 h.2.2.2⟩
theorem write_pend (D : DiskS) (a : Int) (s : List UInt8) : (D.write a s).1.pend.length ≤ D.pend.length + 1 := by
  unfold DiskS.write
  split
  · exact Nat.le_succ _
  · split
    · unfold DiskS.written DiskS.used
      simp only
      split <;> simp
    · exact Nat.le_succ _
theorem sync_pend (D : DiskS) : D.sync.1.pend.length ≤ D.pend.length := by
  unfold DiskS.sync
  split
  · exact Nat.le_refl _
  · simp [DiskS.settled]
theorem runOps_stop {D : DiskS} {o : DOp} {l : List DOp} (h : (o.run D).2 ≠ 0) : runOps D (o :: l) = o.run D := by rw [runOps, if_pos h]
theorem runOps_on {D : DiskS} {o : DOp} {l : List DOp} (h : (o.run D).2 = 0) : runOps D (o :: l) = runOps (o.run D).1 l := by rw [runOps, if_neg (by simp [h])]
set_option maxHeartbeats 40000000 in
theorem first_any {F : List Nat} {D : DiskS} (ops : List DOp) (gs g n : Nat) (w : World) (hn : ops.length = n) (hn2 : n ≤ 100) (hD : IsDisk w F g D) (hp : D.pend.length ≤ 100000000) (_hgs : gs < w.heap.size) (hgf : gs ∉ F) (hc : ∀ k o, ops[k]? = some o → CallAt w F gs g k o) :
    Calls Tryz.prog 40 #[.slice (some ⟨gs, 0, none⟩) n n] w fun e w' => e = .returned (.int .i64 (runOps D ops).2) ∧ Moved F w w' g (runOps D ops).1 := by
  have HC := hide hc
  have HM0 := hide (Moved.refl_ hD)
  have HP := hide hp
  have HN := hide hn
  clear hc hD hp hn
  go_enter Tryz.func40, Tryz.ntmps40
  go_wp2_with fail
  go_loopw [8] (fun s8 wr => ∃ (k : Nat) (Dk : DiskS), k ≤ n ∧ s8 = .int .i64 k ∧ Hid (runOps D ops = runOps Dk (ops.drop k)) ∧ Hid (Moved F w wr g Dk) ∧ Hid (Dk.pend.length ≤ D.pend.length + k)) (fun s _ => n - (intOf s).toNat)
  case atStart => exact ⟨0, D, Nat.zero_le _, rfl, hide (by rw [List.drop_zero]), HM0, hide (Nat.le_refl _)⟩
  case round =>
    obtain ⟨k, Dk, hk, rfl, hR, hM, hP⟩ := hrel
    obtain ⟨wo, rfl⟩ : ∃ x : World, x = wr := ⟨_, rfl⟩
    by_cases hkn : k < n
    case neg =>
      obtain rfl : k = n := by omega
      have hki : ¬ (k : Int) < k := by omega
      have HE := hide (show runOps D ops = (Dk, 0) by rw [hR.out, List.drop_eq_nil_of_le (by have := HN.out; omega)]; rfl)
      go_wp2_with fail
      go_ret
      exact ⟨by rw [HE.out]; rfl, by rw [HE.out]; exact hM.out⟩
    have hki : (k : Int) < n := by omega
    have hkw : IntKind.i64.wrap ((k : Int) + 1) = (k : Int) + 1 := Go.IntWalk.i64_in _ (by omega)
    obtain ⟨o, ho⟩ : ∃ o, ops[k]? = some o := ⟨_, List.getElem?_eq_getElem (by have := HN.out; omega)⟩
    have hd : ops.drop k = o :: ops.drop (k + 1) := by
      have h1 := (List.getElem?_eq_some_iff.1 ho)
      obtain ⟨h2, h3⟩ := h1
      rw [List.drop_eq_getElem_cons h2, h3]
    have hca := HC.out k o ho
    obtain ⟨F1, hd1, hu1, hs1⟩ := hM.out
    have HU1 := hide hu1
    have HS1 := hide hs1
    have HD1 := hide hd1
    cases o with
    | write a s =>
      obtain ⟨pj, pa, ps, jb, hcc, hw, hf⟩ := hca
      have hlt := hw.lt
      have hcell := moved_cell hM.out hgf hcc
      have hf1 : pj ∉ F1 ∧ pa ∉ F1 ∧ ps ∉ F1 ∧ jb ∉ F1 := ⟨fun h => (hs1 _ h).elim hf.1 (by omega), fun h => (hs1 _ h).elim hf.2.1 (by omega), fun h => (hs1 _ h).elim hf.2.2.1 (by omega), fun h => (hs1 _ h).elim hf.2.2.2 (by omega)⟩
      have HWR := hide (writing1_any pj pa ps jb g a s wo hd1 (by have := hP.out; have := HP.out; omega) (hw.moved hM.out hf) hf1)
      have hrun : ∀ l, runOps Dk (DOp.write a s :: l) = if (Dk.write a s.data.toList).2 ≠ 0 then Dk.write a s.data.toList else runOps (Dk.write a s.data.toList).1 l := fun l => rfl
      have HRUN := hide (hR.out.trans (by rw [hd, hrun]))
      have HPN := hide (write_pend Dk a s.data.toList)
      obtain ⟨D2, hD2⟩ : ∃ x, Dk.write a s.data.toList = x := ⟨_, rfl⟩
      rw [hD2] at HWR HRUN HPN
      clear ho hd hcc hw hf hlt hf1 hrun hd1 hu1 hs1 hD2
      go_wp2_with fail
      refine HWR.out.mono ?_
      rintro e w2 ⟨rfl, hm2⟩
      have HM2 := hide (Moved.trans_ HU1.out HS1.out hm2)
      obtain ⟨er, her⟩ : ∃ x, D2.2 = x := ⟨_, rfl⟩
      rw [her]
      clear hm2
      by_cases he0 : er = 0
      · have heb : ((er : Int) != 0) = false := by simp [he0]
        have HE := hide (show runOps D ops = runOps D2.1 (ops.drop (k + 1)) by rw [HRUN.out, if_neg (by rw [her]; simp [he0])])
        clear he0 her hcell
        go_wp2_with fail
        go_roundw
        case rel => exact ⟨k + 1, D2.1, by omega, by go_num, HE, HM2, hide (by have := HPN.out; have := hP.out; omega)⟩
        case measure => simp [intOf] <;> omega
      · have heb : ((er : Int) != 0) = true := by simp [he0]
        have HE := hide (show runOps D ops = D2 by rw [HRUN.out, if_pos (by rw [her]; exact he0)])
        have HER := hide her
        clear he0 her hcell
        go_wp2_with fail
        go_ret
        exact ⟨by rw [HE.out, HER.out]; rfl, by rw [HE.out]; exact HM2.out⟩
    | sync =>
      have hcell := moved_cell hM.out hgf (show w.cell? ⟨gs, k, none⟩ = some (.func (.func 42) #[.pointer (some ⟨g, 0, none⟩)] #[]) from hca)
      have HWR := hide (sync_any wo hd1)
      have hrun : ∀ l, runOps Dk (DOp.sync :: l) = if Dk.sync.2 ≠ 0 then Dk.sync else runOps Dk.sync.1 l := fun l => rfl
      have HRUN := hide (hR.out.trans (by rw [hd, hrun]))
      have HPN := hide (sync_pend Dk)
      obtain ⟨D2, hD2⟩ : ∃ x, Dk.sync = x := ⟨_, rfl⟩
      rw [hD2] at HWR HRUN HPN
      clear ho hd hca hrun hd1 hu1 hs1 hD2
      go_wp2_with fail
      refine HWR.out.mono ?_
      rintro e w2 ⟨rfl, hm2⟩
      have HM2 := hide (Moved.trans_ HU1.out HS1.out hm2)
      obtain ⟨er, her⟩ : ∃ x, D2.2 = x := ⟨_, rfl⟩
      rw [her]
      clear hm2
      by_cases he0 : er = 0
      · have heb : ((er : Int) != 0) = false := by simp [he0]
        have HE := hide (show runOps D ops = runOps D2.1 (ops.drop (k + 1)) by rw [HRUN.out, if_neg (by rw [her]; simp [he0])])
        clear he0 her hcell
        go_wp2_with fail
        go_roundw
        case rel => exact ⟨k + 1, D2.1, by omega, by go_num, HE, HM2, hide (by have := HPN.out; have := hP.out; omega)⟩
        case measure => simp [intOf] <;> omega
      · have heb : ((er : Int) != 0) = true := by simp [he0]
        have HE := hide (show runOps D ops = D2 by rw [HRUN.out, if_pos (by rw [her]; exact he0)])
        have HER := hide her
        clear he0 her hcell
        go_wp2_with fail
        go_ret
        exact ⟨by rw [HE.out, HER.out]; rfl, by rw [HE.out]; exact HM2.out⟩

end Go.Proofs.YtafjolibfbccbaaGreatDoor
