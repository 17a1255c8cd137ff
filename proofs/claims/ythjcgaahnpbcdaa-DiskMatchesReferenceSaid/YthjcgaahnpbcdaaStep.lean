/-
  The statement's own 'step': one call on both disks.
-/
import Derived.Test.YthjcgaahnpbcdaaSteps
import Derived.Deep.RegionHeld3
namespace Go.Proofs.Ythjcgaahnpbcdaa
open Go.RowKit
set_option maxRecDepth 100000
set_option maxHeartbeats 1000000

theorem DiskIn.lts {B : Nat} {X : List Nat} {w0 w : World} {g : Nat} {D : DiskS} (h : DiskIn B X w0 w g D) : ∀ y ∈ X, y < w.heap.size := by
  obtain ⟨F, _, _, _, _, h⟩ := h
  exact h
/-- The state behind a call. -/
def stepS (D : DiskS) (y : StepP) : DiskS :=
  if pickN y.call 6 = 0 ∨ pickN y.call 6 = 1 then (D.write y.off (y.s.data.toList.take 300)).1 else if pickN y.call 6 = 2 then D.sync.1 else if pickN y.call 6 = 3 then D else if pickN y.call 6 = 4 then (D.cut y.n).1 else D.crash (y.keep.take 100) y.n

structure StepOk (B : Nat) (X : List Nat) (w0 w : World) (g x : Nat) (D : DiskS) (y : StepP) : Prop where
  both : Both B X w0 w g D x D
  base : B = w0.heap.size
  shown : D.vis = puts D.sure D.pend
  pend : D.pend.length ≤ 1000
  c : (Lit.int .i64 y.call).wf = true
  o : (Lit.int .i64 y.off).wf = true
  n : (Lit.int .i64 y.n).wf = true
  s : y.s.size ≤ maxLen
  k : IntsArg w0 y.a y.len y.cap y.keep
theorem same_after {B : Nat} {X : List Nat} {w0 w w1 w2 w3 : World} {g x b : Nat} {D R : DiskS} {o : Obj} (_h : Both B (b :: X) w0 w1 g D x R) (h1 : SameAt (b :: X) (w.alloc o).drew w2) (h2 : SameAt (b :: X) w2 w3) (hX : ∀ y ∈ X, y < w.heap.size) : SameAt X w w3 := by
  intro y hy
  rw [h2 y (List.mem_cons_of_mem _ hy), h1 y (List.mem_cons_of_mem _ hy)]
  exact Below.heap_alloc w o y (hX y hy)
/-- step: a Write. -/
theorem step_write {B : Nat} {X : List Nat} {w0 w : World} {g x : Nat} {D : DiskS} {y : StepP} (q : Int) (hq : q = 0 ∨ q = 1) (hpk : pickN y.call 6 = q) (h : StepOk B X w0 w g x D y) :
    Calls Try.prog 19 #[.pointer (some ⟨g, 0, none⟩), .pointer (some ⟨x, 0, none⟩), .agg #[.int .i64 y.call, .int .i64 y.off, .int .i64 y.n, .string y.s, .slice y.a y.len y.cap]] w fun e w' =>
      e = .returned (.bool true) ∧ Both B X w0 w' g (D.write y.off (y.s.data.toList.take 300)).1 x (D.write y.off (y.s.data.toList.take 300)).1 ∧ SameAt X w w' := by
  have H := hide h
  have h1 := h.both.more ((Upd.refl [] w).alloc (.cells #[.int .i64 y.call, .int .i64 y.off, .int .i64 y.n, .string y.s, .slice y.a y.len y.cap] 39)) w.heap.size (Nat.le_refl _) (by simp)
  have H1 := hide h1
  have HX := hide h.both.one.lts
  have L1 := hide (Blk.new w 39 [.int .i64 y.call, .int .i64 y.off, .int .i64 y.n, .string y.s, .slice y.a y.len y.cap])
  obtain ⟨sx, Es⟩ : ∃ sx, Hid (y.s.data.toList.take 300 = sx) := ⟨_, rfl⟩
  have CU := hide (cut_str y.s 300 (w.alloc (.cells #[.int .i64 y.call, .int .i64 y.off, .int .i64 y.n, .string y.s, .slice y.a y.len y.cap] 39)) h.s (by omega))
  have PK := pick_any y.call 6 (w.alloc (.cells #[.int .i64 y.call, .int .i64 y.off, .int .i64 y.n, .string y.s, .slice y.a y.len y.cap] 39)) h.c (by omega) (by omega)
  rw [hpk] at PK
  have PK' := hide PK
  rw [Es.out] at CU ⊢
  have WD := hide ((H1.out.step ((Upd.refl [] _).drew) (by simp) (by simp)).act (fun Y hY => write_in y.off ⟨sx.toArray⟩ hY (by have := H.out.pend; omega)))
  have WR : Hid (∀ wx, Both B (w.heap.size :: X) w0 wx g (D.write y.off sx).1 x D → Calls Try.prog 30 #[.pointer (some ⟨x, 0, none⟩), .int .i64 y.off, .string ⟨sx.toArray⟩] wx fun e w' => e = .returned (.int .i64 (D.write y.off sx).2) ∧ Both B (w.heap.size :: X) w0 w' g (D.write y.off sx).1 x (D.write y.off sx).1 ∧ SameAt (w.heap.size :: X) wx w') :=
    fun wx hx => hx.actR (fun G hG => refWrite y.off ⟨sx.toArray⟩ wx hG (by have := H.out.pend; omega))
  have k0 := L1.out.cell 0
  have k1 := L1.out.cell 1
  have k3 := L1.out.cell 3
  clear h h1 PK hpk
  rcases hq with rfl | rfl
  · go_enter Try.func19, Try.ntmps19
    go_wp2_with fail
    refine PK'.out.mono ?_
    rintro e w' ⟨rfl, rfl⟩
    go_wp2_with fail
    refine CU.out.mono ?_
    rintro e w' ⟨rfl, rfl⟩
    go_wp2_with fail
    refine wp_region_held_drew (S := (fun w' => w'.cell? ⟨w.heap.size, 1, none⟩ = some (.int .i64 y.off))) (by kernel_rfl) (by exact k1) (fun hHeld => ?_)
    refine wpAnyH_take (i := 0) (oi := ?oi0W) (v := ?v0W) ?oi0_0W (by kernel_rfl) ?ff0W ?rr0W ?hq0W (Or.inl ⟨?hw0W, ?hy0W⟩) (by assumption) ?rest0W
    case oi0_0W =>
      conv =>
        lhs
        whnf
        arg 1
        whnf
    case hq0W => exact fun _ _ _ h => h
    case ff0W => kernel_rfl
    case rr0W => kernel_rfl
    case hw0W => rfl
    case hy0W =>
      intro w hSw
      (try dsimp only at hSw)
      first
      | (go_simp; done)
      | (go_simp; with_reducible rfl)
    try simp only [Act.put, List.setIfInBounds_toArray, List.set_cons_zero, List.set_cons_succ]
    refine wpAnyH_take (i := 1) (oi := ?oi1W) (v := ?v1W) ?oi0_1W (by kernel_rfl) ?ff1W ?rr1W ?hq1W (Or.inl ⟨?hw1W, ?hy1W⟩) (by assumption) ?rest1W
    case oi0_1W =>
      conv =>
        lhs
        whnf
        arg 1
        whnf
    case hq1W => exact fun _ _ _ h => h
    case ff1W => kernel_rfl
    case rr1W => kernel_rfl
    case hw1W => rfl
    case hy1W =>
      intro w hSw
      (try dsimp only at hSw)
      first
      | (go_simp; done)
      | (go_simp; with_reducible rfl)
    try simp only [Act.put, List.setIfInBounds_toArray, List.set_cons_zero, List.set_cons_succ]
    refine wpAnyH_take (i := 2) (oi := ?oi2W) (v := ?v2W) ?oi0_2W (by kernel_rfl) ?ff2W ?rr2W ?hq2W (Or.inl ⟨?hw2W, ?hy2W⟩) (by assumption) ?rest2W
    case oi0_2W =>
      conv =>
        lhs
        whnf
        arg 1
        whnf
    case hq2W => exact fun _ _ _ h => h
    case ff2W => kernel_rfl
    case rr2W => kernel_rfl
    case hw2W => rfl
    case hy2W =>
      intro w hSw
      (try dsimp only at hSw)
      first
      | (go_simp; done)
      | (go_simp; with_reducible rfl)
    try simp only [Act.put, List.setIfInBounds_toArray, List.set_cons_zero, List.set_cons_succ]
    refine wpAnyH_take (i := 3) (oi := ?oi3W) (v := ?v3W) ?oi0_3W (by kernel_rfl) ?ff3W ?rr3W ?hq3W (Or.inl ⟨?hw3W, ?hy3W⟩) (by assumption) ?rest3W
    case oi0_3W =>
      conv =>
        lhs
        whnf
        arg 1
        whnf
    case hq3W => exact fun _ _ _ h => h
    case ff3W => kernel_rfl
    case rr3W => kernel_rfl
    case hw3W => rfl
    case hy3W =>
      intro w hSw
      (try dsimp only at hSw)
      first
      | (go_simp; done)
      | (go_simp; with_reducible rfl)
    try simp only [Act.put, List.setIfInBounds_toArray, List.set_cons_zero, List.set_cons_succ]
    refine wpAnyH_take (i := 5) (oi := ?oi5W) (v := ?v5W) ?oi0_5W (by kernel_rfl) ?ff5W ?rr5W ?hq5W (Or.inl ⟨?hw5W, ?hy5W⟩) (by assumption) ?rest5W
    case oi0_5W =>
      conv =>
        lhs
        whnf
        arg 1
        whnf
    case hq5W => exact fun _ _ _ h => h
    case ff5W => kernel_rfl
    case rr5W => kernel_rfl
    case hw5W => rfl
    case hy5W =>
      intro w hSw
      (try dsimp only at hSw)
      first
      | (go_simp; done)
      | (go_simp; with_reducible rfl)
    try simp only [Act.put, List.setIfInBounds_toArray, List.set_cons_zero, List.set_cons_succ]
    refine wpAnyH_take (i := 6) (oi := ?oi6W) (v := ?v6W) ?oi0_6W (by kernel_rfl) ?ff6W ?rr6W ?hq6W (Or.inl ⟨?hw6W, ?hy6W⟩) (by assumption) ?rest6W
    case oi0_6W =>
      conv =>
        lhs
        whnf
        arg 1
        whnf
    case hq6W => exact fun _ _ _ h => h
    case ff6W => kernel_rfl
    case rr6W => kernel_rfl
    case hw6W => rfl
    case hy6W =>
      intro w hSw
      (try dsimp only at hSw)
      first
      | (go_simp; done)
      | (go_simp; with_reducible rfl)
    try simp only [Act.put, List.setIfInBounds_toArray, List.set_cons_zero, List.set_cons_succ]
    refine wpAnyH_take (i := 7) (oi := ?oi7W) (v := ?v7W) ?oi0_7W (by kernel_rfl) ?ff7W ?rr7W ?hq7W (Or.inl ⟨?hw7W, ?hy7W⟩) (by assumption) ?rest7W
    case oi0_7W =>
      conv =>
        lhs
        whnf
        arg 1
        whnf
    case hq7W => exact fun _ _ _ h => h
    case ff7W => kernel_rfl
    case rr7W => kernel_rfl
    case hw7W => rfl
    case hy7W =>
      intro w hSw
      (try dsimp only at hSw)
      first
      | (go_simp; done)
      | (go_simp; with_reducible rfl)
    try simp only [Act.put, List.setIfInBounds_toArray, List.set_cons_zero, List.set_cons_succ]
    refine wpAnyH_take (i := 8) (oi := ?oi8W) (v := ?v8W) ?oi0_8W (by kernel_rfl) ?ff8W ?rr8W ?hq8W (Or.inl ⟨?hw8W, ?hy8W⟩) (by assumption) ?rest8W
    case oi0_8W =>
      conv =>
        lhs
        whnf
        arg 1
        whnf
    case hq8W => exact fun _ _ _ h => h
    case ff8W => kernel_rfl
    case rr8W => kernel_rfl
    case hw8W => rfl
    case hy8W =>
      intro w hSw
      (try dsimp only at hSw)
      first
      | (go_simp; done)
      | (go_simp; with_reducible rfl)
    try simp only [Act.put, List.setIfInBounds_toArray, List.set_cons_zero, List.set_cons_succ]
    refine wpAnyH_ready (rs := [4]) (by kernel_rfl) (by simp) (AllReadyH.cons (o := ?oi4W) ?oi0_4W (fun K hK => ?_) AllReadyH.nil)
    case oi0_4W =>
      conv =>
        lhs
        whnf
        arg 1
        whnf
    go_simp
    go_at_call 21
    have TT := WD.out
    with_reducible (refine TT.mono ?_)
    clear TT
    rintro e w6 ⟨rfl, d6, s6⟩
    have H6 := hide d6
    have S6 := hide s6
    have L6 := hide (s6.blk (by simp) L1.out)
    have i60 := L6.out.cell 1
    clear d6 s6
    (try dsimp only)
    refine hK.out _ _ (by exact i60) (fun hHeld => ?_)
    clear hK K
    try simp only [Act.put, List.setIfInBounds_toArray, List.set_cons_zero, List.set_cons_succ]
    refine wpAnyH_ready (rs := [9]) (by kernel_rfl) (by simp) (AllReadyH.cons (o := ?oi9W) ?oi0_9W (fun K hK => ?_) AllReadyH.nil)
    case oi0_9W =>
      conv =>
        lhs
        whnf
        arg 1
        whnf
    go_simp
    go_at_call 30
    have TT := (WR.out _ H6.out)
    with_reducible (refine TT.mono ?_)
    clear TT
    rintro e w7 ⟨rfl, d7, s7⟩
    have H7 := hide d7
    have S7 := hide s7
    have L7 := hide (s7.blk (by simp) L6.out)
    have i70 := L7.out.cell 1
    clear d7 s7
    (try dsimp only)
    refine hK.out _ _ (by exact i70) (fun hHeld => ?_)
    clear hK K
    try simp only [Act.put, List.setIfInBounds_toArray, List.set_cons_zero, List.set_cons_succ]
    refine wpAnyH_take (i := 10) (oi := ?oi10W) (v := ?v10W) ?oi0_10W (by kernel_rfl) ?ff10W ?rr10W ?hq10W (Or.inl ⟨?hw10W, ?hy10W⟩) (by assumption) ?rest10W
    case oi0_10W =>
      conv =>
        lhs
        whnf
        arg 1
        whnf
    case hq10W => exact fun _ _ _ h => h
    case ff10W => kernel_rfl
    case rr10W => kernel_rfl
    case hw10W => rfl
    case hy10W =>
      intro w hSw
      (try dsimp only at hSw)
      first
      | (go_simp; done)
      | (go_simp; with_reducible rfl)
    try simp only [Act.put, List.setIfInBounds_toArray, List.set_cons_zero, List.set_cons_succ]
    refine wpAnyH_take (i := 11) (oi := ?oi11W) (v := ?v11W) ?oi0_11W (by kernel_rfl) ?ff11W ?rr11W ?hq11W (Or.inl ⟨?hw11W, ?hy11W⟩) (by assumption) ?rest11W
    case oi0_11W =>
      conv =>
        lhs
        whnf
        arg 1
        whnf
    case hq11W => exact fun _ _ _ h => h
    case ff11W => kernel_rfl
    case rr11W => kernel_rfl
    case hw11W => rfl
    case hy11W =>
      intro w hSw
      (try dsimp only at hSw)
      first
      | (go_simp; done)
      | (go_simp; with_reducible rfl)
    try simp only [Act.put, List.setIfInBounds_toArray, List.set_cons_zero, List.set_cons_succ]
    refine wpAnyH_done (by kernel_rfl) ?_ _
    go_wp2_with fail
    go_ret
    exact ⟨rfl, H7.out.mono (fun _ hz => List.mem_cons_of_mem _ hz), same_after H1.out S6.out S7.out HX.out⟩
  · go_enter Try.func19, Try.ntmps19
    go_wp2_with fail
    refine PK'.out.mono ?_
    rintro e w' ⟨rfl, rfl⟩
    go_wp2_with fail
    refine CU.out.mono ?_
    rintro e w' ⟨rfl, rfl⟩
    go_wp2_with fail
    refine wp_region_held_drew (S := (fun w' => w'.cell? ⟨w.heap.size, 1, none⟩ = some (.int .i64 y.off))) (by kernel_rfl) (by exact k1) (fun hHeld => ?_)
    refine wpAnyH_take (i := 0) (oi := ?oi0Wb) (v := ?v0Wb) ?oi0_0Wb (by kernel_rfl) ?ff0Wb ?rr0Wb ?hq0Wb (Or.inl ⟨?hw0Wb, ?hy0Wb⟩) (by assumption) ?rest0Wb
    case oi0_0Wb =>
      conv =>
        lhs
        whnf
        arg 1
        whnf
    case hq0Wb => exact fun _ _ _ h => h
    case ff0Wb => kernel_rfl
    case rr0Wb => kernel_rfl
    case hw0Wb => rfl
    case hy0Wb =>
      intro w hSw
      (try dsimp only at hSw)
      first
      | (go_simp; done)
      | (go_simp; with_reducible rfl)
    try simp only [Act.put, List.setIfInBounds_toArray, List.set_cons_zero, List.set_cons_succ]
    refine wpAnyH_take (i := 1) (oi := ?oi1Wb) (v := ?v1Wb) ?oi0_1Wb (by kernel_rfl) ?ff1Wb ?rr1Wb ?hq1Wb (Or.inl ⟨?hw1Wb, ?hy1Wb⟩) (by assumption) ?rest1Wb
    case oi0_1Wb =>
      conv =>
        lhs
        whnf
        arg 1
        whnf
    case hq1Wb => exact fun _ _ _ h => h
    case ff1Wb => kernel_rfl
    case rr1Wb => kernel_rfl
    case hw1Wb => rfl
    case hy1Wb =>
      intro w hSw
      (try dsimp only at hSw)
      first
      | (go_simp; done)
      | (go_simp; with_reducible rfl)
    try simp only [Act.put, List.setIfInBounds_toArray, List.set_cons_zero, List.set_cons_succ]
    refine wpAnyH_take (i := 2) (oi := ?oi2Wb) (v := ?v2Wb) ?oi0_2Wb (by kernel_rfl) ?ff2Wb ?rr2Wb ?hq2Wb (Or.inl ⟨?hw2Wb, ?hy2Wb⟩) (by assumption) ?rest2Wb
    case oi0_2Wb =>
      conv =>
        lhs
        whnf
        arg 1
        whnf
    case hq2Wb => exact fun _ _ _ h => h
    case ff2Wb => kernel_rfl
    case rr2Wb => kernel_rfl
    case hw2Wb => rfl
    case hy2Wb =>
      intro w hSw
      (try dsimp only at hSw)
      first
      | (go_simp; done)
      | (go_simp; with_reducible rfl)
    try simp only [Act.put, List.setIfInBounds_toArray, List.set_cons_zero, List.set_cons_succ]
    refine wpAnyH_take (i := 3) (oi := ?oi3Wb) (v := ?v3Wb) ?oi0_3Wb (by kernel_rfl) ?ff3Wb ?rr3Wb ?hq3Wb (Or.inl ⟨?hw3Wb, ?hy3Wb⟩) (by assumption) ?rest3Wb
    case oi0_3Wb =>
      conv =>
        lhs
        whnf
        arg 1
        whnf
    case hq3Wb => exact fun _ _ _ h => h
    case ff3Wb => kernel_rfl
    case rr3Wb => kernel_rfl
    case hw3Wb => rfl
    case hy3Wb =>
      intro w hSw
      (try dsimp only at hSw)
      first
      | (go_simp; done)
      | (go_simp; with_reducible rfl)
    try simp only [Act.put, List.setIfInBounds_toArray, List.set_cons_zero, List.set_cons_succ]
    refine wpAnyH_take (i := 5) (oi := ?oi5Wb) (v := ?v5Wb) ?oi0_5Wb (by kernel_rfl) ?ff5Wb ?rr5Wb ?hq5Wb (Or.inl ⟨?hw5Wb, ?hy5Wb⟩) (by assumption) ?rest5Wb
    case oi0_5Wb =>
      conv =>
        lhs
        whnf
        arg 1
        whnf
    case hq5Wb => exact fun _ _ _ h => h
    case ff5Wb => kernel_rfl
    case rr5Wb => kernel_rfl
    case hw5Wb => rfl
    case hy5Wb =>
      intro w hSw
      (try dsimp only at hSw)
      first
      | (go_simp; done)
      | (go_simp; with_reducible rfl)
    try simp only [Act.put, List.setIfInBounds_toArray, List.set_cons_zero, List.set_cons_succ]
    refine wpAnyH_take (i := 6) (oi := ?oi6Wb) (v := ?v6Wb) ?oi0_6Wb (by kernel_rfl) ?ff6Wb ?rr6Wb ?hq6Wb (Or.inl ⟨?hw6Wb, ?hy6Wb⟩) (by assumption) ?rest6Wb
    case oi0_6Wb =>
      conv =>
        lhs
        whnf
        arg 1
        whnf
    case hq6Wb => exact fun _ _ _ h => h
    case ff6Wb => kernel_rfl
    case rr6Wb => kernel_rfl
    case hw6Wb => rfl
    case hy6Wb =>
      intro w hSw
      (try dsimp only at hSw)
      first
      | (go_simp; done)
      | (go_simp; with_reducible rfl)
    try simp only [Act.put, List.setIfInBounds_toArray, List.set_cons_zero, List.set_cons_succ]
    refine wpAnyH_take (i := 7) (oi := ?oi7Wb) (v := ?v7Wb) ?oi0_7Wb (by kernel_rfl) ?ff7Wb ?rr7Wb ?hq7Wb (Or.inl ⟨?hw7Wb, ?hy7Wb⟩) (by assumption) ?rest7Wb
    case oi0_7Wb =>
      conv =>
        lhs
        whnf
        arg 1
        whnf
    case hq7Wb => exact fun _ _ _ h => h
    case ff7Wb => kernel_rfl
    case rr7Wb => kernel_rfl
    case hw7Wb => rfl
    case hy7Wb =>
      intro w hSw
      (try dsimp only at hSw)
      first
      | (go_simp; done)
      | (go_simp; with_reducible rfl)
    try simp only [Act.put, List.setIfInBounds_toArray, List.set_cons_zero, List.set_cons_succ]
    refine wpAnyH_take (i := 8) (oi := ?oi8Wb) (v := ?v8Wb) ?oi0_8Wb (by kernel_rfl) ?ff8Wb ?rr8Wb ?hq8Wb (Or.inl ⟨?hw8Wb, ?hy8Wb⟩) (by assumption) ?rest8Wb
    case oi0_8Wb =>
      conv =>
        lhs
        whnf
        arg 1
        whnf
    case hq8Wb => exact fun _ _ _ h => h
    case ff8Wb => kernel_rfl
    case rr8Wb => kernel_rfl
    case hw8Wb => rfl
    case hy8Wb =>
      intro w hSw
      (try dsimp only at hSw)
      first
      | (go_simp; done)
      | (go_simp; with_reducible rfl)
    try simp only [Act.put, List.setIfInBounds_toArray, List.set_cons_zero, List.set_cons_succ]
    refine wpAnyH_ready (rs := [4]) (by kernel_rfl) (by simp) (AllReadyH.cons (o := ?oi4Wb) ?oi0_4Wb (fun K hK => ?_) AllReadyH.nil)
    case oi0_4Wb =>
      conv =>
        lhs
        whnf
        arg 1
        whnf
    go_simp
    go_at_call 21
    have TT := WD.out
    with_reducible (refine TT.mono ?_)
    clear TT
    rintro e w6 ⟨rfl, d6, s6⟩
    have H6 := hide d6
    have S6 := hide s6
    have L6 := hide (s6.blk (by simp) L1.out)
    have i60 := L6.out.cell 1
    clear d6 s6
    (try dsimp only)
    refine hK.out _ _ (by exact i60) (fun hHeld => ?_)
    clear hK K
    try simp only [Act.put, List.setIfInBounds_toArray, List.set_cons_zero, List.set_cons_succ]
    refine wpAnyH_ready (rs := [9]) (by kernel_rfl) (by simp) (AllReadyH.cons (o := ?oi9Wb) ?oi0_9Wb (fun K hK => ?_) AllReadyH.nil)
    case oi0_9Wb =>
      conv =>
        lhs
        whnf
        arg 1
        whnf
    go_simp
    go_at_call 30
    have TT := (WR.out _ H6.out)
    with_reducible (refine TT.mono ?_)
    clear TT
    rintro e w7 ⟨rfl, d7, s7⟩
    have H7 := hide d7
    have S7 := hide s7
    have L7 := hide (s7.blk (by simp) L6.out)
    have i70 := L7.out.cell 1
    clear d7 s7
    (try dsimp only)
    refine hK.out _ _ (by exact i70) (fun hHeld => ?_)
    clear hK K
    try simp only [Act.put, List.setIfInBounds_toArray, List.set_cons_zero, List.set_cons_succ]
    refine wpAnyH_take (i := 10) (oi := ?oi10Wb) (v := ?v10Wb) ?oi0_10Wb (by kernel_rfl) ?ff10Wb ?rr10Wb ?hq10Wb (Or.inl ⟨?hw10Wb, ?hy10Wb⟩) (by assumption) ?rest10Wb
    case oi0_10Wb =>
      conv =>
        lhs
        whnf
        arg 1
        whnf
    case hq10Wb => exact fun _ _ _ h => h
    case ff10Wb => kernel_rfl
    case rr10Wb => kernel_rfl
    case hw10Wb => rfl
    case hy10Wb =>
      intro w hSw
      (try dsimp only at hSw)
      first
      | (go_simp; done)
      | (go_simp; with_reducible rfl)
    try simp only [Act.put, List.setIfInBounds_toArray, List.set_cons_zero, List.set_cons_succ]
    refine wpAnyH_take (i := 11) (oi := ?oi11Wb) (v := ?v11Wb) ?oi0_11Wb (by kernel_rfl) ?ff11Wb ?rr11Wb ?hq11Wb (Or.inl ⟨?hw11Wb, ?hy11Wb⟩) (by assumption) ?rest11Wb
    case oi0_11Wb =>
      conv =>
        lhs
        whnf
        arg 1
        whnf
    case hq11Wb => exact fun _ _ _ h => h
    case ff11Wb => kernel_rfl
    case rr11Wb => kernel_rfl
    case hw11Wb => rfl
    case hy11Wb =>
      intro w hSw
      (try dsimp only at hSw)
      first
      | (go_simp; done)
      | (go_simp; with_reducible rfl)
    try simp only [Act.put, List.setIfInBounds_toArray, List.set_cons_zero, List.set_cons_succ]
    refine wpAnyH_done (by kernel_rfl) ?_ _
    go_wp2_with fail
    go_ret
    exact ⟨rfl, H7.out.mono (fun _ hz => List.mem_cons_of_mem _ hz), same_after H1.out S6.out S7.out HX.out⟩
end Go.Proofs.Ythjcgaahnpbcdaa
