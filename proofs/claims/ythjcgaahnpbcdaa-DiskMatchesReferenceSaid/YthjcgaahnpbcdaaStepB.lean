/-
  The statement's own 'step': Sync, Read, Cut and Crash.
-/
import Derived.Test.YthjcgaahnpbcdaaStep
import Derived.Deep.RegionHeld3
namespace Go.Proofs.Ythjcgaahnpbcdaa
open Go.RowKit
set_option maxRecDepth 100000
set_option maxHeartbeats 1000000

theorem same_after2 {B : Nat} {X : List Nat} {w0 w w1 w2 w3 : World} {g x b : Nat} {D R : DiskS} {o : Obj} (_h : Both B (b :: X) w0 w1 g D x R) (h1 : SameAt (b :: X) (w.alloc o) w2) (h2 : SameAt (b :: X) w2 w3) (hX : ∀ y ∈ X, y < w.heap.size) : SameAt X w w3 := by
  intro y hy
  rw [h2 y (List.mem_cons_of_mem _ hy), h1 y (List.mem_cons_of_mem _ hy)]
  exact Below.heap_alloc w o y (hX y hy)
theorem SameAt.refl (X : List Nat) (w : World) : SameAt X w w := fun _ _ => rfl
theorem Both.read {B : Nat} {X : List Nat} {w0 w : World} {g x : Nat} {D R : DiskS} (h : Both B X w0 w g D x R) (off n : Int) (hp : R.pend.length ≤ 1000000000) (hs : R.vis = puts R.sure R.pend) :
    Calls Try.prog 20 #[.pointer (some ⟨x, 0, none⟩), .int .i64 off, .int .i64 n] w fun e w' => e = .returned (.tuple #[.string ⟨(R.read off n).1.toArray⟩, .int .i64 (R.read off n).2]) ∧ Both B X w0 w' g D x R ∧ SameAt X w w' := by
  have h0 := h
  obtain ⟨F, G, h1, h2, d1, d2, h4, h5, h6⟩ := h
  refine (refRead off n w h2 hp hs).mono ?_
  rintro e w' ⟨he, hu⟩
  exact ⟨he, h0.step hu (by simp) (by simp), fun y hy => hu.block y (h6 y hy) (by simp)⟩
theorem Both.refCrashB {B : Nat} {X : List Nat} {w0 w : World} {g x : Nat} {D R : DiskS} (h : Both B X w0 w g D x R) (a : Option Addr) (n c : Nat) (zs : List Int) (torn : Int) (hp : R.pend.length ≤ 1000000000) (ht : torn ≤ 9223372036854775807) (hz : zs.length = n) (hn : n ≤ 1000000000)
    (hI : ∀ j v, zs[j]? = some v → ∃ b o, a = some ⟨b, o, none⟩ ∧ b < B ∧ w.cell? ⟨b, o + j, none⟩ = some (.int .i64 v)) :
    Calls Try.prog 33 #[.pointer (some ⟨x, 0, none⟩), .slice a n c, .int .i64 torn] w fun e w' => e = .returned (.tuple #[]) ∧ Both B X w0 w' g D x (R.crash zs torn) ∧ SameAt X w w' := by
  have hroom := h.one.room
  have hd := h
  obtain ⟨F, G, h1, h2, d1, d2, h4, h5, h6⟩ := hd
  have l1 := h1.lt
  refine (refCrash a n c zs torn w h2 hp ht hz hn (fun j v hv => ?_)).mono ?_
  · obtain ⟨b, o, e1, e2, e3⟩ := hI j v hv
    exact ⟨b, o, e1, by omega, fun hm => by have := (d2 b hm).1; omega, e3⟩
  · rintro e w' ⟨he, G', k1, k2, k3⟩
    have hs := k2.size
    refine ⟨he, ⟨F, G', h1.upd k2 (fun k hk => (d1 k hk).2.2), k1, fun k hk => ⟨(d1 k hk).1, (d1 k hk).2.1, fun hm => ?_⟩, fun k hk => ?_, h4.trans (k2.toBelow h5 (fun y hy => (d2 y hy).1)), by omega, fun y hy => Nat.lt_of_lt_of_le (h6 y hy) hs⟩, fun y hy => k2.block y (h6 y hy) (fun hm => (d2 y hm).2 hy)⟩
    · rcases k3 k hm with hm | hm
      · exact (d1 k hk).2.2 hm
      · have := l1 k hk; omega
    · rcases k3 k hk with hk | hk
      · exact d2 k hk
      · exact ⟨by omega, fun hm => by have := h6 k hm; omega⟩
theorem Both.crashR {B : Nat} {X : List Nat} {w0 w : World} {g x : Nat} {D R : DiskS} {a : Option Addr} {len cap : Nat} {zs : List Int} (h : Both B X w0 w g D x R) (hB : B = w0.heap.size) (hI : IntsArg w0 a len cap zs) (n c : Nat) (hn : n ≤ len) (hn2 : n ≤ 100) (torn : Int) (ht : torn ≤ 9223372036854775807) (hp : R.pend.length ≤ 1000000000) :
    Calls Try.prog 33 #[.pointer (some ⟨x, 0, none⟩), .slice a n c, .int .i64 torn] w fun e w' => e = .returned (.tuple #[]) ∧ Both B X w0 w' g D x (R.crash (zs.take n) torn) ∧ SameAt X w w' := by
  have hz : (zs.take n).length = n := by have := hI.1; simp; omega
  have hi := (hI.ints n hn c).below (hB ▸ h.one.below)
  have hroom := h.one.room
  obtain ⟨F, G, h1, h2, d1, d2, h4, h5, h6⟩ := h
  have h : Both B X w0 w g D x R := ⟨F, G, h1, h2, d1, d2, h4, h5, h6⟩
  refine h.refCrashB a n c (zs.take n) torn hp ht hz (by omega) ?_
  intro j v hv
  rcases hi with ⟨a', c', e1, e2⟩ | ⟨b, off, cap', e1, hb, hc⟩
  · rw [e2] at hv; simp at hv
  · have hj : j < (zs.take n).length := by
      rcases Nat.lt_or_ge j (zs.take n).length with h | h
      · exact h
      · rw [List.getElem?_eq_none h] at hv; cases hv
    injection e1 with e1 _ _
    refine ⟨b, off, e1, by omega, ?_⟩
    rw [hc j hj, hv]; rfl
theorem DiskIn.crashA {B : Nat} {X : List Nat} {w0 w : World} {g : Nat} {D : DiskS} {a : Option Addr} {len cap : Nat} {zs : List Int} (h : DiskIn B X w0 w g D) (hB : B = w0.heap.size) (hI : IntsArg w0 a len cap zs) (n c : Nat) (hn : n ≤ len) (hn2 : n ≤ 100) (torn : Int) (hp : D.pend.length ≤ 1000000000) :
    Calls Try.prog 25 #[.pointer (some ⟨g, 0, none⟩), .slice a n c, .int .i64 torn] w fun e w' => e = .returned (.int .i64 0) ∧ DiskIn B X w0 w' g (D.crash (zs.take n) torn) ∧ SameAt X w w' := by
  have hz : (zs.take n).length = n := by have := hI.1; simp; omega
  have hi := (hI.ints n hn c).below (hB ▸ h.below)
  exact crash_in _ (zs.take n) torn h hp (by omega) (hi.mono (by have := h.room; omega))
theorem take_min (zs : List Int) (len : Nat) (h : zs.length = len) : zs.take (min (len : Int) 100).toNat = zs.take 100 := by
  rcases Nat.lt_or_ge len 100 with h1 | h1
  · rw [List.take_of_length_le (by omega), List.take_of_length_le (by omega)]
  · rw [show (min (len : Int) 100).toNat = 100 by omega]
/-- step: a Sync. -/
theorem step_sync {B : Nat} {X : List Nat} {w0 w : World} {g x : Nat} {D : DiskS} {y : StepP} (hpk : pickN y.call 6 = 2) (h : StepOk B X w0 w g x D y) :
    Calls Try.prog 19 #[.pointer (some ⟨g, 0, none⟩), .pointer (some ⟨x, 0, none⟩), .agg #[.int .i64 y.call, .int .i64 y.off, .int .i64 y.n, .string y.s, .slice y.a y.len y.cap]] w fun e w' =>
      e = .returned (.bool true) ∧ Both B X w0 w' g D.sync.1 x D.sync.1 ∧ SameAt X w w' := by
  have H := hide h
  have h1 := h.both.more ((Upd.refl [] w).alloc (.cells #[.int .i64 y.call, .int .i64 y.off, .int .i64 y.n, .string y.s, .slice y.a y.len y.cap] 39)) w.heap.size (Nat.le_refl _) (by simp)
  have H1 := hide h1
  have HX := hide h.both.one.lts
  have L1 := hide (Blk.new w 39 [.int .i64 y.call, .int .i64 y.off, .int .i64 y.n, .string y.s, .slice y.a y.len y.cap])
  have CU := hide (cut_str y.s 300 (w.alloc (.cells #[.int .i64 y.call, .int .i64 y.off, .int .i64 y.n, .string y.s, .slice y.a y.len y.cap] 39)) h.s (by omega))
  have PK := pick_any y.call 6 (w.alloc (.cells #[.int .i64 y.call, .int .i64 y.off, .int .i64 y.n, .string y.s, .slice y.a y.len y.cap] 39)) h.c (by omega) (by omega)
  have hp9 : D.pend.length ≤ 1000000000 := by have := h.pend; omega
  have HS := hide h.shown
  rw [hpk] at PK
  have PK' := hide PK
  have HP := hide hp9
  have k0 := L1.out.cell 0
  have k1 := L1.out.cell 1
  have k2 := L1.out.cell 2
  have k4 := L1.out.cell 4
  clear h h1 PK hp9
  go_enter Try.func19, Try.ntmps19
  go_wp2_with fail
  refine PK'.out.mono ?_
  rintro e w' ⟨rfl, rfl⟩
  go_wp2_with fail
  refine (H1.out.act (fun Y hY => sync_in hY)).mono ?_
  rintro e w6 ⟨rfl, d6, s6⟩
  have H6 := hide d6
  have S6 := hide s6
  have L6 := hide (s6.blk (by simp) L1.out)
  have i61 := L6.out.cell 1
  have i62 := L6.out.cell 2
  clear d6 s6
  go_wp2_with fail
  refine (H6.out.actR (fun G hG => refSync w6 hG HP.out HS.out)).mono ?_
  rintro e w7 ⟨rfl, d7, s7⟩
  have H7 := hide d7
  have S7 := hide s7
  have L7 := hide (s7.blk (by simp) L6.out)
  have i71 := L7.out.cell 1
  have i72 := L7.out.cell 2
  clear d7 s7
  go_wp2_with fail
  go_ret
  exact ⟨rfl, H7.out.mono (fun _ hz => List.mem_cons_of_mem _ hz), same_after2 H1.out S6.out S7.out HX.out⟩
/-- step: a Read. -/
theorem step_read {B : Nat} {X : List Nat} {w0 w : World} {g x : Nat} {D : DiskS} {y : StepP} (hpk : pickN y.call 6 = 3) (h : StepOk B X w0 w g x D y) :
    Calls Try.prog 19 #[.pointer (some ⟨g, 0, none⟩), .pointer (some ⟨x, 0, none⟩), .agg #[.int .i64 y.call, .int .i64 y.off, .int .i64 y.n, .string y.s, .slice y.a y.len y.cap]] w fun e w' =>
      e = .returned (.bool true) ∧ Both B X w0 w' g D x D ∧ SameAt X w w' := by
  have H := hide h
  have h1 := h.both.more ((Upd.refl [] w).alloc (.cells #[.int .i64 y.call, .int .i64 y.off, .int .i64 y.n, .string y.s, .slice y.a y.len y.cap] 39)) w.heap.size (Nat.le_refl _) (by simp)
  have H1 := hide h1
  have HX := hide h.both.one.lts
  have L1 := hide (Blk.new w 39 [.int .i64 y.call, .int .i64 y.off, .int .i64 y.n, .string y.s, .slice y.a y.len y.cap])
  have CU := hide (cut_str y.s 300 (w.alloc (.cells #[.int .i64 y.call, .int .i64 y.off, .int .i64 y.n, .string y.s, .slice y.a y.len y.cap] 39)) h.s (by omega))
  have PK := pick_any y.call 6 (w.alloc (.cells #[.int .i64 y.call, .int .i64 y.off, .int .i64 y.n, .string y.s, .slice y.a y.len y.cap] 39)) h.c (by omega) (by omega)
  have hp9 : D.pend.length ≤ 1000000000 := by have := h.pend; omega
  have HS := hide h.shown
  rw [hpk] at PK
  have PK' := hide PK
  have HP := hide hp9
  have k0 := L1.out.cell 0
  have k1 := L1.out.cell 1
  have k2 := L1.out.cell 2
  have k4 := L1.out.cell 4
  clear h h1 PK hp9
  go_enter Try.func19, Try.ntmps19
  go_wp2_with fail
  refine PK'.out.mono ?_
  rintro e w' ⟨rfl, rfl⟩
  go_wp2_with fail
  refine (read_in y.off y.n H1.out.one).mono ?_
  rintro e w6 ⟨rfl, rfl⟩
  go_wp2_with fail
  refine (H1.out.read y.off y.n HP.out HS.out).mono ?_
  rintro e w7 ⟨rfl, d7, s7⟩
  have H7 := hide d7
  have S7 := hide s7
  clear d7 s7
  go_wp2_with fail
  go_ret
  exact ⟨rfl, H7.out.mono (fun _ hz => List.mem_cons_of_mem _ hz), same_after2 H1.out (SameAt.refl _ _) S7.out HX.out⟩
/-- step: a Cut. -/
theorem step_cut {B : Nat} {X : List Nat} {w0 w : World} {g x : Nat} {D : DiskS} {y : StepP} (hpk : pickN y.call 6 = 4) (h : StepOk B X w0 w g x D y) :
    Calls Try.prog 19 #[.pointer (some ⟨g, 0, none⟩), .pointer (some ⟨x, 0, none⟩), .agg #[.int .i64 y.call, .int .i64 y.off, .int .i64 y.n, .string y.s, .slice y.a y.len y.cap]] w fun e w' =>
      e = .returned (.bool true) ∧ Both B X w0 w' g (D.cut y.n).1 x (D.cut y.n).1 ∧ SameAt X w w' := by
  have H := hide h
  have h1 := h.both.more ((Upd.refl [] w).alloc (.cells #[.int .i64 y.call, .int .i64 y.off, .int .i64 y.n, .string y.s, .slice y.a y.len y.cap] 39)) w.heap.size (Nat.le_refl _) (by simp)
  have H1 := hide h1
  have HX := hide h.both.one.lts
  have L1 := hide (Blk.new w 39 [.int .i64 y.call, .int .i64 y.off, .int .i64 y.n, .string y.s, .slice y.a y.len y.cap])
  have CU := hide (cut_str y.s 300 (w.alloc (.cells #[.int .i64 y.call, .int .i64 y.off, .int .i64 y.n, .string y.s, .slice y.a y.len y.cap] 39)) h.s (by omega))
  have PK := pick_any y.call 6 (w.alloc (.cells #[.int .i64 y.call, .int .i64 y.off, .int .i64 y.n, .string y.s, .slice y.a y.len y.cap] 39)) h.c (by omega) (by omega)
  have hp9 : D.pend.length ≤ 1000000000 := by have := h.pend; omega
  have HS := hide h.shown
  have hn9 : y.n ≤ 9223372036854775807 := by have := (bounds_i64 h.n).2; exact this
  have WD := hide ((H1.out.step ((Upd.refl [] _).drew) (by simp) (by simp)).act (fun Y hY => cut_in y.n hY hn9))
  have WR : Hid (∀ wx, Both B (w.heap.size :: X) w0 wx g (D.cut y.n).1 x D → Calls Try.prog 32 #[.pointer (some ⟨x, 0, none⟩), .int .i64 y.n] wx fun e w' => e = .returned (.int .i64 (D.cut y.n).2) ∧ Both B (w.heap.size :: X) w0 w' g (D.cut y.n).1 x (D.cut y.n).1 ∧ SameAt (w.heap.size :: X) wx w') :=
    fun wx hx => hx.actR (fun G hG => refCut y.n wx hG hn9)
  clear hn9
  rw [hpk] at PK
  have PK' := hide PK
  have HP := hide hp9
  have k0 := L1.out.cell 0
  have k1 := L1.out.cell 1
  have k2 := L1.out.cell 2
  have k4 := L1.out.cell 4
  clear h h1 PK hp9
  go_enter Try.func19, Try.ntmps19
  go_wp2_with fail
  refine PK'.out.mono ?_
  rintro e w' ⟨rfl, rfl⟩
  go_wp2_with fail
  refine wp_region_held_drew (S := (fun w' => w'.cell? ⟨w.heap.size, 2, none⟩ = some (.int .i64 y.n))) (by kernel_rfl) (by exact k2) (fun hHeld => ?_)
  refine wpAnyH_take (i := 0) (oi := ?oi0C) (v := ?v0C) ?oi0_0C (by kernel_rfl) ?ff0C ?rr0C ?hq0C (Or.inl ⟨?hw0C, ?hy0C⟩) (by assumption) ?rest0C
  case oi0_0C =>
    conv =>
      lhs
      whnf
      arg 1
      whnf
  case hq0C => exact fun _ _ _ h => h
  case ff0C => kernel_rfl
  case rr0C => kernel_rfl
  case hw0C => rfl
  case hy0C =>
    intro w hSw
    (try dsimp only at hSw)
    first
    | (go_simp; done)
    | (go_simp; with_reducible rfl)
  try simp only [Act.put, List.setIfInBounds_toArray, List.set_cons_zero, List.set_cons_succ]
  refine wpAnyH_take (i := 1) (oi := ?oi1C) (v := ?v1C) ?oi0_1C (by kernel_rfl) ?ff1C ?rr1C ?hq1C (Or.inl ⟨?hw1C, ?hy1C⟩) (by assumption) ?rest1C
  case oi0_1C =>
    conv =>
      lhs
      whnf
      arg 1
      whnf
  case hq1C => exact fun _ _ _ h => h
  case ff1C => kernel_rfl
  case rr1C => kernel_rfl
  case hw1C => rfl
  case hy1C =>
    intro w hSw
    (try dsimp only at hSw)
    first
    | (go_simp; done)
    | (go_simp; with_reducible rfl)
  try simp only [Act.put, List.setIfInBounds_toArray, List.set_cons_zero, List.set_cons_succ]
  refine wpAnyH_take (i := 2) (oi := ?oi2C) (v := ?v2C) ?oi0_2C (by kernel_rfl) ?ff2C ?rr2C ?hq2C (Or.inl ⟨?hw2C, ?hy2C⟩) (by assumption) ?rest2C
  case oi0_2C =>
    conv =>
      lhs
      whnf
      arg 1
      whnf
  case hq2C => exact fun _ _ _ h => h
  case ff2C => kernel_rfl
  case rr2C => kernel_rfl
  case hw2C => rfl
  case hy2C =>
    intro w hSw
    (try dsimp only at hSw)
    first
    | (go_simp; done)
    | (go_simp; with_reducible rfl)
  try simp only [Act.put, List.setIfInBounds_toArray, List.set_cons_zero, List.set_cons_succ]
  refine wpAnyH_take (i := 4) (oi := ?oi4C) (v := ?v4C) ?oi0_4C (by kernel_rfl) ?ff4C ?rr4C ?hq4C (Or.inl ⟨?hw4C, ?hy4C⟩) (by assumption) ?rest4C
  case oi0_4C =>
    conv =>
      lhs
      whnf
      arg 1
      whnf
  case hq4C => exact fun _ _ _ h => h
  case ff4C => kernel_rfl
  case rr4C => kernel_rfl
  case hw4C => rfl
  case hy4C =>
    intro w hSw
    (try dsimp only at hSw)
    first
    | (go_simp; done)
    | (go_simp; with_reducible rfl)
  try simp only [Act.put, List.setIfInBounds_toArray, List.set_cons_zero, List.set_cons_succ]
  refine wpAnyH_take (i := 5) (oi := ?oi5C) (v := ?v5C) ?oi0_5C (by kernel_rfl) ?ff5C ?rr5C ?hq5C (Or.inl ⟨?hw5C, ?hy5C⟩) (by assumption) ?rest5C
  case oi0_5C =>
    conv =>
      lhs
      whnf
      arg 1
      whnf
  case hq5C => exact fun _ _ _ h => h
  case ff5C => kernel_rfl
  case rr5C => kernel_rfl
  case hw5C => rfl
  case hy5C =>
    intro w hSw
    (try dsimp only at hSw)
    first
    | (go_simp; done)
    | (go_simp; with_reducible rfl)
  try simp only [Act.put, List.setIfInBounds_toArray, List.set_cons_zero, List.set_cons_succ]
  refine wpAnyH_take (i := 6) (oi := ?oi6C) (v := ?v6C) ?oi0_6C (by kernel_rfl) ?ff6C ?rr6C ?hq6C (Or.inl ⟨?hw6C, ?hy6C⟩) (by assumption) ?rest6C
  case oi0_6C =>
    conv =>
      lhs
      whnf
      arg 1
      whnf
  case hq6C => exact fun _ _ _ h => h
  case ff6C => kernel_rfl
  case rr6C => kernel_rfl
  case hw6C => rfl
  case hy6C =>
    intro w hSw
    (try dsimp only at hSw)
    first
    | (go_simp; done)
    | (go_simp; with_reducible rfl)
  try simp only [Act.put, List.setIfInBounds_toArray, List.set_cons_zero, List.set_cons_succ]
  refine wpAnyH_ready (rs := [3]) (by kernel_rfl) (by simp) (AllReadyH.cons (o := ?oi3C) ?oi0_3C (fun K hK => ?_) AllReadyH.nil)
  case oi0_3C =>
    conv =>
      lhs
      whnf
      arg 1
      whnf
  go_simp
  go_at_call 24
  have TT := WD.out
  with_reducible (refine TT.mono ?_)
  clear TT
  rintro e w6 ⟨rfl, d6, s6⟩
  have H6 := hide d6
  have S6 := hide s6
  have L6 := hide (s6.blk (by simp) L1.out)
  have i60 := L6.out.cell 2
  clear d6 s6
  (try dsimp only)
  refine hK.out _ _ (by exact i60) (fun hHeld => ?_)
  clear hK K
  try simp only [Act.put, List.setIfInBounds_toArray, List.set_cons_zero, List.set_cons_succ]
  refine wpAnyH_ready (rs := [7]) (by kernel_rfl) (by simp) (AllReadyH.cons (o := ?oi7C) ?oi0_7C (fun K hK => ?_) AllReadyH.nil)
  case oi0_7C =>
    conv =>
      lhs
      whnf
      arg 1
      whnf
  go_simp
  go_at_call 32
  have TT := (WR.out _ H6.out)
  with_reducible (refine TT.mono ?_)
  clear TT
  rintro e w7 ⟨rfl, d7, s7⟩
  have H7 := hide d7
  have S7 := hide s7
  have L7 := hide (s7.blk (by simp) L6.out)
  have i70 := L7.out.cell 2
  clear d7 s7
  (try dsimp only)
  refine hK.out _ _ (by exact i70) (fun hHeld => ?_)
  clear hK K
  try simp only [Act.put, List.setIfInBounds_toArray, List.set_cons_zero, List.set_cons_succ]
  refine wpAnyH_take (i := 8) (oi := ?oi8C) (v := ?v8C) ?oi0_8C (by kernel_rfl) ?ff8C ?rr8C ?hq8C (Or.inl ⟨?hw8C, ?hy8C⟩) (by assumption) ?rest8C
  case oi0_8C =>
    conv =>
      lhs
      whnf
      arg 1
      whnf
  case hq8C => exact fun _ _ _ h => h
  case ff8C => kernel_rfl
  case rr8C => kernel_rfl
  case hw8C => rfl
  case hy8C =>
    intro w hSw
    (try dsimp only at hSw)
    first
    | (go_simp; done)
    | (go_simp; with_reducible rfl)
  try simp only [Act.put, List.setIfInBounds_toArray, List.set_cons_zero, List.set_cons_succ]
  refine wpAnyH_take (i := 9) (oi := ?oi9C) (v := ?v9C) ?oi0_9C (by kernel_rfl) ?ff9C ?rr9C ?hq9C (Or.inl ⟨?hw9C, ?hy9C⟩) (by assumption) ?rest9C
  case oi0_9C =>
    conv =>
      lhs
      whnf
      arg 1
      whnf
  case hq9C => exact fun _ _ _ h => h
  case ff9C => kernel_rfl
  case rr9C => kernel_rfl
  case hw9C => rfl
  case hy9C =>
    intro w hSw
    (try dsimp only at hSw)
    first
    | (go_simp; done)
    | (go_simp; with_reducible rfl)
  try simp only [Act.put, List.setIfInBounds_toArray, List.set_cons_zero, List.set_cons_succ]
  refine wpAnyH_done (by kernel_rfl) ?_ _
  go_wp2_with fail
  go_ret
  exact ⟨rfl, H7.out.mono (fun _ hz => List.mem_cons_of_mem _ hz), same_after H1.out S6.out S7.out HX.out⟩
/-- step: a Crash. -/
theorem step_crash {B : Nat} {X : List Nat} {w0 w : World} {g x : Nat} {D : DiskS} {y : StepP} (hpk : pickN y.call 6 = 5) (h : StepOk B X w0 w g x D y) :
    Calls Try.prog 19 #[.pointer (some ⟨g, 0, none⟩), .pointer (some ⟨x, 0, none⟩), .agg #[.int .i64 y.call, .int .i64 y.off, .int .i64 y.n, .string y.s, .slice y.a y.len y.cap]] w fun e w' =>
      e = .returned (.bool true) ∧ Both B X w0 w' g (D.crash (y.keep.take 100) y.n) x (D.crash (y.keep.take 100) y.n) ∧ SameAt X w w' := by
  have H := hide h
  have h1 := h.both.more ((Upd.refl [] w).alloc (.cells #[.int .i64 y.call, .int .i64 y.off, .int .i64 y.n, .string y.s, .slice y.a y.len y.cap] 39)) w.heap.size (Nat.le_refl _) (by simp)
  have H1 := hide h1
  have HX := hide h.both.one.lts
  have L1 := hide (Blk.new w 39 [.int .i64 y.call, .int .i64 y.off, .int .i64 y.n, .string y.s, .slice y.a y.len y.cap])
  have CU := hide (cut_str y.s 300 (w.alloc (.cells #[.int .i64 y.call, .int .i64 y.off, .int .i64 y.n, .string y.s, .slice y.a y.len y.cap] 39)) h.s (by omega))
  have PK := pick_any y.call 6 (w.alloc (.cells #[.int .i64 y.call, .int .i64 y.off, .int .i64 y.n, .string y.s, .slice y.a y.len y.cap] 39)) h.c (by omega) (by omega)
  have hp9 : D.pend.length ≤ 1000000000 := by have := h.pend; omega
  have HS := hide h.shown
  have hn9 : y.n ≤ 9223372036854775807 := by have := (bounds_i64 h.n).2; exact this
  have hl9 : y.len ≤ 9223372036854775807 := by obtain ⟨_, h2, h3, _, _⟩ := h.k; unfold maxLen at h3; omega
  have hm1 : 0 ≤ min (y.len : Int) 100 := by omega
  have hm2 : min (y.len : Int) 100 ≤ y.cap := by obtain ⟨_, h2, h3, _, _⟩ := h.k; omega
  have E := take_min y.keep y.len h.k.1
  have WR := hide (H1.out.crashR h.base h.k (min (y.len : Int) 100).toNat y.cap (by omega) (by omega) y.n hn9 hp9)
  have WD : Hid (∀ wx, Both B (w.heap.size :: X) w0 wx g D x (D.crash (y.keep.take 100) y.n) → Calls Try.prog 25 #[.pointer (some ⟨g, 0, none⟩), .slice y.a (min (y.len : Int) 100).toNat y.cap, .int .i64 y.n] wx fun e w' => e = .returned (.int .i64 0) ∧ Both B (w.heap.size :: X) w0 w' g (D.crash (y.keep.take 100) y.n) x (D.crash (y.keep.take 100) y.n) ∧ SameAt (w.heap.size :: X) wx w') := by
    have hb := h.base
    have hk := h.k
    intro wx hx
    rw [← E] at hx ⊢
    exact hx.act (fun Y hY => hY.crashA hb hk (min (y.len : Int) 100).toNat y.cap (by omega) (by omega) y.n hp9)
  rw [E] at WR
  have HC : Hid (y.cap ≤ maxLen) := h.k.2.2.1
  have c0 : ¬ pickN y.call 6 = 0 := by omega
  clear hn9 E c0
  rw [hpk] at PK
  have PK' := hide PK
  have HP := hide hp9
  have k0 := L1.out.cell 0
  have k1 := L1.out.cell 1
  have k2 := L1.out.cell 2
  have k4 := L1.out.cell 4
  clear h h1 PK hp9
  go_enter Try.func19, Try.ntmps19
  go_wp2_with fail
  refine PK'.out.mono ?_
  rintro e w' ⟨rfl, rfl⟩
  go_wp2_with fail
  refine (WR.out).mono ?_
  rintro e w6 ⟨rfl, d6, s6⟩
  have H6 := hide d6
  have S6 := hide s6
  have L6 := hide (s6.blk (by simp) L1.out)
  have i61 := L6.out.cell 1
  have i62 := L6.out.cell 2
  clear d6 s6
  go_wp2_with fail
  refine (WD.out _ H6.out).mono ?_
  rintro e w7 ⟨rfl, d7, s7⟩
  have H7 := hide d7
  have S7 := hide s7
  have L7 := hide (s7.blk (by simp) L6.out)
  have i71 := L7.out.cell 1
  have i72 := L7.out.cell 2
  clear d7 s7
  go_wp2_with fail
  go_ret
  exact ⟨rfl, H7.out.mono (fun _ hz => List.mem_cons_of_mem _ hz), same_after2 H1.out S6.out S7.out HX.out⟩
end Go.Proofs.Ythjcgaahnpbcdaa
