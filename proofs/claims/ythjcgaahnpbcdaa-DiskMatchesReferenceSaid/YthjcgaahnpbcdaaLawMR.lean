/-
  The walk of the statement against the reference implementation.
-/
import Derived.Test.YthjcgaahnpbcdaaStepB
import Derived.Test.YthjcgaahnpbcdaaLawAS
namespace Go.Proofs.Ythjcgaahnpbcdaa
open Go.RowKit
set_option maxRecDepth 100000
set_option maxHeartbeats 1000000

theorem wpAnyH_narrow {P : Program} {md : Region.Mode} {ops : Array Oper} {Q : Exit → Act → World → Prop} {S S' : World → Prop} (h : ∀ w, S' w → S w) : ∀ {fuel : Nat} {listed : Array Bool} {a : Act} {w : World}, wpAnyH P md ops Q S' fuel listed a w → wpAnyH P md ops Q S fuel listed a w
  | 0, _, _, _, hh => hh
  | _ + 1, _, _, _, hh => ⟨hh.1, fun i hi => wpOp_mono (fun _ _ h2 => ⟨h _ h2.1, wpAnyH_narrow h h2.2⟩) (hh.2 i hi)⟩

theorem StepsArg.at_ {W w : World} {a : Option Addr} {len cap : Nat} {xs : List StepP} (h : StepsArg W a len cap xs) (hb : Below W.heap.size W w) {i : Nat} (hi : i < len) :
    ∃ b off x, a = some ⟨b, off, none⟩ ∧ b < W.heap.size ∧ xs[i]? = some x ∧
      w.cell? ⟨b, off + i * 5, none⟩ = some (.int .i64 x.call) ∧ w.cell? ⟨b, off + i * 5 + 1, none⟩ = some (.int .i64 x.off) ∧ w.cell? ⟨b, off + i * 5 + 2, none⟩ = some (.int .i64 x.n) ∧ w.cell? ⟨b, off + i * 5 + 3, none⟩ = some (.string x.s) ∧ w.cell? ⟨b, off + i * 5 + 4, none⟩ = some (.slice x.a x.len x.cap) := by
  obtain ⟨hl, _, _, hc⟩ := h
  obtain ⟨b, off, rfl, hbl, hx⟩ := hc (by omega)
  have hxi : xs[i]? = some (xs[i]'(by omega)) := List.getElem?_eq_getElem _
  obtain ⟨vs, ⟨rfl, _⟩, hvs⟩ := hx i _ hxi
  refine ⟨b, off, _, rfl, hbl, hxi, ?_, ?_, ?_, ?_, ?_⟩
  · exact (hb.cell (p := ⟨b, off + i * 5, none⟩) hbl).trans (hvs 0 _ rfl)
  · exact (hb.cell (p := ⟨b, off + i * 5 + 1, none⟩) hbl).trans (hvs 1 _ rfl)
  · exact (hb.cell (p := ⟨b, off + i * 5 + 2, none⟩) hbl).trans (hvs 2 _ rfl)
  · exact (hb.cell (p := ⟨b, off + i * 5 + 3, none⟩) hbl).trans (hvs 3 _ rfl)
  · exact (hb.cell (p := ⟨b, off + i * 5 + 4, none⟩) hbl).trans (hvs 4 _ rfl)
theorem StepsArg.ok {W : World} {a : Option Addr} {len cap : Nat} {xs : List StepP} (h : StepsArg W a len cap xs) {i : Nat} {x : StepP} (hi : xs[i]? = some x) :
    (Lit.int .i64 x.call).wf = true ∧ (Lit.int .i64 x.off).wf = true ∧ (Lit.int .i64 x.n).wf = true ∧ x.s.size ≤ maxLen ∧ IntsArg W x.a x.len x.cap x.keep := by
  obtain ⟨hl, _, _, hc⟩ := h
  have := (List.getElem?_eq_some_iff.1 hi).1
  obtain ⟨b, off, rfl, hbl, hx⟩ := hc (by omega)
  obtain ⟨vs, hR, _⟩ := hx i _ hi
  exact hR.2

theorem stepS_shown {D : DiskS} (y : StepP) (h : D.vis = puts D.sure D.pend) : (stepS D y).vis = puts (stepS D y).sure (stepS D y).pend := by
  unfold stepS
  split
  · unfold DiskS.write
    split
    · exact h
    · split
      · have := shown_write (D := D) h y.off.toNat (y.s.data.toList.take 300)
        unfold DiskS.written DiskS.used
        split
        · exact this
        · exact this
      · exact h
  · split
    · unfold DiskS.sync
      split
      · exact h
      · rfl
    · split
      · exact h
      · split
        · unfold DiskS.cut
          split
          · exact h
          · split
            · exact h
            · exact h
        · rfl
theorem stepS_pend {D : DiskS} (y : StepP) : (stepS D y).pend.length ≤ D.pend.length + 1 := by
  unfold stepS
  split
  · unfold DiskS.write
    split
    · simp
    · split
      · unfold DiskS.written DiskS.used
        split <;> simp
      · simp
  · split
    · unfold DiskS.sync
      split <;> simp [DiskS.settled]
    · split
      · omega
      · split
        · unfold DiskS.cut
          split
          · simp
          · split <;> simp
        · simp [DiskS.crash, DiskS.settled]
theorem stepS_len {D : DiskS} (y : StepP) (h : D.Ok) : (stepS D y).sure.length = D.sure.length := by
  unfold stepS
  split
  · unfold DiskS.write
    split
    · rfl
    · split
      · unfold DiskS.written DiskS.used
        split <;> rfl
      · rfl
  · split
    · unfold DiskS.sync
      split
      · rfl
      · exact h.len
    · split
      · rfl
      · split
        · unfold DiskS.cut
          split
          · rfl
          · split <;> rfl
        · exact crash_len h _ _

theorem step_any {B : Nat} {X : List Nat} {w0 w : World} {g x : Nat} {D : DiskS} {y : StepP} (h : StepOk B X w0 w g x D y) :
    Calls Try.prog 19 #[.pointer (some ⟨g, 0, none⟩), .pointer (some ⟨x, 0, none⟩), .agg #[.int .i64 y.call, .int .i64 y.off, .int .i64 y.n, .string y.s, .slice y.a y.len y.cap]] w fun e w' =>
      e = .returned (.bool true) ∧ Both B X w0 w' g (stepS D y) x (stepS D y) ∧ SameAt X w w' := by
  have hp := pickN_lt y.call (n := 6) (by omega)
  by_cases h0 : pickN y.call 6 = 0
  · rw [show stepS D y = _ from if_pos (.inl h0)]
    exact step_write 0 (.inl rfl) h0 h
  by_cases h1 : pickN y.call 6 = 1
  · rw [show stepS D y = _ from if_pos (.inr h1)]
    exact step_write 1 (.inr rfl) h1 h
  rw [show stepS D y = _ from if_neg (by omega)]
  by_cases h2 : pickN y.call 6 = 2
  · rw [if_pos h2]
    exact step_sync h2 h
  rw [if_neg h2]
  by_cases h3 : pickN y.call 6 = 3
  · rw [if_pos h3]
    exact step_read h3 h
  rw [if_neg h3]
  by_cases h4 : pickN y.call 6 = 4
  · rw [if_pos h4]
    exact step_cut h4 h
  rw [if_neg h4]
  exact step_crash (by omega) h

theorem diskMatchesReference_walk (a0 : Int) (a1 : Option Addr) (len1 cap1 : Nat) (z1 : List StepP) (w : World) (w0 : (Lit.int .i64 a0).wf = true) (w1 : StepsArg w a1 len1 cap1 z1) :
    Calls Try.prog 4 #[.int .i64 a0, .slice a1 len1 cap1] w fun e w' => e = .returned (.bool true) ∧ Below w.heap.size w w' := by
  have hl : len1 ≤ 9223372036854775807 := by have := w1.2.1; have := w1.2.2.1; unfold maxLen at this; omega
  obtain ⟨n, hn, hn1, hn2⟩ := size_of_pick a0 400 (by omega) (by omega)
  have HN := hide hn
  have HL := hide hl
  have W0 := hide w0
  have W1 := hide w1
  clear hn hl w0 w1
  go_enter Try.func4, Try.ntmps4
  go_wp2_with fail
  refine (sane_any w).mono ?_
  rintro e w1 ⟨rfl, b1⟩
  have B1 := hide b1
  clear b1
  go_wp2_with fail
  refine (pick_any a0 400 w1 W0.out (by omega) (by omega)).mono ?_
  rintro e w' ⟨rfl, rfl⟩
  have hpk := pickN_lt a0 (n := 400) (by omega)
  obtain ⟨q1, q2⟩ := hpk
  go_wp2_with fail
  rw [show 1 + pickN a0 400 = (n : Int) from HN.out]
  clear q1 q2
  refine (new_in n w.heap.size w w1 B1.out B1.out.size [] (by simp) hn1 hn2).mono ?_
  rintro e w2 ⟨g, rfl, d2, _, _⟩
  have H2 := hide d2
  clear d2
  go_wp2_with fail
  refine (refNew n w2 hn1 hn2).mono ?_
  rintro e w3 ⟨x, F, rfl, d3, f3, b3⟩
  have H3 := hide (Both.start H2.out d3 f3 b3)
  clear d3 f3 b3
  go_wp2_with fail
  go_loopw [10] (fun i wr => ∃ (k : Nat) (D : DiskS), k ≤ len1 ∧ k ≤ 60 ∧ i = .int .i64 k ∧ Both w.heap.size [] w wr g D x D ∧ D.vis = puts D.sure D.pend ∧ D.pend.length ≤ k ∧ D.sure.length = n)
    (fun i _ => 60 - (intOf i).toNat)
  case atStart => exact ⟨0, DiskS.fresh n, Nat.zero_le _, by omega, rfl, H3.out, rfl, Nat.le_refl _, by simp [DiskS.fresh]⟩
  case round =>
    obtain ⟨k, D, hk, hk6, rfl, hd, hsh, hpd, hsz⟩ := hrel
    have HD := hide hd
    have HS := hide hsh
    have HP := hide hpd
    have HZ := hide hsz
    clear hd hsh hpd hsz
    have HLo := HL.out
    by_cases hlt : k < len1
    · by_cases h60 : k < 60
      · skip
        obtain ⟨b, off, y, rfl, hbW, hyi, c0, c1, c2, c3, c4⟩ := W1.out.at_ HD.out.one.below hlt
        have HY := hide hyi
        have ltb := World.block_lt_of_cell? _ _ c0
        have OK := hide (W1.out.ok hyi)
        clear hyi
        have ST := step_any (w := wr.drew) (y := y) ⟨HD.out.step ((Upd.refl [] _).drew) (by simp) (by simp), rfl, HS.out, by have := HP.out; omega, OK.out.1, OK.out.2.1, OK.out.2.2.1, OK.out.2.2.2.1, OK.out.2.2.2.2⟩
        have SH := hide (stepS_shown y HS.out)
        have SP := hide (Nat.le_trans (stepS_pend (D := D) y) (Nat.add_le_add_right HP.out 1))
        have SL := hide ((stepS_len y HD.out.one.ok).trans HZ.out)
        obtain ⟨E, EE⟩ : ∃ E, Hid (stepS D y = E) := ⟨_, rfl⟩
        rw [EE.out] at ST SH SP SL
        have ST := hide ST
        go_wp2_with fail
        refine wp_region_held_drew (S := (fun w' => w'.cell? ⟨b, off + k * 5, none⟩ = some (.int .i64 y.call) ∧ w'.cell? ⟨b, off + k * 5 + 1, none⟩ = some (.int .i64 y.off) ∧ w'.cell? ⟨b, off + k * 5 + 2, none⟩ = some (.int .i64 y.n) ∧ w'.cell? ⟨b, off + k * 5 + 3, none⟩ = some (.string y.s) ∧ w'.cell? ⟨b, off + k * 5 + 4, none⟩ = some (.slice y.a y.len y.cap))) (by kernel_rfl) (by exact ⟨c0, c1, c2, c3, c4⟩) (fun hHeld => ?_)
        refine wpAnyH_take (i := 0) (oi := ?oi0M) (v := ?v0M) ?oi0_0M (by kernel_rfl) ?ff0M ?rr0M ?hq0M (Or.inl ⟨?hw0M, ?hy0M⟩) (by assumption) ?rest0M
        case oi0_0M =>
          conv =>
            lhs
            whnf
            arg 1
            whnf
        case hq0M => exact fun _ _ _ h => h
        case ff0M => kernel_rfl
        case rr0M => kernel_rfl
        case hw0M => rfl
        case hy0M =>
          intro w hSw
          (try dsimp only at hSw)
          first
          | (go_simp; done)
          | (go_simp; with_reducible rfl)
        try simp only [Act.put, List.setIfInBounds_toArray, List.set_cons_zero, List.set_cons_succ]
        refine wpAnyH_take (i := 1) (oi := ?oi1M) (v := ?v1M) ?oi0_1M (by kernel_rfl) ?ff1M ?rr1M ?hq1M (Or.inl ⟨?hw1M, ?hy1M⟩) (by assumption) ?rest1M
        case oi0_1M =>
          conv =>
            lhs
            whnf
            arg 1
            whnf
        case hq1M => exact fun _ _ _ h => h
        case ff1M => kernel_rfl
        case rr1M => kernel_rfl
        case hw1M => rfl
        case hy1M =>
          intro w hSw
          (try dsimp only at hSw)
          first
          | (go_simp; done)
          | (go_simp; with_reducible rfl)
        try simp only [Act.put, List.setIfInBounds_toArray, List.set_cons_zero, List.set_cons_succ]
        refine wpAnyH_take (i := 2) (oi := ?oi2M) (v := ?v2M) ?oi0_2M (by kernel_rfl) ?ff2M ?rr2M ?hq2M (Or.inl ⟨?hw2M, ?hy2M⟩) (by assumption) ?rest2M
        case oi0_2M =>
          conv =>
            lhs
            whnf
            arg 1
            whnf
        case hq2M => exact fun _ _ _ h => h
        case ff2M => kernel_rfl
        case rr2M => kernel_rfl
        case hw2M => rfl
        case hy2M =>
          intro w hSw
          (try dsimp only at hSw)
          first
          | (go_simp; done)
          | (go_simp; with_reducible rfl)
        try simp only [Act.put, List.setIfInBounds_toArray, List.set_cons_zero, List.set_cons_succ]
        refine wpAnyH_take (i := 3) (oi := ?oi3M) (v := ?v3M) ?oi0_3M (by kernel_rfl) ?ff3M ?rr3M ?hq3M (Or.inl ⟨?hw3M, ?hy3M⟩) (by assumption) ?rest3M
        case oi0_3M =>
          conv =>
            lhs
            whnf
            arg 1
            whnf
        case hq3M => exact fun _ _ _ h => h
        case ff3M => kernel_rfl
        case rr3M => kernel_rfl
        case hw3M => rfl
        case hy3M =>
          intro w hSw
          (try dsimp only at hSw)
          first
          | (go_simp; done)
          | (go_simp; with_reducible rfl)
        try simp only [Act.put, List.setIfInBounds_toArray, List.set_cons_zero, List.set_cons_succ]
        refine wpAnyH_take (i := 4) (oi := ?oi4M) (v := ?v4M) ?oi0_4M (by kernel_rfl) ?ff4M ?rr4M ?hq4M (Or.inl ⟨?hw4M, ?hy4M⟩) (by assumption) ?rest4M
        case oi0_4M =>
          conv =>
            lhs
            whnf
            arg 1
            whnf
        case hq4M => exact fun _ _ _ h => h
        case ff4M => kernel_rfl
        case rr4M => kernel_rfl
        case hw4M => rfl
        case hy4M =>
          intro w hSw
          (try dsimp only at hSw)
          first
          | (go_simp; done)
          | (go_simp; with_reducible rfl)
        try simp only [Act.put, List.setIfInBounds_toArray, List.set_cons_zero, List.set_cons_succ]
        refine wpAnyH_take (i := 5) (oi := ?oi5M) (v := ?v5M) ?oi0_5M (by kernel_rfl) ?ff5M ?rr5M ?hq5M (Or.inl ⟨?hw5M, ?hy5M⟩) (by assumption) ?rest5M
        case oi0_5M =>
          conv =>
            lhs
            whnf
            arg 1
            whnf
        case hq5M => exact fun _ _ _ h => h
        case ff5M => kernel_rfl
        case rr5M => kernel_rfl
        case hw5M => rfl
        case hy5M =>
          intro w hSw
          (try dsimp only at hSw)
          first
          | (go_simp; done)
          | (go_simp; with_reducible rfl)
        try simp only [Act.put, List.setIfInBounds_toArray, List.set_cons_zero, List.set_cons_succ]
        refine wpAnyH_ready (rs := [6]) (by kernel_rfl) (by simp) (AllReadyH.cons (o := ?oi6M) ?oi0_6M (fun K hK => ?_) AllReadyH.nil)
        case oi0_6M =>
          conv =>
            lhs
            whnf
            arg 1
            whnf
        go_simp
        go_at_call 19
        have TT := ST.out
        with_reducible (refine TT.mono ?_)
        clear TT
        rintro e w4 ⟨rfl, d4, _⟩
        have H4 := hide d4
        obtain ⟨G, hG, _⟩ := d4.refs
        obtain ⟨gd, cs, rr, A, c, hG⟩ := hG
        have q1 : w4.cell? ⟨x, 1, none⟩ = some (.slice A E.pend.length c) := hG.head.cell 1
        have hb4 : Below w.heap.size w w4 := d4.one.below
        obtain ⟨b0, off0, y0, ea0, _, hyi, v0, v1, v2, v3, v4⟩ := W1.out.at_ hb4 hlt
        obtain ⟨rfl, rfl⟩ : b = b0 ∧ off = off0 := by simpa using ea0
        obtain rfl : y = y0 := by have := HY.out.symm.trans hyi; simpa using this
        have PI := hide (pending_in d4.one)
        have SI := hide (size_in d4.one)
        clear d4 hG hb4 hyi ea0
        (try dsimp only)
        refine hK.out _ _ (by exact ⟨v0, v1, v2, v3, v4⟩) (fun hHeld => ?_)
        clear hK K
        try simp only [Act.put, List.setIfInBounds_toArray, List.set_cons_zero, List.set_cons_succ]
        refine wpAnyH_narrow (S' := (fun w' => (w'.cell? ⟨b, off + k * 5, none⟩ = some (.int .i64 y.call) ∧ w'.cell? ⟨b, off + k * 5 + 1, none⟩ = some (.int .i64 y.off) ∧ w'.cell? ⟨b, off + k * 5 + 2, none⟩ = some (.int .i64 y.n) ∧ w'.cell? ⟨b, off + k * 5 + 3, none⟩ = some (.string y.s) ∧ w'.cell? ⟨b, off + k * 5 + 4, none⟩ = some (.slice y.a y.len y.cap)) ∧ w'.cell? ⟨x, 1, none⟩ = some (.slice A E.pend.length c))) (fun _ h => h.1) ?_
        have hH2 : (fun w' => (w'.cell? ⟨b, off + k * 5, none⟩ = some (.int .i64 y.call) ∧ w'.cell? ⟨b, off + k * 5 + 1, none⟩ = some (.int .i64 y.off) ∧ w'.cell? ⟨b, off + k * 5 + 2, none⟩ = some (.int .i64 y.n) ∧ w'.cell? ⟨b, off + k * 5 + 3, none⟩ = some (.string y.s) ∧ w'.cell? ⟨b, off + k * 5 + 4, none⟩ = some (.slice y.a y.len y.cap)) ∧ w'.cell? ⟨x, 1, none⟩ = some (.slice A E.pend.length c)) w4 := ⟨⟨v0, v1, v2, v3, v4⟩, q1⟩
        refine wpAnyH_take (i := 7) (oi := ?oi7M) (v := ?v7M) ?oi0_7M (by kernel_rfl) ?ff7M ?rr7M ?hq7M (Or.inl ⟨?hw7M, ?hy7M⟩) (by assumption) ?rest7M
        case oi0_7M =>
          conv =>
            lhs
            whnf
            arg 1
            whnf
        case hq7M => exact fun _ _ _ h => h
        case ff7M => kernel_rfl
        case rr7M => kernel_rfl
        case hw7M => rfl
        case hy7M =>
          intro w hSw
          (try dsimp only at hSw)
          first
          | (go_simp; done)
          | (go_simp; with_reducible rfl)
        try simp only [Act.put, List.setIfInBounds_toArray, List.set_cons_zero, List.set_cons_succ]
        refine wpAnyH_take (i := 8) (oi := ?oi8M) (v := ?v8M) ?oi0_8M (by kernel_rfl) ?ff8M ?rr8M ?hq8M (Or.inl ⟨?hw8M, ?hy8M⟩) (by assumption) ?rest8M
        case oi0_8M =>
          conv =>
            lhs
            whnf
            arg 1
            whnf
        case hq8M => exact fun _ _ _ h => h
        case ff8M => kernel_rfl
        case rr8M => kernel_rfl
        case hw8M => rfl
        case hy8M =>
          intro w hSw
          (try dsimp only at hSw)
          first
          | (go_simp; done)
          | (go_simp; with_reducible rfl)
        try simp only [Act.put, List.setIfInBounds_toArray, List.set_cons_zero, List.set_cons_succ]
        refine wpAnyH_take (i := 9) (oi := ?oi9M) (v := ?v9M) ?oi0_9M (by kernel_rfl) ?ff9M ?rr9M ?hq9M (Or.inl ⟨?hw9M, ?hy9M⟩) (by assumption) ?rest9M
        case oi0_9M =>
          conv =>
            lhs
            whnf
            arg 1
            whnf
        case hq9M => exact fun _ _ _ h => h
        case ff9M => kernel_rfl
        case rr9M => kernel_rfl
        case hw9M => rfl
        case hy9M =>
          intro w hSw
          (try dsimp only at hSw)
          first
          | (go_simp; done)
          | (go_simp; with_reducible rfl)
        try simp only [Act.put, List.setIfInBounds_toArray, List.set_cons_zero, List.set_cons_succ]
        refine wpAnyH_take (i := 11) (oi := ?oi11M) (v := ?v11M) ?oi0_11M (by kernel_rfl) ?ff11M ?rr11M ?hq11M (Or.inl ⟨?hw11M, ?hy11M⟩) (by assumption) ?rest11M
        case oi0_11M =>
          conv =>
            lhs
            whnf
            arg 1
            whnf
        case hq11M => exact fun _ _ _ h => h
        case ff11M => kernel_rfl
        case rr11M => kernel_rfl
        case hw11M => rfl
        case hy11M =>
          intro w hSw
          (try dsimp only at hSw)
          first
          | (go_simp; done)
          | (go_simp; with_reducible rfl)
        try simp only [Act.put, List.setIfInBounds_toArray, List.set_cons_zero, List.set_cons_succ]
        refine wpAnyH_take (i := 12) (oi := ?oi12M) (v := ?v12M) ?oi0_12M (by kernel_rfl) ?ff12M ?rr12M ?hq12M (Or.inl ⟨?hw12M, ?hy12M⟩) (by assumption) ?rest12M
        case oi0_12M =>
          conv =>
            lhs
            whnf
            arg 1
            whnf
        case hq12M => exact fun _ _ _ h => h
        case ff12M => kernel_rfl
        case rr12M => kernel_rfl
        case hw12M => rfl
        case hy12M =>
          intro w hSw
          (try dsimp only at hSw)
          first
          | (go_simp; done)
          | (go_simp; with_reducible rfl)
        try simp only [Act.put, List.setIfInBounds_toArray, List.set_cons_zero, List.set_cons_succ]
        refine wpAnyH_take (i := 13) (oi := ?oi13M) (v := ?v13M) ?oi0_13M (by kernel_rfl) ?ff13M ?rr13M ?hq13M (Or.inl ⟨?hw13M, ?hy13M⟩) (by assumption) ?rest13M
        case oi0_13M =>
          conv =>
            lhs
            whnf
            arg 1
            whnf
        case hq13M => exact fun _ _ _ h => h
        case ff13M => kernel_rfl
        case rr13M => kernel_rfl
        case hw13M => rfl
        case hy13M =>
          intro w hSw
          (try dsimp only at hSw)
          first
          | (go_simp; done)
          | (go_simp; with_reducible rfl)
        try simp only [Act.put, List.setIfInBounds_toArray, List.set_cons_zero, List.set_cons_succ]
        refine wpAnyH_take (i := 14) (oi := ?oi14M) (v := ?v14M) ?oi0_14M (by kernel_rfl) ?ff14M ?rr14M ?hq14M (Or.inl ⟨?hw14M, ?hy14M⟩) (by assumption) ?rest14M
        case oi0_14M =>
          conv =>
            lhs
            whnf
            arg 1
            whnf
        case hq14M => exact fun _ _ _ h => h
        case ff14M => kernel_rfl
        case rr14M => kernel_rfl
        case hw14M => rfl
        case hy14M =>
          intro w hSw
          (try dsimp only at hSw)
          first
          | (go_simp; done)
          | (go_simp; with_reducible rfl)
        try simp only [Act.put, List.setIfInBounds_toArray, List.set_cons_zero, List.set_cons_succ]
        refine wpAnyH_take (i := 15) (oi := ?oi15M) (v := ?v15M) ?oi0_15M (by kernel_rfl) ?ff15M ?rr15M ?hq15M (Or.inl ⟨?hw15M, ?hy15M⟩) (by assumption) ?rest15M
        case oi0_15M =>
          conv =>
            lhs
            whnf
            arg 1
            whnf
        case hq15M => exact fun _ _ _ h => h
        case ff15M => kernel_rfl
        case rr15M => kernel_rfl
        case hw15M => rfl
        case hy15M =>
          intro w hSw
          (try dsimp only at hSw)
          first
          | (go_simp; done)
          | (go_simp; with_reducible rfl)
        try simp only [Act.put, List.setIfInBounds_toArray, List.set_cons_zero, List.set_cons_succ]
        refine wpAnyH_ready (rs := [10]) (by kernel_rfl) (by simp) (AllReadyH.cons (o := ?oi10M) ?oi0_10M (fun K hK => ?_) AllReadyH.nil)
        case oi0_10M =>
          conv =>
            lhs
            whnf
            arg 1
            whnf
        go_simp
        go_at_call 17
        have TT := PI.out
        with_reducible (refine TT.mono ?_)
        clear TT
        rintro e w' ⟨rfl, rfl⟩
        (try dsimp only)
        refine hK.out _ _ (by exact hH2) (fun hHeld => ?_)
        clear hK K
        try simp only [Act.put, List.setIfInBounds_toArray, List.set_cons_zero, List.set_cons_succ]
        refine wpAnyH_take (i := 16) (oi := ?oi16M) (v := ?v16M) ?oi0_16M (by kernel_rfl) ?ff16M ?rr16M ?hq16M (Or.inl ⟨?hw16M, ?hy16M⟩) (by assumption) ?rest16M
        case oi0_16M =>
          conv =>
            lhs
            whnf
            arg 1
            whnf
        case hq16M => exact fun _ _ _ h => h
        case ff16M => kernel_rfl
        case rr16M => kernel_rfl
        case hw16M => rfl
        case hy16M =>
          intro w hSw
          (try dsimp only at hSw)
          first
          | (go_simp; done)
          | (go_simp; with_reducible rfl)
        try simp only [Act.put, List.setIfInBounds_toArray, List.set_cons_zero, List.set_cons_succ]
        refine wpAnyH_take (i := 17) (oi := ?oi17M) (v := ?v17M) ?oi0_17M (by kernel_rfl) ?ff17M ?rr17M ?hq17M (Or.inl ⟨?hw17M, ?hy17M⟩) (by assumption) ?rest17M
        case oi0_17M =>
          conv =>
            lhs
            whnf
            arg 1
            whnf
        case hq17M => exact fun _ _ _ h => h
        case ff17M => kernel_rfl
        case rr17M => kernel_rfl
        case hw17M => rfl
        case hy17M =>
          intro w hSw
          (try dsimp only at hSw)
          first
          | (go_simp; done)
          | (go_simp; with_reducible rfl)
        try simp only [Act.put, List.setIfInBounds_toArray, List.set_cons_zero, List.set_cons_succ]
        refine wpAnyH_take (i := 18) (oi := ?oi18M) (v := ?v18M) ?oi0_18M (by kernel_rfl) ?ff18M ?rr18M ?hq18M (Or.inl ⟨?hw18M, ?hy18M⟩) (by assumption) ?rest18M
        case oi0_18M =>
          conv =>
            lhs
            whnf
            arg 1
            whnf
        case hq18M => exact fun _ _ _ h => h
        case ff18M => kernel_rfl
        case rr18M => kernel_rfl
        case hw18M => rfl
        case hy18M =>
          intro w hSw
          (try dsimp only at hSw)
          first
          | (go_simp; done)
          | (go_simp; with_reducible rfl)
        try simp only [Act.put, List.setIfInBounds_toArray, List.set_cons_zero, List.set_cons_succ]
        refine wpAnyH_take (i := 19) (oi := ?oi19M) (v := ?v19M) ?oi0_19M (by kernel_rfl) ?ff19M ?rr19M ?hq19M (Or.inl ⟨?hw19M, ?hy19M⟩) (by assumption) ?rest19M
        case oi0_19M =>
          conv =>
            lhs
            whnf
            arg 1
            whnf
        case hq19M => exact fun _ _ _ h => h
        case ff19M => kernel_rfl
        case rr19M => kernel_rfl
        case hw19M => rfl
        case hy19M =>
          intro w hSw
          (try dsimp only at hSw)
          first
          | (go_simp; done)
          | (go_simp; with_reducible rfl)
        try simp only [Act.put, List.setIfInBounds_toArray, List.set_cons_zero, List.set_cons_succ]
        refine wpAnyH_take (i := 21) (oi := ?oi21M) (v := ?v21M) ?oi0_21M (by kernel_rfl) ?ff21M ?rr21M ?hq21M (Or.inl ⟨?hw21M, ?hy21M⟩) (by assumption) ?rest21M
        case oi0_21M =>
          conv =>
            lhs
            whnf
            arg 1
            whnf
        case hq21M => exact fun _ _ _ h => h
        case ff21M => kernel_rfl
        case rr21M => kernel_rfl
        case hw21M => rfl
        case hy21M =>
          intro w hSw
          (try dsimp only at hSw)
          first
          | (go_simp; done)
          | (go_simp; with_reducible rfl)
        try simp only [Act.put, List.setIfInBounds_toArray, List.set_cons_zero, List.set_cons_succ]
        refine wpAnyH_ready (rs := [20]) (by kernel_rfl) (by simp) (AllReadyH.cons (o := ?oi20M) ?oi0_20M (fun K hK => ?_) AllReadyH.nil)
        case oi0_20M =>
          conv =>
            lhs
            whnf
            arg 1
            whnf
        go_simp
        go_at_call 16
        have TT := SI.out
        with_reducible (refine TT.mono ?_)
        clear TT
        rintro e w' ⟨rfl, rfl⟩
        (try dsimp only)
        refine hK.out _ _ (by exact hH2) (fun hHeld => ?_)
        clear hK K
        try simp only [Act.put, List.setIfInBounds_toArray, List.set_cons_zero, List.set_cons_succ]
        refine wpAnyH_take (i := 22) (oi := ?oi22M) (v := ?v22M) ?oi0_22M (by kernel_rfl) ?ff22M ?rr22M ?hq22M (Or.inl ⟨?hw22M, ?hy22M⟩) (by assumption) ?rest22M
        case oi0_22M =>
          conv =>
            lhs
            whnf
            arg 1
            whnf
        case hq22M => exact fun _ _ _ h => h
        case ff22M => kernel_rfl
        case rr22M => kernel_rfl
        case hw22M => rfl
        case hy22M =>
          intro w hSw
          (try dsimp only at hSw)
          first
          | (go_simp; done)
          | (go_simp; with_reducible rfl)
        try simp only [Act.put, List.setIfInBounds_toArray, List.set_cons_zero, List.set_cons_succ]
        refine wpAnyH_take (i := 23) (oi := ?oi23M) (v := ?v23M) ?oi0_23M (by kernel_rfl) ?ff23M ?rr23M ?hq23M (Or.inl ⟨?hw23M, ?hy23M⟩) (by assumption) ?rest23M
        case oi0_23M =>
          conv =>
            lhs
            whnf
            arg 1
            whnf
        case hq23M => exact fun _ _ _ h => h
        case ff23M => kernel_rfl
        case rr23M => kernel_rfl
        case hw23M => rfl
        case hy23M =>
          intro w hSw
          (try dsimp only at hSw)
          first
          | (go_simp; done)
          | (go_simp; with_reducible rfl)
        try simp only [Act.put, List.setIfInBounds_toArray, List.set_cons_zero, List.set_cons_succ]
        refine wpAnyH_done (by kernel_rfl) ?_ _
        rw [SL.out]
        go_wp2_with fail
        refine (read_in 0 (n : Int) H4.out.one).mono ?_
        rintro e w' ⟨rfl, rfl⟩
        go_wp2_with fail
        refine (H4.out.read 0 (n : Int) (by have := SP.out; omega) SH.out).mono ?_
        rintro e w7 ⟨rfl, d7, _⟩
        have H7 := hide d7
        clear d7
        go_wp2_with fail
        go_roundw
        case rel => exact ⟨k + 1, E, by omega, by omega, by go_num, H7.out, SH.out, SP.out, SL.out⟩
        case measure => simp [intOf] <;> omega
      · obtain rfl : k = 60 := by omega
        obtain ⟨wo, rfl⟩ : ∃ wo : World, wo = wr := ⟨_, rfl⟩
        go_wp2_with fail
        go_ret
        exact ⟨rfl, HD.out.one.below⟩
    · obtain rfl : k = len1 := by omega
      obtain ⟨wo, rfl⟩ : ∃ wo : World, wo = wr := ⟨_, rfl⟩
      go_wp2_with fail
      go_ret
      exact ⟨rfl, HD.out.one.below⟩
end Go.Proofs.Ythjcgaahnpbcdaa
