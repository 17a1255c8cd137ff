/-
  FitItems: the walk.
-/
import Derived.Test.YteehjciepccomaaZ28FitItemsRow
import Derived.Test.YteehjciepccomaaZ14FitItemsRow
import Derived.Deep.RegionLaw
import Derived.Deep.CutBlock

namespace Go.Proofs.Yteehjciepccomaa
open Go.RowKit
set_option maxRecDepth 100000
set_option maxHeartbeats 40000000

theorem keepX {W W' : World} {g t : Nat} {cs : List Value} (h : Blk W g t cs) (hu : Upd [] W W') : Blk W' g t cs := h.upd hu (by simp)
theorem keepI {W W' : World} {v : Value} {zs : List Int} (h : Ints W.heap.size W v zs) (hu : Upd [] W W') : Ints W'.heap.size W' v zs := (ints_upd h hu (Nat.le_refl _) (by simp)).mono hu.size
theorem rec_eight_g {w : World} {base n c g : Nat} {qs : List Rec} (h : w.ownsRow base 61 8 (.slice (some ⟨g, 0, none⟩) n c) n (recCells qs)) {k : Nat} {r : Rec} (hr : qs[k]? = some r) :
    w.cell? ⟨g, k * 8, none⟩ = some (.int .i64 r.i.id) ∧ w.cell? ⟨g, k * 8 + 1, none⟩ = some (.int .i64 r.i.kind) ∧ w.cell? ⟨g, k * 8 + 2, none⟩ = some (.int .i64 r.i.len) ∧
      w.cell? ⟨g, k * 8 + 3, none⟩ = some (.slice r.ta r.i.trims.length r.tc) ∧ w.cell? ⟨g, k * 8 + 4, none⟩ = some (.slice r.ka r.i.talks.length r.kc) ∧ w.cell? ⟨g, k * 8 + 5, none⟩ = some (.int .i64 r.i.artist) ∧
      w.cell? ⟨g, k * 8 + 6, none⟩ = some (.int .i64 r.i.tempo) ∧ w.cell? ⟨g, k * 8 + 7, none⟩ = some (.int .i64 r.i.lang) := by
  obtain ⟨g', e, _, h9⟩ := rec_eight h hr
  obtain rfl : g = g' := by simpa using e
  exact h9
theorem ints_cell {n₀ : Nat} {w : World} {b o n c : Nat} {zs : List Int} (h : Ints n₀ w (.slice (some ⟨b, o, none⟩) n c) zs) {k : Nat} {z : Int} (hz : zs[k]? = some z) : w.cell? ⟨b, o + k, none⟩ = some (.int .i64 z) := by
  obtain ⟨b', o', e, _, hc⟩ := h.form.2 k z hz
  obtain ⟨rfl, rfl⟩ : b = b' ∧ o = o' := by simpa using e
  exact hc
/-- A box of a piece beside the rows: a store into it leaves the state. -/
theorem st_box {wb wr w' : World} {m k : Nat} {IA : Option Addr} {ic : Nat} {LA : Option Addr} {lc : Nat} {t : Int} {qs : List Rec} {es : List (Value × Pc)} {h : List Int} (s : St1 wb wr m k IA ic LA lc t qs es h) {bp : Nat} (hu : Upd [bp] wr w') {cs : List Value} (hb : Blk wr bp 50 cs) (hn : ∀ q, LA.map (·.block) = some q → q ≠ bp) (hw : wb.heap.size ≤ bp) : St1 wb w' m k IA ic LA lc t qs es h :=
  ⟨own_kept s.row hu (fun q hq hm => own_blk_ne s.row hb (by decide) q hq (by simpa using hm)), s.len, fun q hq => ⟨own_kept (s.recs q hq).1 hu (fun x hx hm => own_blk_ne (s.recs q hq).1 hb (by decide) x hx (by simpa using hm)), own_kept (s.recs q hq).2 hu (fun x hx hm => own_blk_ne (s.recs q hq).2 hb (by decide) x hx (by simpa using hm))⟩, s.ok,
    own_kept s.lrow hu (fun q hq hm => hn q (by rw [ownBlock_slice] at hq; exact hq) (by simpa using hm)), s.elen, fun e he => by obtain ⟨pa, pc, h1, h2⟩ := s.ents e he; exact ⟨pa, pc, h1, own_kept h2 hu (fun x hx hm => own_blk_ne h2 hb (by decide) x hx (by simpa using hm))⟩, s.hour, s.upd.trans hu (fun x hx => .inr (by rw [List.mem_singleton.1 hx]; exact hw))⟩
theorem fitItems_walk (a0 : Option Addr) (len0 cap0 : Nat) (z0 : List X6) (a1 : Option Addr) (len1 cap1 : Nat) (z1 : List Int) (a2 : Int) (w : World) (w0 : X6Arg w a0 len0 cap0 z0) (w1 : IntsArg w a1 len1 cap1 z1) (w2 : (Lit.int .i64 a2).wf = true) :
    Calls Try.prog 9 #[.slice a0 len0 cap0, .slice a1 len1 cap1, .int .i64 a2] w fun e w' => e = .returned (.bool true) ∧ Below w.heap.size w w' := by
  have X0 := hide w0
  have J1 := hide w1
  have W2 := hide w2
  clear w0 w1 w2
  go_enter Try.func9, Try.ntmps9
  go_wp2_with fail
  have UU := hide (Upd.refl [] w)
  refine (sane_any _).mono ?_
  rintro e v1 ⟨rfl, u⟩
  replace UU := hide (UU.out.trans u (by simp))
  clear u
  obtain ⟨m, hm⟩ : ∃ m, min len0 6 = m := ⟨_, rfl⟩
  have hmi : min (len0 : Int) 6 = (m : Int) := by omega
  have hm6 : m ≤ 6 := by omega
  have hmc : m ≤ cap0 := by have := X0.out.2.1; omega
  have HML := hide (show (z0.take m).length = m by rw [List.length_take]; have := X0.out.1; omega)
  clear hm
  go_wp2_with fail
  obtain ⟨wb, rfl⟩ : ∃ x : World, x = v1 := ⟨_, rfl⟩
  have UW := hide UU.out
  refine (recAll_any a0 m cap0 (z0.take m) wb ((X0.out.2.2.2.take m).upd UW.out (Nat.le_refl _) (by simp)) UW.out.size HML.out hm6).mono ?_
  rintro e v2 ⟨IA, ic, qs0, rfl, hown, hq, hrec, hok, u⟩
  replace UU := hide (UU.out.trans u (by simp))
  have ST0 := hide (show St1 wb v2 m 0 IA ic none 0 0 qs0 [] [] from ⟨hown, hq, hrec, hok, World.ownsRow_nil _ _ _ _, rfl, fun e he => by simp at he, hour_nil, u⟩)
  clear hown hq hrec hok u hmi hmc
  clear UU
  go_wp2_with fail
  go_loopw [8, 9, 10] (fun s8 s9 s10 wr => ∃ (k : Nat) (LA : Option Addr) (lc : Nat) (t : Int) (qs : List Rec) (es : List (Value × Pc)) (h : List Int), k ≤ m ∧ s10 = .int .i64 k ∧ s9 = .int .i64 t ∧ s8 = .slice LA k lc ∧ (0 ≤ t ∧ t ≤ 2400) ∧ Hid (St1 wb wr m k IA ic LA lc t qs es h)) (fun _ _ k _ => m - (intOf k).toNat)
  case atStart => exact ⟨0, none, 0, 0, qs0, [], [], Nat.zero_le _, rfl, rfl, rfl, by omega, ST0⟩
  case round =>
    obtain ⟨k, LA, lc, t, qs, es, h, hk, rfl, rfl, rfl, ⟨ht0, ht1⟩, ST⟩ := hrel
    obtain ⟨v3, rfl⟩ : ∃ x : World, x = wr := ⟨_, rfl⟩
    by_cases hkm : k < m
    case pos =>
      have hki : (k : Int) < m := by omega
      have hkw : IntKind.i64.wrap ((k : Int) + 1) = (k : Int) + 1 := Go.IntWalk.i64_in _ (by omega)
      obtain ⟨r, hr⟩ : ∃ r, qs[k]? = some r := ⟨_, List.getElem?_eq_getElem (by have := ST.out.len; omega)⟩
      obtain ⟨g, rfl, hgb, d0, d1, d2, d3, d4, d5, d6, d7⟩ := rec_eight ST.out.row hr
      obtain ⟨tl, htl⟩ : ∃ tl, min r.i.trims.length 3 = tl := ⟨_, rfl⟩
      have hmn : min (r.i.trims.length : Int) 3 = (tl : Int) := by omega
      have htc : tl ≤ r.tc := by have := own_cap (ST.out.recs r (List.mem_of_getElem? hr)).1; omega
      have fz : v3.frozen? ⟨g, k * 8 + 3, none⟩ = false := by
        rcases ST.out.row.2 with ⟨hv, _⟩ | ⟨g', cap, cur, hv, _, hg, _⟩
        · simp at hv
        · obtain rfl : g = g' := by simpa using (by simpa using hv : g = g' ∧ _ = cap).1
          simp [World.frozen?, hg]
      have HR := hide hr
      have HTL := hide htl
      have HGB := hide hgb
      clear hr htl hgb d0 d1 d2 d4 d5 d6 d7
      go_upto_region 9 with fail
      go_cut [61] from 45 to 61 (fun s61 wx => s61 = .pointer (some ⟨g, k * 8 + 3, none⟩) ∧ wx = (v3.setCell ⟨g, k * 8 + 3, none⟩ (.slice r.ta tl r.tc)).drew)
      case first =>
        go_region_law (fail)
        all_goals (go_wp2_with fail; go_meet; exact ⟨rfl, rfl⟩)
      case rest =>
        obtain ⟨rfl, hcw⟩ := hcut
        obtain ⟨ST0', hr1⟩ := ST.out.cut HR.out HTL.out.symm
        have ST1 := ST0'.up ((Upd.refl [] _).drew)
        clear ST0'
        obtain ⟨v4, rfl⟩ : ∃ x : World, x = wc := ⟨_, rfl⟩
        rw [← hcw] at ST1
        clear hcw d3 fz hmn htc
        obtain ⟨q, hq⟩ : ∃ q, cutRec r = q := ⟨_, rfl⟩
        have HQ3 := hide (show q.i.trims.length ≤ 3 by rw [← hq]; show (r.i.trims.take 3).length ≤ 3; rw [List.length_take]; omega)
        rw [hq] at ST1 hr1
        obtain ⟨qs2, hqs⟩ : ∃ x, qs.set k q = x := ⟨_, rfl⟩
        rw [hqs] at ST1 hr1
        have HQ := hide hr1
        clear hr1 hq hqs ST
        have ST := hide (ST1)
        clear ST1
        have HOK := hide (ST.out.ok q (List.mem_of_getElem? HQ.out)).1
        have hql := (ST.out.ok q (List.mem_of_getElem? HQ.out)).2
        have hql0 := HOK.out.1.2.2.1
        have ht4 := HOK.out.2.1.1.2
        have hk4 := HOK.out.2.1.2.2
        have d0 := (rec_eight_g ST.out.row HQ.out).1
        have d1 := (rec_eight_g ST.out.row HQ.out).2.1
        have d2 := (rec_eight_g ST.out.row HQ.out).2.2.1
        have d3 := (rec_eight_g ST.out.row HQ.out).2.2.2.1
        have d4 := (rec_eight_g ST.out.row HQ.out).2.2.2.2.1
        have d5 := (rec_eight_g ST.out.row HQ.out).2.2.2.2.2.1
        have d6 := (rec_eight_g ST.out.row HQ.out).2.2.2.2.2.2.1
        have d7 := (rec_eight_g ST.out.row HQ.out).2.2.2.2.2.2.2
        go_wp2_with fail
        obtain ⟨L, hL⟩ : ∃ L, lengthsS q.i = L := ⟨_, rfl⟩
        obtain ⟨ll, hll⟩ : ∃ n, L.length = n := ⟨_, rfl⟩
        have JL := hide (j_lengths (ST.out.recs q (List.mem_of_getElem? HQ.out)).at_ HOK.out q.tc q.kc)
        rw [hL, hll] at JL
        have HL := hide hL
        have HLL := hide hll
        clear hL hll
        refine (JL.out).mono ?_
        rintro e v5 ⟨A, c, rfl, ho, u⟩
        clear d0 d1 d2 d3 d4 d5 d6 d7
        replace ST := hide (ST.out.up u)
        have LO := hide (ho)
        clear ho
        clear u
        have d0 := (rec_eight_g ST.out.row HQ.out).1
        have d1 := (rec_eight_g ST.out.row HQ.out).2.1
        have d2 := (rec_eight_g ST.out.row HQ.out).2.2.1
        have d3 := (rec_eight_g ST.out.row HQ.out).2.2.2.1
        have d4 := (rec_eight_g ST.out.row HQ.out).2.2.2.2.1
        have d5 := (rec_eight_g ST.out.row HQ.out).2.2.2.2.2.1
        have d6 := (rec_eight_g ST.out.row HQ.out).2.2.2.2.2.2.1
        have d7 := (rec_eight_g ST.out.row HQ.out).2.2.2.2.2.2.2
        clear JL
        go_upto_if 73 with fail
        go_cut [13] from 71 to 78 (fun s13 wx => ∃ s : Nat, s13 = .int .i64 s ∧ s < 8 ∧ wx = v5)
        case first =>
          by_cases hc : k < len1
          case neg =>
            have hci : ¬ (k : Int) < len1 := by omega
            go_wp2_with fail
            go_meet
            exact ⟨0, rfl, by omega, rfl⟩
          have hci : (k : Int) < len1 := by omega
          obtain ⟨y, hy⟩ : ∃ y, z1[k]? = some y := ⟨_, List.getElem?_eq_getElem (by have := J1.out.1; omega)⟩
          have hwf := J1.out.2.2.2.1 y (List.mem_of_getElem? hy)
          obtain ⟨yb, yo, rfl, hyb, hyc⟩ := J1.out.2.2.2.2 (by omega)
          have hcy : v5.cell? ⟨yb, yo + k, none⟩ = some (.int .i64 y) := by
            have h9 := hyc k hc
            rw [hy] at h9
            exact keepc _ _ _ _ (UW.out.trans ST.out.upd (by simp)) h9
          obtain ⟨s, hs⟩ : ∃ s : Nat, pickN y 8 = s := ⟨(pickN y 8).toNat, by have := pickN_lt y (n := 8) (by omega); omega⟩
          have hs8 : s < 8 := by have := pickN_lt y (n := 8) (by omega); omega
          have PK := hide (show ∀ W, Calls Try.prog 15 #[.int .i64 y, .int .i64 8] W fun e w' => e = .returned (.int .i64 (s : Int)) ∧ W = w' from fun W => by rw [← hs]; exact pick_any y 8 W hwf (by omega) (by omega))
          clear hy hwf hyc hs hyb
          go_wp2_with fail
          refine (PK.out _).mono ?_
          rintro e w' ⟨rfl, rfl⟩
          go_wp2_with fail
          go_meet
          exact ⟨s, rfl, hs8, rfl⟩
        case rest =>
          obtain ⟨s, rfl, hs8, hcw⟩ := hcut
          obtain rfl : v5 = wc := hcw.symm
          obtain ⟨cb, hcb⟩ : ∃ c, bitsS s q.i.trims.length = c := ⟨_, rfl⟩
          obtain ⟨cn, hcn⟩ : ∃ n, cb.length = n := ⟨_, rfl⟩
          have hcn4 : cn ≤ maxLen := by rw [← hcn, ← hcb]; have := bitsS_length s q.i.trims.length; unfold maxLen; omega
          have BT := hide (show ∀ W, Calls Try.prog 36 #[.agg #[.int .i64 q.i.id, .int .i64 q.i.kind, .int .i64 q.i.len, .slice q.ta q.i.trims.length q.tc, .slice q.ka q.i.talks.length q.kc, .int .i64 q.i.artist, .int .i64 q.i.tempo, .int .i64 q.i.lang], .int .i64 s] W fun e w' => ∃ A c, e = .returned (.slice A cn c) ∧ Ints w'.heap.size w' (.slice A cn c) cb ∧ Upd [] W w' from fun W => by
            refine (refBits q.i q.ta q.i.trims.length q.tc q.ka q.i.talks.length q.kc s W ht4 (by omega)).mono fun e w' h => ?_
            rw [hcb] at h
            obtain ⟨A, c, rfl, ho, hu⟩ := h
            have h9 := it_own_ints ho
            rw [hcn] at h9 ⊢
            exact ⟨A, c, rfl, h9, hu⟩)
          obtain ⟨z, hz⟩ : ∃ z, cutLen q.i cb = z := ⟨_, rfl⟩
          have hz1 : 1 ≤ z ∧ z ≤ 400 := by rw [← hz, ← hcb]; have := cutLen_pos HOK.out s; have := cutLen_le HOK.out (bitsS s q.i.trims.length); omega
          have HCO := hide (show CutOk q.i.trims.length cb by rw [← hcb]; exact bitsS_cutOk s _ ht4)
          have HZ := hide hz
          have HCB := hide hcb
          have HCN := hide hcn
          clear hz hcb hcn
          go_wp2_with fail
          refine wp_region_held_drew (S := (fun w' => w'.cell? ⟨g, k * 8, none⟩ = some (.int .i64 q.i.id) ∧ w'.cell? ⟨g, k * 8 + 1, none⟩ = some (.int .i64 q.i.kind) ∧ w'.cell? ⟨g, k * 8 + 2, none⟩ = some (.int .i64 q.i.len) ∧ w'.cell? ⟨g, k * 8 + 3, none⟩ = some (.slice q.ta q.i.trims.length q.tc) ∧ w'.cell? ⟨g, k * 8 + 4, none⟩ = some (.slice q.ka q.i.talks.length q.kc) ∧ w'.cell? ⟨g, k * 8 + 5, none⟩ = some (.int .i64 q.i.artist) ∧ w'.cell? ⟨g, k * 8 + 6, none⟩ = some (.int .i64 q.i.tempo) ∧ w'.cell? ⟨g, k * 8 + 7, none⟩ = some (.int .i64 q.i.lang))) (by kernel_rfl) (by exact (rec_eight_g ST.out.row HQ.out)) (fun hHeld => ?_)
          obtain ⟨v6, hwD⟩ : ∃ x, v5.drew = x := ⟨_, rfl⟩
          have u : Upd [] v5 v6 := by rw [← hwD]; exact (Upd.refl [] _).drew
          rw [hwD] at hHeld ⊢
          clear hwD
          clear d0 d1 d2 d3 d4 d5 d6 d7
          replace ST := hide (ST.out.up u)
          replace LO := hide (own_kept LO.out u (by simp))
          clear u
          have d0 := (rec_eight_g ST.out.row HQ.out).1
          have d1 := (rec_eight_g ST.out.row HQ.out).2.1
          have d2 := (rec_eight_g ST.out.row HQ.out).2.2.1
          have d3 := (rec_eight_g ST.out.row HQ.out).2.2.2.1
          have d4 := (rec_eight_g ST.out.row HQ.out).2.2.2.2.1
          have d5 := (rec_eight_g ST.out.row HQ.out).2.2.2.2.2.1
          have d6 := (rec_eight_g ST.out.row HQ.out).2.2.2.2.2.2.1
          have d7 := (rec_eight_g ST.out.row HQ.out).2.2.2.2.2.2.2
          refine wpAnyH_take (i := 0) (oi := ?oi0M2) (v := ?v0M2) ?oi0_0M2 (by kernel_rfl) ?ff0M2 ?rr0M2 ?hq0M2 (Or.inl ⟨?hw0M2, ?hy0M2⟩) (by assumption) ?rest0M2
          case oi0_0M2 =>
            conv =>
              lhs
              whnf
              arg 1
              whnf
          case hq0M2 => exact fun _ _ _ h => h
          case ff0M2 => kernel_rfl
          case rr0M2 => kernel_rfl
          case hw0M2 => rfl
          case hy0M2 =>
            intro w hSw
            (try dsimp only at hSw)
            first
            | (go_simp; done)
            | (go_simp; with_reducible rfl)
          try simp only [Act.put, List.setIfInBounds_toArray, List.set_cons_zero, List.set_cons_succ]
          refine wpAnyH_take (i := 1) (oi := ?oi1M2) (v := ?v1M2) ?oi0_1M2 (by kernel_rfl) ?ff1M2 ?rr1M2 ?hq1M2 (Or.inl ⟨?hw1M2, ?hy1M2⟩) (by assumption) ?rest1M2
          case oi0_1M2 =>
            conv =>
              lhs
              whnf
              arg 1
              whnf
          case hq1M2 => exact fun _ _ _ h => h
          case ff1M2 => kernel_rfl
          case rr1M2 => kernel_rfl
          case hw1M2 => rfl
          case hy1M2 =>
            intro w hSw
            (try dsimp only at hSw)
            first
            | (go_simp; done)
            | (go_simp; with_reducible rfl)
          try simp only [Act.put, List.setIfInBounds_toArray, List.set_cons_zero, List.set_cons_succ]
          refine wpAnyH_take (i := 2) (oi := ?oi2M2) (v := ?v2M2) ?oi0_2M2 (by kernel_rfl) ?ff2M2 ?rr2M2 ?hq2M2 (Or.inl ⟨?hw2M2, ?hy2M2⟩) (by assumption) ?rest2M2
          case oi0_2M2 =>
            conv =>
              lhs
              whnf
              arg 1
              whnf
          case hq2M2 => exact fun _ _ _ h => h
          case ff2M2 => kernel_rfl
          case rr2M2 => kernel_rfl
          case hw2M2 => rfl
          case hy2M2 =>
            intro w hSw
            (try dsimp only at hSw)
            first
            | (go_simp; done)
            | (go_simp; with_reducible rfl)
          try simp only [Act.put, List.setIfInBounds_toArray, List.set_cons_zero, List.set_cons_succ]
          refine wpAnyH_take (i := 3) (oi := ?oi3M2) (v := ?v3M2) ?oi0_3M2 (by kernel_rfl) ?ff3M2 ?rr3M2 ?hq3M2 (Or.inl ⟨?hw3M2, ?hy3M2⟩) (by assumption) ?rest3M2
          case oi0_3M2 =>
            conv =>
              lhs
              whnf
              arg 1
              whnf
          case hq3M2 => exact fun _ _ _ h => h
          case ff3M2 => kernel_rfl
          case rr3M2 => kernel_rfl
          case hw3M2 => rfl
          case hy3M2 =>
            intro w hSw
            (try dsimp only at hSw)
            first
            | (go_simp; done)
            | (go_simp; with_reducible rfl)
          try simp only [Act.put, List.setIfInBounds_toArray, List.set_cons_zero, List.set_cons_succ]
          refine wpAnyH_take (i := 4) (oi := ?oi4M2) (v := ?v4M2) ?oi0_4M2 (by kernel_rfl) ?ff4M2 ?rr4M2 ?hq4M2 (Or.inl ⟨?hw4M2, ?hy4M2⟩) (by assumption) ?rest4M2
          case oi0_4M2 =>
            conv =>
              lhs
              whnf
              arg 1
              whnf
          case hq4M2 => exact fun _ _ _ h => h
          case ff4M2 => kernel_rfl
          case rr4M2 => kernel_rfl
          case hw4M2 => rfl
          case hy4M2 =>
            intro w hSw
            (try dsimp only at hSw)
            first
            | (go_simp; done)
            | (go_simp; with_reducible rfl)
          try simp only [Act.put, List.setIfInBounds_toArray, List.set_cons_zero, List.set_cons_succ]
          refine wpAnyH_take (i := 5) (oi := ?oi5M2) (v := ?v5M2) ?oi0_5M2 (by kernel_rfl) ?ff5M2 ?rr5M2 ?hq5M2 (Or.inl ⟨?hw5M2, ?hy5M2⟩) (by assumption) ?rest5M2
          case oi0_5M2 =>
            conv =>
              lhs
              whnf
              arg 1
              whnf
          case hq5M2 => exact fun _ _ _ h => h
          case ff5M2 => kernel_rfl
          case rr5M2 => kernel_rfl
          case hw5M2 => rfl
          case hy5M2 =>
            intro w hSw
            (try dsimp only at hSw)
            first
            | (go_simp; done)
            | (go_simp; with_reducible rfl)
          try simp only [Act.put, List.setIfInBounds_toArray, List.set_cons_zero, List.set_cons_succ]
          refine wpAnyH_take (i := 6) (oi := ?oi6M2) (v := ?v6M2) ?oi0_6M2 (by kernel_rfl) ?ff6M2 ?rr6M2 ?hq6M2 (Or.inl ⟨?hw6M2, ?hy6M2⟩) (by assumption) ?rest6M2
          case oi0_6M2 =>
            conv =>
              lhs
              whnf
              arg 1
              whnf
          case hq6M2 => exact fun _ _ _ h => h
          case ff6M2 => kernel_rfl
          case rr6M2 => kernel_rfl
          case hw6M2 => rfl
          case hy6M2 =>
            intro w hSw
            (try dsimp only at hSw)
            first
            | (go_simp; done)
            | (go_simp; with_reducible rfl)
          try simp only [Act.put, List.setIfInBounds_toArray, List.set_cons_zero, List.set_cons_succ]
          refine wpAnyH_take (i := 7) (oi := ?oi7M2) (v := ?v7M2) ?oi0_7M2 (by kernel_rfl) ?ff7M2 ?rr7M2 ?hq7M2 (Or.inl ⟨?hw7M2, ?hy7M2⟩) (by assumption) ?rest7M2
          case oi0_7M2 =>
            conv =>
              lhs
              whnf
              arg 1
              whnf
          case hq7M2 => exact fun _ _ _ h => h
          case ff7M2 => kernel_rfl
          case rr7M2 => kernel_rfl
          case hw7M2 => rfl
          case hy7M2 =>
            intro w hSw
            (try dsimp only at hSw)
            first
            | (go_simp; done)
            | (go_simp; with_reducible rfl)
          try simp only [Act.put, List.setIfInBounds_toArray, List.set_cons_zero, List.set_cons_succ]
          refine wpAnyH_take (i := 8) (oi := ?oi8M2) (v := ?v8M2) ?oi0_8M2 (by kernel_rfl) ?ff8M2 ?rr8M2 ?hq8M2 (Or.inl ⟨?hw8M2, ?hy8M2⟩) (by assumption) ?rest8M2
          case oi0_8M2 =>
            conv =>
              lhs
              whnf
              arg 1
              whnf
          case hq8M2 => exact fun _ _ _ h => h
          case ff8M2 => kernel_rfl
          case rr8M2 => kernel_rfl
          case hw8M2 => rfl
          case hy8M2 =>
            intro w hSw
            (try dsimp only at hSw)
            first
            | (go_simp; done)
            | (go_simp; with_reducible rfl)
          try simp only [Act.put, List.setIfInBounds_toArray, List.set_cons_zero, List.set_cons_succ]
          refine wpAnyH_ready (rs := [9]) (by kernel_rfl) (by simp) (AllReadyH.cons (o := ?oiM3) ?oi0_M3 (fun K hK => ?_) AllReadyH.nil)
          case oi0_M3 =>
            conv =>
              lhs
              whnf
              arg 1
              whnf
          go_simp
          go_at_call 36
          with_reducible (refine (BT.out _).mono ?_)
          rintro e v7 ⟨A2, c2, rfl, i2, u⟩
          clear d0 d1 d2 d3 d4 d5 d6 d7
          replace ST := hide (ST.out.up u)
          replace LO := hide (own_kept LO.out u (by simp))
          have I2 := hide (i2)
          clear i2
          clear u
          have d0 := (rec_eight_g ST.out.row HQ.out).1
          have d1 := (rec_eight_g ST.out.row HQ.out).2.1
          have d2 := (rec_eight_g ST.out.row HQ.out).2.2.1
          have d3 := (rec_eight_g ST.out.row HQ.out).2.2.2.1
          have d4 := (rec_eight_g ST.out.row HQ.out).2.2.2.2.1
          have d5 := (rec_eight_g ST.out.row HQ.out).2.2.2.2.2.1
          have d6 := (rec_eight_g ST.out.row HQ.out).2.2.2.2.2.2.1
          have d7 := (rec_eight_g ST.out.row HQ.out).2.2.2.2.2.2.2
          (try dsimp only)
          refine hK.out _ _ (by exact (rec_eight_g ST.out.row HQ.out)) (fun hHeld => ?_)
          clear hK K
          try simp only [Act.put, List.setIfInBounds_toArray, List.set_cons_zero, List.set_cons_succ]
          refine wpAnyH_ready (rs := [10]) (by kernel_rfl) (by simp) (AllReadyH.cons (o := ?oiM4) ?oi0_M4 (fun K hK => ?_) AllReadyH.nil)
          case oi0_M4 =>
            conv =>
              lhs
              whnf
              arg 1
              whnf
          go_simp
          go_at_call 35
          have JN := hide (j_length (ST.out.recs q (List.mem_of_getElem? HQ.out)).at_ HOK.out q.tc q.kc A2 cn c2 cb I2.out hcn4 HCO.out)
          rw [HZ.out] at JN
          with_reducible (refine (JN.out).mono ?_)
          rintro e v8 ⟨rfl, u⟩
          clear d0 d1 d2 d3 d4 d5 d6 d7
          replace ST := hide (ST.out.up u)
          replace LO := hide (own_kept LO.out u (by simp))
          replace I2 := hide (keepI I2.out u)
          clear u
          have d0 := (rec_eight_g ST.out.row HQ.out).1
          have d1 := (rec_eight_g ST.out.row HQ.out).2.1
          have d2 := (rec_eight_g ST.out.row HQ.out).2.2.1
          have d3 := (rec_eight_g ST.out.row HQ.out).2.2.2.1
          have d4 := (rec_eight_g ST.out.row HQ.out).2.2.2.2.1
          have d5 := (rec_eight_g ST.out.row HQ.out).2.2.2.2.2.1
          have d6 := (rec_eight_g ST.out.row HQ.out).2.2.2.2.2.2.1
          have d7 := (rec_eight_g ST.out.row HQ.out).2.2.2.2.2.2.2
          clear JN
          (try dsimp only)
          refine hK.out _ _ (by exact (rec_eight_g ST.out.row HQ.out)) (fun hHeld => ?_)
          clear hK K
          try simp only [Act.put, List.setIfInBounds_toArray, List.set_cons_zero, List.set_cons_succ]
          refine wpAnyH_take (i := 11) (oi := ?oi11M5) (v := ?v11M5) ?oi0_11M5 (by kernel_rfl) ?ff11M5 ?rr11M5 ?hq11M5 (Or.inl ⟨?hw11M5, ?hy11M5⟩) (by assumption) ?rest11M5
          case oi0_11M5 =>
            conv =>
              lhs
              whnf
              arg 1
              whnf
          case hq11M5 => exact fun _ _ _ h => h
          case ff11M5 => kernel_rfl
          case rr11M5 => kernel_rfl
          case hw11M5 => rfl
          case hy11M5 =>
            intro w hSw
            (try dsimp only at hSw)
            first
            | (go_simp; done)
            | (go_simp; with_reducible rfl)
          try simp only [Act.put, List.setIfInBounds_toArray, List.set_cons_zero, List.set_cons_succ]
          refine wpAnyH_take (i := 12) (oi := ?oi12M5) (v := ?v12M5) ?oi0_12M5 (by kernel_rfl) ?ff12M5 ?rr12M5 ?hq12M5 (Or.inl ⟨?hw12M5, ?hy12M5⟩) (by assumption) ?rest12M5
          case oi0_12M5 =>
            conv =>
              lhs
              whnf
              arg 1
              whnf
          case hq12M5 => exact fun _ _ _ h => h
          case ff12M5 => kernel_rfl
          case rr12M5 => kernel_rfl
          case hw12M5 => rfl
          case hy12M5 =>
            intro w hSw
            (try dsimp only at hSw)
            first
            | (go_simp; done)
            | (go_simp; with_reducible rfl)
          try simp only [Act.put, List.setIfInBounds_toArray, List.set_cons_zero, List.set_cons_succ]
          refine wpAnyH_take (i := 13) (oi := ?oi13M5) (v := ?v13M5) ?oi0_13M5 (by kernel_rfl) ?ff13M5 ?rr13M5 ?hq13M5 (Or.inl ⟨?hw13M5, ?hy13M5⟩) (by assumption) ?rest13M5
          case oi0_13M5 =>
            conv =>
              lhs
              whnf
              arg 1
              whnf
          case hq13M5 => exact fun _ _ _ h => h
          case ff13M5 => kernel_rfl
          case rr13M5 => kernel_rfl
          case hw13M5 => rfl
          case hy13M5 =>
            intro w hSw
            (try dsimp only at hSw)
            first
            | (go_simp; done)
            | (go_simp; with_reducible rfl)
          try simp only [Act.put, List.setIfInBounds_toArray, List.set_cons_zero, List.set_cons_succ]
          refine wpAnyH_take (i := 14) (oi := ?oi14M5) (v := ?v14M5) ?oi0_14M5 (by kernel_rfl) ?ff14M5 ?rr14M5 ?hq14M5 (Or.inl ⟨?hw14M5, ?hy14M5⟩) (by assumption) ?rest14M5
          case oi0_14M5 =>
            conv =>
              lhs
              whnf
              arg 1
              whnf
          case hq14M5 => exact fun _ _ _ h => h
          case ff14M5 => kernel_rfl
          case rr14M5 => kernel_rfl
          case hw14M5 => rfl
          case hy14M5 =>
            intro w hSw
            (try dsimp only at hSw)
            first
            | (go_simp; done)
            | (go_simp; with_reducible rfl)
          try simp only [Act.put, List.setIfInBounds_toArray, List.set_cons_zero, List.set_cons_succ]
          refine wpAnyH_take (i := 15) (oi := ?oi15M5) (v := ?v15M5) ?oi0_15M5 (by kernel_rfl) ?ff15M5 ?rr15M5 ?hq15M5 (Or.inl ⟨?hw15M5, ?hy15M5⟩) (by assumption) ?rest15M5
          case oi0_15M5 =>
            conv =>
              lhs
              whnf
              arg 1
              whnf
          case hq15M5 => exact fun _ _ _ h => h
          case ff15M5 => kernel_rfl
          case rr15M5 => kernel_rfl
          case hw15M5 => rfl
          case hy15M5 =>
            intro w hSw
            (try dsimp only at hSw)
            first
            | (go_simp; done)
            | (go_simp; with_reducible rfl)
          try simp only [Act.put, List.setIfInBounds_toArray, List.set_cons_zero, List.set_cons_succ]
          refine wpAnyH_done (by kernel_rfl) ?_ _
          clear BT
          clear I2
          have d0 := (rec_eight_g ST.out.row HQ.out).1
          have d1 := (rec_eight_g ST.out.row HQ.out).2.1
          have d2 := (rec_eight_g ST.out.row HQ.out).2.2.1
          have d3 := (rec_eight_g ST.out.row HQ.out).2.2.2.1
          have d4 := (rec_eight_g ST.out.row HQ.out).2.2.2.2.1
          have d5 := (rec_eight_g ST.out.row HQ.out).2.2.2.2.2.1
          have d6 := (rec_eight_g ST.out.row HQ.out).2.2.2.2.2.2.1
          have d7 := (rec_eight_g ST.out.row HQ.out).2.2.2.2.2.2.2
          have HNB := hide (show ∀ q, LA.map (·.block) = some q → q ≠ v8.heap.size from fun q hq => by have := it_own_lt ST.out.lrow q (by rw [ownBlock_slice]; exact hq); omega)
          have HBW := hide (show wb.heap.size ≤ v8.heap.size from ST.out.upd.size)
          obtain ⟨v9, hw⟩ : ∃ x, v8.alloc (.cells #[.slice A ll c, .int .i64 q.i.len, .int .i64 (-1)] 50) = x := ⟨_, rfl⟩
          have u : Upd [] v8 v9 := by rw [← hw]; exact (Upd.refl [] _).alloc _
          clear d0 d1 d2 d3 d4 d5 d6 d7
          replace ST := hide (ST.out.up u)
          replace LO := hide (own_kept LO.out u (by simp))
          have BP := hide (show Blk v9 v8.heap.size 50 [.slice A ll c, .int .i64 q.i.len, .int .i64 (-1)] by rw [← hw]; exact Blk.new v8 _ _)
          have HW := hide hw
          clear hw u
          have d0 := (rec_eight_g ST.out.row HQ.out).1
          have d1 := (rec_eight_g ST.out.row HQ.out).2.1
          have d2 := (rec_eight_g ST.out.row HQ.out).2.2.1
          have d3 := (rec_eight_g ST.out.row HQ.out).2.2.2.1
          have d4 := (rec_eight_g ST.out.row HQ.out).2.2.2.2.1
          have d5 := (rec_eight_g ST.out.row HQ.out).2.2.2.2.2.1
          have d6 := (rec_eight_g ST.out.row HQ.out).2.2.2.2.2.2.1
          have d7 := (rec_eight_g ST.out.row HQ.out).2.2.2.2.2.2.2
          go_upto_region 18 with fail
          rw [HW.out]
          clear HW
          clear d0 d1 d2 d3 d4 d5 d6 d7
          obtain ⟨bp, hbp⟩ : ∃ b, v8.heap.size = b := ⟨_, rfl⟩
          rw [hbp] at BP HNB HBW ⊢
          clear hbp
          obtain ⟨jv, hjv⟩ : ∃ s : Nat, pickN a2 64 = s := ⟨(pickN a2 64).toNat, by have := pickN_lt a2 (n := 64) (by omega); omega⟩
          have hj64 : jv < 64 := by have := pickN_lt a2 (n := 64) (by omega); omega
          have PJ := hide (show ∀ W, Calls Try.prog 15 #[.int .i64 a2, .int .i64 64] W fun e w' => e = .returned (.int .i64 (jv : Int)) ∧ W = w' from fun W => by rw [← hjv]; exact pick_any a2 64 W W2.out (by omega) (by omega))
          obtain ⟨y, hy⟩ : ∃ y, jv / 2 ^ k = y := ⟨_, rfl⟩
          have hyi : (jv : Int) / 2 ^ k = (y : Int) := by rw [← hy]; norm_cast
          have hyt : ((y : Int).tmod 2) = (y : Int) % 2 := Int.tmod_eq_emod_of_nonneg (by omega)
          clear hjv hy
          go_wp2_with fail
          refine (PJ.out _).mono ?_
          rintro e w' ⟨rfl, rfl⟩
          have hwt : IntKind.i64.wrap (t + z) = t + z := Go.IntWalk.i64_in _ (by omega)
          have hEL := ST.out.hour.high
          have hkl : ((qs2.take k).map (·.i)).length ≤ k := by rw [List.length_map, List.length_take]; omega
          by_cases hodd : y % 2 = 1
          case pos =>
            have hob : ((y : Int) % 2 == 1) = true := by simp; omega
            clear hodd
            have fb := BP.out.frozen 2
            have b2 := BP.out.cell 2
            go_upto_region 20 with fail
            obtain ⟨v10, hw⟩ : ∃ x, v9.setCell ⟨bp, 2, none⟩ (.int .i64 t) = x := ⟨_, rfl⟩
            have BP2 := hide (show Blk v10 bp 50 [.slice A ll c, .int .i64 q.i.len, .int .i64 t] by rw [← hw]; exact BP.out.set_ 2 _)
            have ub : Upd [bp] v9 v10 := by rw [← hw]; exact (Upd.refl _ _).setCell (.inl (by simp)) _
            have ST2 := hide (st_box ST.out ub BP.out HNB.out HBW.out)
            have LO2 := hide (own_kept LO.out ub (fun k hk hm => own_blk_ne LO.out BP.out (by decide) k hk (by simpa using hm)))
            rw [hw]
            clear hw ub fb b2 BP ST LO
            have BP := hide BP2.out
            have ST := hide ST2.out
            have LO := hide LO2.out
            clear BP2 ST2 LO2
            have b0 := BP.out.cell 0
            have b1 := BP.out.cell 1
            have b2 := BP.out.cell 2
            have O1 := hide (show ∀ u ∈ [Value.slice A ll c, .int .i64 q.i.len, .int .i64 t], u.oneCell' = true by simp [Value.oneCell'])
            have O3 := hide (show k + 1 ≤ maxLen by unfold maxLen; omega)
            have O4 := hide (show (k + 1) * 40 ≤ 140737488355328 by omega)
            have va := hide ((Upd.refl [] v10).alloc (.cells #[.slice A ll c, .int .i64 q.i.len, .int .i64 t] 50))
            have OB := hide (own_kept ST.out.lrow va.out (by simp))
            have OS := hide (show wb.heap.size ≤ (v10.alloc (.cells #[.slice A ll c, .int .i64 q.i.len, .int .i64 t] 50)).heap.size by have := ST.out.upd.size; rw [World.size_alloc]; omega)
            have AP := hide (show ∀ A5 c5 w5, w5.ownsRow wb.heap.size 50 3 (.slice A5 (k + 1) c5) (k + 1) (entCells es ++ [.slice A ll c, .int .i64 q.i.len, .int .i64 t]) → Upd (LA.map (·.block)).toList (v10.alloc (.cells #[.slice A ll c, .int .i64 q.i.len, .int .i64 t] 50)) w5 → St1 wb w5 m (k + 1) (some ⟨g, 0, none⟩) ic A5 c5 (t + z) qs2 (es ++ [(.slice A ll c, ⟨L, q.i.len, t⟩)]) (h ++ [z]) from fun A5 c5 w5 h5 u5 => by
              have LOa := own_kept LO.out va.out (by simp)
              have h9 := (ST.out.up va.out).snoc (w5 := w5) (LA5 := A5) (lc5 := c5) hm6 hkm HQ.out HQ3.out s t (.inr rfl) (pa := A) (pc := c) (by rw [HL.out, HLL.out]; exact LOa) (by rw [HL.out, HLL.out]; exact h5) u5
              rw [HL.out, HLL.out, HCB.out, HZ.out] at h9
              exact h9)
            go_wp2_with (at_builtin; refine wpList_append_base rfl (.tmp 114) (.tmp 116) _ rfl wb.heap.size 50 _ 3 40 Try.underlying22 info_pc rfl (by decide) LA k lc _ rfl OB.out ⟨_, 0, none⟩ 1 1 [.slice A ll c, .int .i64 q.i.len, .int .i64 t] rfl rfl (list_new _ _ _) O1.out O3.out O4.out OS.out ?_; intro A5 c5 w5 h5 u5 _; have H5 := hide (AP.out A5 c5 w5 h5 u5); clear h5 u5)
            go_roundw
            case rel => exact ⟨k + 1, A5, c5, t + z, qs2, es ++ [(.slice A ll c, ⟨L, q.i.len, t⟩)], h ++ [z], by omega, by go_num, rfl, rfl, by omega, H5⟩
            case measure => simp [intOf] <;> omega
          case neg =>
            have hob : ((y : Int) % 2 == 1) = false := by simp; omega
            clear hodd
            have b0 := BP.out.cell 0
            have b1 := BP.out.cell 1
            have b2 := BP.out.cell 2
            have O1 := hide (show ∀ u ∈ [Value.slice A ll c, .int .i64 q.i.len, .int .i64 (-1)], u.oneCell' = true by simp [Value.oneCell'])
            have O3 := hide (show k + 1 ≤ maxLen by unfold maxLen; omega)
            have O4 := hide (show (k + 1) * 40 ≤ 140737488355328 by omega)
            have va := hide ((Upd.refl [] v9).alloc (.cells #[.slice A ll c, .int .i64 q.i.len, .int .i64 (-1)] 50))
            have OB := hide (own_kept ST.out.lrow va.out (by simp))
            have OS := hide (show wb.heap.size ≤ (v9.alloc (.cells #[.slice A ll c, .int .i64 q.i.len, .int .i64 (-1)] 50)).heap.size by have := ST.out.upd.size; rw [World.size_alloc]; omega)
            have AP := hide (show ∀ A5 c5 w5, w5.ownsRow wb.heap.size 50 3 (.slice A5 (k + 1) c5) (k + 1) (entCells es ++ [.slice A ll c, .int .i64 q.i.len, .int .i64 (-1)]) → Upd (LA.map (·.block)).toList (v9.alloc (.cells #[.slice A ll c, .int .i64 q.i.len, .int .i64 (-1)] 50)) w5 → St1 wb w5 m (k + 1) (some ⟨g, 0, none⟩) ic A5 c5 (t + z) qs2 (es ++ [(.slice A ll c, ⟨L, q.i.len, (-1)⟩)]) (h ++ [z]) from fun A5 c5 w5 h5 u5 => by
              have LOa := own_kept LO.out va.out (by simp)
              have h9 := (ST.out.up va.out).snoc (w5 := w5) (LA5 := A5) (lc5 := c5) hm6 hkm HQ.out HQ3.out s (-1) (.inl rfl) (pa := A) (pc := c) (by rw [HL.out, HLL.out]; exact LOa) (by rw [HL.out, HLL.out]; exact h5) u5
              rw [HL.out, HLL.out, HCB.out, HZ.out] at h9
              exact h9)
            go_wp2_with (at_builtin; refine wpList_append_base rfl (.tmp 114) (.tmp 116) _ rfl wb.heap.size 50 _ 3 40 Try.underlying22 info_pc rfl (by decide) LA k lc _ rfl OB.out ⟨_, 0, none⟩ 1 1 [.slice A ll c, .int .i64 q.i.len, .int .i64 (-1)] rfl rfl (list_new _ _ _) O1.out O3.out O4.out OS.out ?_; intro A5 c5 w5 h5 u5 _; have H5 := hide (AP.out A5 c5 w5 h5 u5); clear h5 u5)
            go_roundw
            case rel => exact ⟨k + 1, A5, c5, t + z, qs2, es ++ [(.slice A ll c, ⟨L, q.i.len, (-1)⟩)], h ++ [z], by omega, by go_num, rfl, rfl, by omega, H5⟩
            case measure => simp [intOf] <;> omega
    obtain rfl : k = m := by omega
    have hki : ¬ (k : Int) < k := by omega
    clear hkm
    have HH := ST.out.hour
    rw [List.take_of_length_le (by have := ST.out.len; omega)] at HH
    obtain ⟨ns, cost, hres, hns, hc0, hc1, hfit, hlost⟩ := hour_solve HH (by rw [List.length_map]; have := ST.out.len; omega)
    rw [List.length_map, ST.out.len] at hns
    have HOUR := hide HH
    have HFIT := hide hfit
    have HLOST := hide hlost
    have HNS := hide hns
    clear HH hfit hlost hns
    have SU := solve_use LA lc (es.map (·.2)) t v3 (ent_row ST.out.lrow ST.out.elen ST.out.ents.ents (Nat.le_refl _)).1 (Nat.le_refl _) (by rw [List.length_map, ST.out.elen]; unfold maxLen; omega) hres
    rw [List.length_map, ST.out.elen, HNS.out] at SU
    have HSU := hide SU
    clear SU hres
    go_wp2_with fail
    refine (HSU.out).mono ?_
    rintro e v11 ⟨NA, nc, rfl, ins, u⟩
    replace ST := hide (ST.out.up u)
    have NS := hide (ins)
    clear ins
    clear u
    clear HSU
    have hcd : decide (cost < 0) = false := decide_eq_false (by omega)
    go_wp2_with fail
    go_loopw [20, 21, 22] (fun s20 s21 s22 wr => ∃ (q : Nat) (aa ll : Int), q ≤ k ∧ s22 = .int .i64 q ∧ s20 = .int .i64 aa ∧ s21 = .int .i64 ll ∧ (0 ≤ aa ∧ aa ≤ 400 * q) ∧ (0 ≤ ll ∧ ll ≤ 400 * q) ∧ Hid (aa = sumS (ns.take q)) ∧ Hid (ll = lostS ((qs.map (·.i)).take q) (ns.take q)) ∧ Hid (Upd [] v11 wr)) (fun _ _ q _ => k - (intOf q).toNat)
    case atStart => exact ⟨0, 0, 0, Nat.zero_le _, rfl, rfl, rfl, by omega, by omega, hide (by rw [List.take_zero]; rfl), hide (by rw [List.take_zero, List.take_zero]; rfl), Upd.refl _ _⟩
    case round =>
      obtain ⟨y, aa, ll, hy, rfl, rfl, rfl, ⟨ha0, ha1⟩, ⟨hl0, hl1⟩, HAA, HLL, L2⟩ := hrel
      obtain ⟨v12, rfl⟩ : ∃ x : World, x = wr := ⟨_, rfl⟩
      have u := L2.out
      replace ST := hide (ST.out.up u)
      replace NS := hide (keepI NS.out u)
      clear u
      by_cases hyk : y < k
      case neg =>
        obtain rfl : y = k := by omega
        have hyi : ¬ (y : Int) < y := by omega
        obtain rfl : aa = t := by
          rw [HAA.out, List.take_of_length_le (by have := HNS.out; omega)]
          have := fits_sum HFIT.out
          omega
        obtain rfl : ll = cost := by
          rw [HLL.out, HLOST.out, List.take_of_length_le (show ns.length ≤ y by have := HNS.out; omega), List.take_of_length_le (show (qs.map (·.i)).length ≤ y by rw [List.length_map]; have := ST.out.len; omega)]
        go_wp2_with fail
        go_ret
        exact ⟨rfl, ((UW.out.trans ST.out.upd (by simp))).toBelow (Nat.le_refl _) (by simp)⟩
      have hyi : (y : Int) < k := by omega
      have hyw : IntKind.i64.wrap ((y : Int) + 1) = (y : Int) + 1 := Go.IntWalk.i64_in _ (by omega)
      obtain ⟨r, hr⟩ : ∃ r, qs[y]? = some r := ⟨_, List.getElem?_eq_getElem (by have := ST.out.len; omega)⟩
      obtain ⟨n, hn⟩ : ∃ n, ns[y]? = some n := ⟨_, List.getElem?_eq_getElem (by have := HNS.out; omega)⟩
      obtain ⟨e, he⟩ : ∃ e, es[y]? = some e := ⟨_, List.getElem?_eq_getElem (by have := ST.out.elen; omega)⟩
      have hp : (es.map (·.2))[y]? = some e.2 := by rw [List.getElem?_map, he]; rfl
      have hri : (qs.map (·.i))[y]? = some r.i := by rw [List.getElem?_map, hr]; rfl
      obtain ⟨hmem, hjoin⟩ := fits_at HFIT.out hp hn
      obtain ⟨e1, e2⟩ := HOUR.out.pcs y r.i e.2 hri hp
      rw [e1] at hmem
      have HOK := hide (ST.out.ok r (List.mem_of_getElem? hr)).1
      have hrl := (ST.out.ok r (List.mem_of_getElem? hr)).2
      obtain ⟨s, hs, hn1, hn2⟩ := lens_mem HOK.out hmem
      obtain ⟨b, s2, hb, hs2, hbl, _⟩ := best_yes n s hs
      have ht4 := HOK.out.2.1.1.2
      have HCO := hide (show CutOk r.i.trims.length b by rw [← hs2]; exact bitsS_cutOk s2 _ ht4)
      have HSN := hide (show aa + n = sumS (ns.take (y + 1)) by rw [HAA.out, List.take_add_one, hn, Option.toList_some, sumS_snoc])
      have HLN := hide (show ll + (r.i.len - n) = lostS ((qs.map (·.i)).take (y + 1)) (ns.take (y + 1)) by rw [HLL.out, lost_snoc hri hn])
      obtain ⟨jj, hjj⟩ : ∃ j, e.2.join = j := ⟨_, rfl⟩
      rw [hjj, Int.zero_add, ← HAA.out] at hjoin
      obtain ⟨bn, hbn⟩ : ∃ n, b.length = n := ⟨_, rfl⟩
      have hbn9 : bn ≤ maxLen := by rw [← hbn, ← hs2]; have := bitsS_length s2 r.i.trims.length; unfold maxLen; omega
      obtain ⟨g, rfl, hgb, _⟩ := rec_eight ST.out.row hr
      obtain ⟨nb, no, rfl, _, hnc⟩ := NS.out.form.2 y n hn
      obtain ⟨lg, lr, rfl, _, hlb, _⟩ := own_open3 ST.out.lrow (by omega)
      have HR := hide hr
      have HN := hide hn
      have HJ := hide (show (entCells es ++ lr)[y * 3 + 2]? = some (.int .i64 jj) by rw [List.getElem?_append_left (by rw [entCells_length, ST.out.elen]; omega), entCells_at es y e 2 he (by omega), ← hjj]; rfl)
      have HB := hide hb
      have HBL := hide hbl
      have HBN := hide hbn
      clear hr hn he hp hri hmem e1 e2 hs hb hs2 hbl hjj hbn hgb hnc hlb
      have d0 := (rec_eight_g ST.out.row HR.out).1
      have d1 := (rec_eight_g ST.out.row HR.out).2.1
      have d2 := (rec_eight_g ST.out.row HR.out).2.2.1
      have d3 := (rec_eight_g ST.out.row HR.out).2.2.2.1
      have d4 := (rec_eight_g ST.out.row HR.out).2.2.2.2.1
      have d5 := (rec_eight_g ST.out.row HR.out).2.2.2.2.2.1
      have d6 := (rec_eight_g ST.out.row HR.out).2.2.2.2.2.2.1
      have d7 := (rec_eight_g ST.out.row HR.out).2.2.2.2.2.2.2
      have nn := (ints_cell NS.out HN.out)
      go_wp2_with fail
      refine wp_region_held_drew (S := (fun w' => (w'.cell? ⟨g, y * 8, none⟩ = some (.int .i64 r.i.id) ∧ w'.cell? ⟨g, y * 8 + 1, none⟩ = some (.int .i64 r.i.kind) ∧ w'.cell? ⟨g, y * 8 + 2, none⟩ = some (.int .i64 r.i.len) ∧ w'.cell? ⟨g, y * 8 + 3, none⟩ = some (.slice r.ta r.i.trims.length r.tc) ∧ w'.cell? ⟨g, y * 8 + 4, none⟩ = some (.slice r.ka r.i.talks.length r.kc) ∧ w'.cell? ⟨g, y * 8 + 5, none⟩ = some (.int .i64 r.i.artist) ∧ w'.cell? ⟨g, y * 8 + 6, none⟩ = some (.int .i64 r.i.tempo) ∧ w'.cell? ⟨g, y * 8 + 7, none⟩ = some (.int .i64 r.i.lang)) ∧ w'.cell? ⟨nb, no + y, none⟩ = some (.int .i64 n))) (by kernel_rfl) (by exact ⟨rec_eight_g ST.out.row HR.out, ints_cell NS.out HN.out⟩) (fun hHeld => ?_)
      obtain ⟨v13, hwD⟩ : ∃ x, v12.drew = x := ⟨_, rfl⟩
      have u : Upd [] v12 v13 := by rw [← hwD]; exact (Upd.refl [] _).drew
      rw [hwD] at hHeld ⊢
      clear hwD
      clear d0 d1 d2 d3 d4 d5 d6 d7 nn
      replace ST := hide (ST.out.up u)
      replace NS := hide (keepI NS.out u)
      replace L2 := hide (L2.out.trans u (by simp))
      clear u
      have d0 := (rec_eight_g ST.out.row HR.out).1
      have d1 := (rec_eight_g ST.out.row HR.out).2.1
      have d2 := (rec_eight_g ST.out.row HR.out).2.2.1
      have d3 := (rec_eight_g ST.out.row HR.out).2.2.2.1
      have d4 := (rec_eight_g ST.out.row HR.out).2.2.2.2.1
      have d5 := (rec_eight_g ST.out.row HR.out).2.2.2.2.2.1
      have d6 := (rec_eight_g ST.out.row HR.out).2.2.2.2.2.2.1
      have d7 := (rec_eight_g ST.out.row HR.out).2.2.2.2.2.2.2
      have nn := (ints_cell NS.out HN.out)
      refine wpAnyH_take (i := 0) (oi := ?oi0M8) (v := ?v0M8) ?oi0_0M8 (by kernel_rfl) ?ff0M8 ?rr0M8 ?hq0M8 (Or.inl ⟨?hw0M8, ?hy0M8⟩) (by assumption) ?rest0M8
      case oi0_0M8 =>
        conv =>
          lhs
          whnf
          arg 1
          whnf
      case hq0M8 => exact fun _ _ _ h => h
      case ff0M8 => kernel_rfl
      case rr0M8 => kernel_rfl
      case hw0M8 => rfl
      case hy0M8 =>
        intro w hSw
        (try dsimp only at hSw)
        first
        | (go_simp; done)
        | (go_simp; with_reducible rfl)
      try simp only [Act.put, List.setIfInBounds_toArray, List.set_cons_zero, List.set_cons_succ]
      refine wpAnyH_take (i := 1) (oi := ?oi1M8) (v := ?v1M8) ?oi0_1M8 (by kernel_rfl) ?ff1M8 ?rr1M8 ?hq1M8 (Or.inl ⟨?hw1M8, ?hy1M8⟩) (by assumption) ?rest1M8
      case oi0_1M8 =>
        conv =>
          lhs
          whnf
          arg 1
          whnf
      case hq1M8 => exact fun _ _ _ h => h
      case ff1M8 => kernel_rfl
      case rr1M8 => kernel_rfl
      case hw1M8 => rfl
      case hy1M8 =>
        intro w hSw
        (try dsimp only at hSw)
        first
        | (go_simp; done)
        | (go_simp; with_reducible rfl)
      try simp only [Act.put, List.setIfInBounds_toArray, List.set_cons_zero, List.set_cons_succ]
      refine wpAnyH_take (i := 2) (oi := ?oi2M8) (v := ?v2M8) ?oi0_2M8 (by kernel_rfl) ?ff2M8 ?rr2M8 ?hq2M8 (Or.inl ⟨?hw2M8, ?hy2M8⟩) (by assumption) ?rest2M8
      case oi0_2M8 =>
        conv =>
          lhs
          whnf
          arg 1
          whnf
      case hq2M8 => exact fun _ _ _ h => h
      case ff2M8 => kernel_rfl
      case rr2M8 => kernel_rfl
      case hw2M8 => rfl
      case hy2M8 =>
        intro w hSw
        (try dsimp only at hSw)
        first
        | (go_simp; done)
        | (go_simp; with_reducible rfl)
      try simp only [Act.put, List.setIfInBounds_toArray, List.set_cons_zero, List.set_cons_succ]
      refine wpAnyH_take (i := 3) (oi := ?oi3M8) (v := ?v3M8) ?oi0_3M8 (by kernel_rfl) ?ff3M8 ?rr3M8 ?hq3M8 (Or.inl ⟨?hw3M8, ?hy3M8⟩) (by assumption) ?rest3M8
      case oi0_3M8 =>
        conv =>
          lhs
          whnf
          arg 1
          whnf
      case hq3M8 => exact fun _ _ _ h => h
      case ff3M8 => kernel_rfl
      case rr3M8 => kernel_rfl
      case hw3M8 => rfl
      case hy3M8 =>
        intro w hSw
        (try dsimp only at hSw)
        first
        | (go_simp; done)
        | (go_simp; with_reducible rfl)
      try simp only [Act.put, List.setIfInBounds_toArray, List.set_cons_zero, List.set_cons_succ]
      refine wpAnyH_take (i := 4) (oi := ?oi4M8) (v := ?v4M8) ?oi0_4M8 (by kernel_rfl) ?ff4M8 ?rr4M8 ?hq4M8 (Or.inl ⟨?hw4M8, ?hy4M8⟩) (by assumption) ?rest4M8
      case oi0_4M8 =>
        conv =>
          lhs
          whnf
          arg 1
          whnf
      case hq4M8 => exact fun _ _ _ h => h
      case ff4M8 => kernel_rfl
      case rr4M8 => kernel_rfl
      case hw4M8 => rfl
      case hy4M8 =>
        intro w hSw
        (try dsimp only at hSw)
        first
        | (go_simp; done)
        | (go_simp; with_reducible rfl)
      try simp only [Act.put, List.setIfInBounds_toArray, List.set_cons_zero, List.set_cons_succ]
      refine wpAnyH_take (i := 5) (oi := ?oi5M8) (v := ?v5M8) ?oi0_5M8 (by kernel_rfl) ?ff5M8 ?rr5M8 ?hq5M8 (Or.inl ⟨?hw5M8, ?hy5M8⟩) (by assumption) ?rest5M8
      case oi0_5M8 =>
        conv =>
          lhs
          whnf
          arg 1
          whnf
      case hq5M8 => exact fun _ _ _ h => h
      case ff5M8 => kernel_rfl
      case rr5M8 => kernel_rfl
      case hw5M8 => rfl
      case hy5M8 =>
        intro w hSw
        (try dsimp only at hSw)
        first
        | (go_simp; done)
        | (go_simp; with_reducible rfl)
      try simp only [Act.put, List.setIfInBounds_toArray, List.set_cons_zero, List.set_cons_succ]
      refine wpAnyH_take (i := 6) (oi := ?oi6M8) (v := ?v6M8) ?oi0_6M8 (by kernel_rfl) ?ff6M8 ?rr6M8 ?hq6M8 (Or.inl ⟨?hw6M8, ?hy6M8⟩) (by assumption) ?rest6M8
      case oi0_6M8 =>
        conv =>
          lhs
          whnf
          arg 1
          whnf
      case hq6M8 => exact fun _ _ _ h => h
      case ff6M8 => kernel_rfl
      case rr6M8 => kernel_rfl
      case hw6M8 => rfl
      case hy6M8 =>
        intro w hSw
        (try dsimp only at hSw)
        first
        | (go_simp; done)
        | (go_simp; with_reducible rfl)
      try simp only [Act.put, List.setIfInBounds_toArray, List.set_cons_zero, List.set_cons_succ]
      refine wpAnyH_take (i := 7) (oi := ?oi7M8) (v := ?v7M8) ?oi0_7M8 (by kernel_rfl) ?ff7M8 ?rr7M8 ?hq7M8 (Or.inl ⟨?hw7M8, ?hy7M8⟩) (by assumption) ?rest7M8
      case oi0_7M8 =>
        conv =>
          lhs
          whnf
          arg 1
          whnf
      case hq7M8 => exact fun _ _ _ h => h
      case ff7M8 => kernel_rfl
      case rr7M8 => kernel_rfl
      case hw7M8 => rfl
      case hy7M8 =>
        intro w hSw
        (try dsimp only at hSw)
        first
        | (go_simp; done)
        | (go_simp; with_reducible rfl)
      try simp only [Act.put, List.setIfInBounds_toArray, List.set_cons_zero, List.set_cons_succ]
      refine wpAnyH_ready (rs := [8]) (by kernel_rfl) (by simp) (AllReadyH.cons (o := ?oiM9) ?oi0_M9 (fun K hK => ?_) AllReadyH.nil)
      case oi0_M9 =>
        conv =>
          lhs
          whnf
          arg 1
          whnf
      go_simp
      go_at_call 37
      have JC := hide (j_cut (ST.out.recs r (List.mem_of_getElem? HR.out)).at_ HOK.out r.tc r.kc n HB.out)
      rw [HBN.out] at JC
      with_reducible (refine (JC.out).mono ?_)
      rintro e v14 ⟨B, bc, rfl, i3, u⟩
      clear d0 d1 d2 d3 d4 d5 d6 d7 nn
      replace ST := hide (ST.out.up u)
      replace NS := hide (keepI NS.out u)
      replace L2 := hide (L2.out.trans u (by simp))
      have I3 := hide (i3)
      clear i3
      clear u
      have d0 := (rec_eight_g ST.out.row HR.out).1
      have d1 := (rec_eight_g ST.out.row HR.out).2.1
      have d2 := (rec_eight_g ST.out.row HR.out).2.2.1
      have d3 := (rec_eight_g ST.out.row HR.out).2.2.2.1
      have d4 := (rec_eight_g ST.out.row HR.out).2.2.2.2.1
      have d5 := (rec_eight_g ST.out.row HR.out).2.2.2.2.2.1
      have d6 := (rec_eight_g ST.out.row HR.out).2.2.2.2.2.2.1
      have d7 := (rec_eight_g ST.out.row HR.out).2.2.2.2.2.2.2
      have nn := (ints_cell NS.out HN.out)
      clear JC
      (try dsimp only)
      refine hK.out _ _ (by exact ⟨rec_eight_g ST.out.row HR.out, ints_cell NS.out HN.out⟩) (fun hHeld => ?_)
      clear hK K
      try simp only [Act.put, List.setIfInBounds_toArray, List.set_cons_zero, List.set_cons_succ]
      refine wpAnyH_take (i := 9) (oi := ?oi9M10) (v := ?v9M10) ?oi0_9M10 (by kernel_rfl) ?ff9M10 ?rr9M10 ?hq9M10 (Or.inl ⟨?hw9M10, ?hy9M10⟩) (by assumption) ?rest9M10
      case oi0_9M10 =>
        conv =>
          lhs
          whnf
          arg 1
          whnf
      case hq9M10 => exact fun _ _ _ h => h
      case ff9M10 => kernel_rfl
      case rr9M10 => kernel_rfl
      case hw9M10 => rfl
      case hy9M10 =>
        intro w hSw
        (try dsimp only at hSw)
        first
        | (go_simp; done)
        | (go_simp; with_reducible rfl)
      try simp only [Act.put, List.setIfInBounds_toArray, List.set_cons_zero, List.set_cons_succ]
      refine wpAnyH_take (i := 10) (oi := ?oi10M10) (v := ?v10M10) ?oi0_10M10 (by kernel_rfl) ?ff10M10 ?rr10M10 ?hq10M10 (Or.inl ⟨?hw10M10, ?hy10M10⟩) (by assumption) ?rest10M10
      case oi0_10M10 =>
        conv =>
          lhs
          whnf
          arg 1
          whnf
      case hq10M10 => exact fun _ _ _ h => h
      case ff10M10 => kernel_rfl
      case rr10M10 => kernel_rfl
      case hw10M10 => rfl
      case hy10M10 =>
        intro w hSw
        (try dsimp only at hSw)
        first
        | (go_simp; done)
        | (go_simp; with_reducible rfl)
      try simp only [Act.put, List.setIfInBounds_toArray, List.set_cons_zero, List.set_cons_succ]
      refine wpAnyH_take (i := 11) (oi := ?oi11M10) (v := ?v11M10) ?oi0_11M10 (by kernel_rfl) ?ff11M10 ?rr11M10 ?hq11M10 (Or.inl ⟨?hw11M10, ?hy11M10⟩) (by assumption) ?rest11M10
      case oi0_11M10 =>
        conv =>
          lhs
          whnf
          arg 1
          whnf
      case hq11M10 => exact fun _ _ _ h => h
      case ff11M10 => kernel_rfl
      case rr11M10 => kernel_rfl
      case hw11M10 => rfl
      case hy11M10 =>
        intro w hSw
        (try dsimp only at hSw)
        first
        | (go_simp; done)
        | (go_simp; with_reducible rfl)
      try simp only [Act.put, List.setIfInBounds_toArray, List.set_cons_zero, List.set_cons_succ]
      refine wpAnyH_take (i := 12) (oi := ?oi12M10) (v := ?v12M10) ?oi0_12M10 (by kernel_rfl) ?ff12M10 ?rr12M10 ?hq12M10 (Or.inl ⟨?hw12M10, ?hy12M10⟩) (by assumption) ?rest12M10
      case oi0_12M10 =>
        conv =>
          lhs
          whnf
          arg 1
          whnf
      case hq12M10 => exact fun _ _ _ h => h
      case ff12M10 => kernel_rfl
      case rr12M10 => kernel_rfl
      case hw12M10 => rfl
      case hy12M10 =>
        intro w hSw
        (try dsimp only at hSw)
        first
        | (go_simp; done)
        | (go_simp; with_reducible rfl)
      try simp only [Act.put, List.setIfInBounds_toArray, List.set_cons_zero, List.set_cons_succ]
      refine wpAnyH_take (i := 13) (oi := ?oi13M10) (v := ?v13M10) ?oi0_13M10 (by kernel_rfl) ?ff13M10 ?rr13M10 ?hq13M10 (Or.inl ⟨?hw13M10, ?hy13M10⟩) (by assumption) ?rest13M10
      case oi0_13M10 =>
        conv =>
          lhs
          whnf
          arg 1
          whnf
      case hq13M10 => exact fun _ _ _ h => h
      case ff13M10 => kernel_rfl
      case rr13M10 => kernel_rfl
      case hw13M10 => rfl
      case hy13M10 =>
        intro w hSw
        (try dsimp only at hSw)
        first
        | (go_simp; done)
        | (go_simp; with_reducible rfl)
      try simp only [Act.put, List.setIfInBounds_toArray, List.set_cons_zero, List.set_cons_succ]
      refine wpAnyH_done (by kernel_rfl) ?_ _
      go_wp2_with fail
      have JN := hide (j_length (ST.out.recs r (List.mem_of_getElem? HR.out)).at_ HOK.out r.tc r.kc B bn bc b I3.out hbn9 HCO.out)
      rw [HBL.out] at JN
      refine (JN.out).mono ?_
      rintro e v15 ⟨rfl, u⟩
      clear d0 d1 d2 d3 d4 d5 d6 d7 nn
      replace ST := hide (ST.out.up u)
      replace NS := hide (keepI NS.out u)
      replace L2 := hide (L2.out.trans u (by simp))
      replace I3 := hide (keepI I3.out u)
      clear u
      have d0 := (rec_eight_g ST.out.row HR.out).1
      have d1 := (rec_eight_g ST.out.row HR.out).2.1
      have d2 := (rec_eight_g ST.out.row HR.out).2.2.1
      have d3 := (rec_eight_g ST.out.row HR.out).2.2.2.1
      have d4 := (rec_eight_g ST.out.row HR.out).2.2.2.2.1
      have d5 := (rec_eight_g ST.out.row HR.out).2.2.2.2.2.1
      have d6 := (rec_eight_g ST.out.row HR.out).2.2.2.2.2.2.1
      have d7 := (rec_eight_g ST.out.row HR.out).2.2.2.2.2.2.2
      have nn := (ints_cell NS.out HN.out)
      clear JN
      have hnw : IntKind.i64.wrap (n - 1) = n - 1 := Go.IntWalk.i64_in _ (by omega)
      go_wp2_with fail
      have JP := hide (j_place (ST.out.recs r (List.mem_of_getElem? HR.out)).at_ HOK.out r.tc r.kc B bn bc b I3.out hbn9 HCO.out (n - 1) (by omega) (by rw [HBL.out]; omega))
      refine (JP.out).mono ?_
      rintro e v16 ⟨rfl, u⟩
      clear d0 d1 d2 d3 d4 d5 d6 d7 nn
      replace ST := hide (ST.out.up u)
      replace NS := hide (keepI NS.out u)
      replace L2 := hide (L2.out.trans u (by simp))
      replace I3 := hide (keepI I3.out u)
      clear u
      have d0 := (rec_eight_g ST.out.row HR.out).1
      have d1 := (rec_eight_g ST.out.row HR.out).2.1
      have d2 := (rec_eight_g ST.out.row HR.out).2.2.1
      have d3 := (rec_eight_g ST.out.row HR.out).2.2.2.1
      have d4 := (rec_eight_g ST.out.row HR.out).2.2.2.2.1
      have d5 := (rec_eight_g ST.out.row HR.out).2.2.2.2.2.1
      have d6 := (rec_eight_g ST.out.row HR.out).2.2.2.2.2.2.1
      have d7 := (rec_eight_g ST.out.row HR.out).2.2.2.2.2.2.2
      have nn := (ints_cell NS.out HN.out)
      clear JP
      go_wp2_with fail
      have JQ := hide (j_noplace (ST.out.recs r (List.mem_of_getElem? HR.out)).at_ HOK.out r.tc r.kc B bn bc b I3.out hbn9 n (by rw [HBL.out]; exact Int.le_refl _))
      refine (JQ.out).mono ?_
      rintro e v17 ⟨rfl, u⟩
      clear d0 d1 d2 d3 d4 d5 d6 d7 nn
      replace ST := hide (ST.out.up u)
      replace NS := hide (keepI NS.out u)
      replace L2 := hide (L2.out.trans u (by simp))
      replace I3 := hide (keepI I3.out u)
      clear u
      have d0 := (rec_eight_g ST.out.row HR.out).1
      have d1 := (rec_eight_g ST.out.row HR.out).2.1
      have d2 := (rec_eight_g ST.out.row HR.out).2.2.1
      have d3 := (rec_eight_g ST.out.row HR.out).2.2.2.1
      have d4 := (rec_eight_g ST.out.row HR.out).2.2.2.2.1
      have d5 := (rec_eight_g ST.out.row HR.out).2.2.2.2.2.1
      have d6 := (rec_eight_g ST.out.row HR.out).2.2.2.2.2.2.1
      have d7 := (rec_eight_g ST.out.row HR.out).2.2.2.2.2.2.2
      have nn := (ints_cell NS.out HN.out)
      clear JQ
      have ll2 : v17.cell? ⟨lg, y * 3 + 2, none⟩ = some (.int .i64 jj) := by
        obtain ⟨lg', lr', eq, _, hlb, _⟩ := own_open3 ST.out.lrow (by omega)
        obtain rfl : lg = lg' := by simpa using eq
        rw [hlb.cell, List.getElem?_append_left (by rw [entCells_length, ST.out.elen]; omega)]
        have h9 := HJ.out
        rwa [List.getElem?_append_left (by rw [entCells_length, ST.out.elen]; omega)] at h9
      have haw : IntKind.i64.wrap (aa + n) = aa + n := Go.IntWalk.i64_in _ (by omega)
      have hlw : IntKind.i64.wrap (ll + r.i.len) = ll + r.i.len := Go.IntWalk.i64_in _ (by omega)
      have hlw2 : IntKind.i64.wrap (ll + r.i.len - n) = ll + r.i.len - n := Go.IntWalk.i64_in _ (by omega)
      have HLN2 := hide (show ll + r.i.len - n = lostS ((qs.map (·.i)).take (y + 1)) (ns.take (y + 1)) by rw [← HLN.out]; omega)
      by_cases hj0 : 0 ≤ jj
      case pos =>
        obtain rfl : jj = aa := by omega
        clear hjoin
        go_wp2_with fail
        go_roundw
        case rel => exact ⟨y + 1, jj + n, ll + r.i.len - n, by omega, by go_num, rfl, rfl, by omega, by omega, HSN, HLN2, L2⟩
        case measure => simp [intOf] <;> omega
      case neg =>
        clear hjoin
        go_wp2_with fail
        go_roundw
        case rel => exact ⟨y + 1, aa + n, ll + r.i.len - n, by omega, by go_num, rfl, rfl, by omega, by omega, HSN, HLN2, L2⟩
        case measure => simp [intOf] <;> omega
end Go.Proofs.Yteehjciepccomaa
