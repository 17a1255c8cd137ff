/-
  The walk of the statement on the steps from piece to piece.
-/
import Derived.Test.YteehjciepccomaaFStepsP
import Derived.Deep.RegionHeld3
import Derived.Deep.CutBlock
namespace Go.Proofs.Yteehjciepccomaa
open Go.RowKit
set_option maxRecDepth 100000
set_option maxHeartbeats 20000000

theorem begins_nil {l : List Pc} (h : l.length = 0) : beginsL l 0 = [0] := by
  have : l = [] := List.eq_nil_of_length_eq_zero h
  subst this
  unfold beginsL
  have e : memb (reachS (([] : List Pc).take 0) [0]) 72001 = [0] := memb_eq (by simp) (by intro x hx; simp [reachS] at hx; omega) (by intro x; simp [reachS])
  rw [e]
  rfl
theorem ints_new (w : World) (x : Int) (c : Nat) : Ints (w.alloc (.cells #[.int .i64 x] 3)).heap.size (w.alloc (.cells #[.int .i64 x] 3)) (.slice (some ⟨w.heap.size, 0, none⟩) 1 c) [x] :=
  Ints.of rfl fun j z hz => by
    have hj := (List.getElem?_eq_some_iff.1 hz).1
    obtain rfl : j = 0 := by simpa using hj
    obtain rfl : x = z := by simpa using hz
    exact ⟨w.heap.size, 0, rfl, by rw [World.size_alloc]; omega, (Blk.new w 3 [.int .i64 x]).cell 0⟩

theorem prev_lt {l : List Int} (hs : l.Pairwise (· < ·)) {j q : Nat} {x v : Int} (hx : l[j]? = some x) (hq : q + 1 = j) (hv : l[q]? = some v) : v < x := by
  obtain ⟨h1, e1⟩ := List.getElem?_eq_some_iff.1 hx
  obtain ⟨h2, e2⟩ := List.getElem?_eq_some_iff.1 hv
  have := List.pairwise_iff_getElem.1 hs q j h2 h1 (by omega)
  rwa [e1, e2] at this

theorem fitSteps_walk (a0 : Option Addr) (len0 cap0 : Nat) (z0 : List X4) (a1 a2 : Int) (w : World) (w0 : X4Arg w a0 len0 cap0 z0) (w1 : (Lit.int .i64 a1).wf = true) (w2 : (Lit.int .i64 a2).wf = true) :
    Calls Try.prog 6 #[.slice a0 len0 cap0, .int .i64 a1, .int .i64 a2] w fun e w' => e = .returned (.bool true) ∧ Below w.heap.size w w' := by
  have X0 := hide w0
  have W1 := hide w1
  have W2 := hide w2
  clear w0 w1 w2
  go_enter Try.func6, Try.ntmps6
  go_wp2_with fail
  refine (sane_any w).mono ?_
  rintro e w1 ⟨rfl, u⟩
  have U0 := hide u
  clear u
  go_wp2_with fail
  refine (made_any a0 len0 cap0 z0 a1 w1 (X0.out.2.2.2.below (U0.out.toBelow (Nat.le_refl _) (by simp))) X0.out.1 (Nat.le_trans X0.out.2.1 X0.out.2.2.1) U0.out.size W1.out).mono ?_
  rintro e w2 ⟨b, len, cap, l, t, rfl, hl, hl10, hcap, hp, hV, _, u⟩
  have U1 := hide (U0.out.trans u (by simp))
  have HP := hide hp
  have HV := hide hV
  have HM := hide (show l.length ≤ maxLen by unfold maxLen; omega)
  have HLEN := hide hl
  have HC := hide (show l.length ≤ cap by omega)
  clear u hp hV hl hcap
  by_cases hlen0 : len = 0
  · subst hlen0
    have BG := begins_use b cap l w2 HP.out (Nat.le_refl _) HM.out (valid_any0 HV.out) 0 (Nat.zero_le _) HC.out (begins_nil HLEN.out)
    rw [HLEN.out] at BG
    have HBG := hide BG
    clear BG
    go_wp2_with fail
    refine HBG.out.mono ?_
    rintro e w3 ⟨A3, c3, rfl, i3, u⟩
    have U3 := hide (U1.out.trans u (by simp))
    have I3 := hide i3
    clear u i3
    go_wp2_with fail
    have ua := (Upd.refl [] w3).alloc (.cells #[.int .i64 0] 3)
    refine (ints_yes A3 1 c3 [0] (some ⟨w3.heap.size, 0, none⟩) 1 1 (w3.alloc (.cells #[.int .i64 0] 3)) (I3.out.upd ua (Nat.le_refl _) (by simp)) (ints_new w3 0 1) ua.size (Nat.le_refl _) (by omega)).mono ?_
    rintro e w4 ⟨rfl, u⟩
    have U4 := hide ((U3.out.trans ua (by simp)).trans u (by simp))
    clear u
    go_wp2_with fail
    go_ret
    exact ⟨rfl, U4.out.toBelow (Nat.le_refl _) (by simp)⟩
  have hlen1 : 0 < len := by omega
  have hlen2 : ¬ (len : Int) = 0 := by omega
  obtain ⟨n, hn⟩ : ∃ n : Nat, pickN a2 (len : Int) = (n : Int) := ⟨(pickN a2 (len : Int)).toNat, by have := pickN_lt a2 (n := (len : Int)) (by omega); omega⟩
  have hnl : n < len := by have := pickN_lt a2 (n := (len : Int)) (by omega); omega
  have PK := fun W => pick_any a2 (len : Int) W W2.out (by omega) (by omega)
  simp only [hn] at PK
  have HPK := hide PK
  clear hn PK
  obtain ⟨p, hp⟩ : ∃ p, l[n]? = some p := ⟨_, List.getElem?_eq_getElem (by have := HLEN.out; omega)⟩
  have HPP := hide hp
  have hok := HV.out.2.2 p (List.mem_of_getElem? hp)
  have HOK := hide hok
  obtain ⟨b', o, pa, pn, pc, eb, hb, hi, hpm, c0, hq3, hq4⟩ := HP.out n p hp
  subst eb
  have hpn := hi.form.1
  have hpn8 : pn ≤ 8 := by have := hok.1.2; omega
  obtain ⟨lb, lo, rfl, hq1, hq2⟩ := hi.form.2 0 _ (List.getElem?_eq_getElem (show 0 < p.lens.length from hok.1.1))
  have HLC := hide (show ∀ j z, p.lens[j]? = some z → w2.cell? ⟨lb, lo + j, none⟩ = some (.int .i64 z) from fun j z hz => by
    obtain ⟨b2, o2, e, _, h⟩ := hi.form.2 j z hz
    obtain ⟨rfl, rfl⟩ : lb = b2 ∧ lo = o2 := by simpa using e
    exact h)
  have HPN2 := hide hpn
  have C0 := hide c0
  have KEEP := hide (show ∀ (w2 W : World) (ad : Addr) (v : Value), Upd [] w2 W → w2.cell? ad = some v → W.cell? ad = some v from fun w2 W ad v hu hc => (hu.cell (World.block_lt_of_cell? _ _ hc) (by simp)).trans hc)
  obtain ⟨as_, has_⟩ : ∃ as_, beginsL l n = as_ := ⟨_, rfl⟩
  obtain ⟨bs, hbs⟩ : ∃ bs, beginsL l (n + 1) = bs := ⟨_, rfl⟩
  obtain ⟨la, hla⟩ : ∃ la, as_.length = la := ⟨_, rfl⟩
  obtain ⟨lbs, hlbs⟩ : ∃ lbs, bs.length = lbs := ⟨_, rfl⟩
  obtain ⟨jn, hjn⟩ : ∃ jn, joinAt l (n + 1) = jn := ⟨_, rfl⟩
  have hlam : la ≤ 72001 := by
    rw [← hla, ← has_]
    exact Nat.le_trans (List.length_filter_le _ _) (memb_length _ _)
  have hlbm : lbs ≤ 72001 := by
    rw [← hlbs, ← hbs]
    exact Nat.le_trans (List.length_filter_le _ _) (memb_length _ _)
  have HAB := hide (show ∀ x ∈ as_, 0 ≤ x ∧ x ≤ 36000 from fun x hx => by
    rw [← has_] at hx
    have := begins_bound HV.out (by have := HLEN.out; omega) hx
    omega)
  have HBB := hide (show ∀ x ∈ bs, 0 ≤ x ∧ x ≤ 36000 from fun x hx => by
    rw [← hbs] at hx
    have := begins_bound HV.out (by have := HLEN.out; omega) hx
    omega)
  have HFWD := hide (show ∀ a z, a ∈ as_ → z ∈ p.lens → (jn < 0 ∨ jn = a + z) → a + z ∈ bs from fun a z ha hz hj => by
    rw [← has_] at ha
    rw [← hjn] at hj
    rw [← hbs]
    exact steps_fwd HV.out HPP.out ha hz hj)
  have HBACK := hide (show ∀ y ∈ bs, (∃ z ∈ p.lens, y - z ∈ as_) ∧ (jn < 0 ∨ jn = y) from fun y hy => by
    rw [← hbs] at hy
    have := steps_back HV.out HPP.out hy
    rwa [has_, hjn] at this)
  have HSTR := hide (show bs.Pairwise (· < ·) by rw [← hbs]; exact begins_strict)
  have BGA := begins_use (some ⟨b', o, none⟩) cap l w2 HP.out (Nat.le_refl _) HM.out (valid_any0 HV.out) n (by have := HLEN.out; omega) HC.out has_
  rw [HLEN.out, hla] at BGA
  have HBGA := hide BGA
  have HBGB := hide (show ∀ W, Upd [] w2 W → Calls Try.prog 16 #[.slice (some ⟨b', o, none⟩) len cap, .int .i64 ((n : Int) + 1)] W fun e w' => ∃ A c', e = .returned (.tuple #[.slice A lbs c', .int .i64 0]) ∧ Ints w'.heap.size w' (.slice A lbs c') bs ∧ Upd [] W w' from fun W hW => by
    have h := begins_use (some ⟨b', o, none⟩) cap l W (HP.out.upd hW (Nat.le_refl _) (by simp)) hW.size HM.out (valid_any0 HV.out) (n + 1) (by have := HLEN.out; omega) HC.out hbs
    have e : ((n + 1 : Nat) : Int) = (n : Int) + 1 := by omega
    rwa [HLEN.out, hlbs, e] at h)
  have HJN := hide hjn
  have HLA := hide hla
  have HLB := hide hlbs
  clear hq1 hq2 hq3 hq4 hp hok hb hi hpm c0 hpn has_ hbs hla hlbs hjn BGA
  go_wp2_with fail
  refine (HPK.out _).mono ?_
  rintro e w' ⟨rfl, rfl⟩
  go_wp2_with fail
  refine HBGA.out.mono ?_
  rintro e w3 ⟨A1, c1, rfl, i1, u⟩
  have U2 := hide u
  have I1 := hide i1
  clear u i1
  go_wp2_with fail
  refine (HBGB.out _ U2.out).mono ?_
  rintro e w4 ⟨A2, c2, rfl, i2, u⟩
  have U34 := hide u
  have U24 := hide (U2.out.trans u (by simp))
  have I2 := hide i2
  clear u i2
  go_upto_if 73 with fail
  go_cut [16] from 69 to 79 (fun s16 wx => s16 = .int .i64 jn ∧ w4 = wx)
  case first =>
    by_cases hn1 : n + 1 < len
    · obtain ⟨q, hq⟩ : ∃ q, l[n + 1]? = some q := ⟨_, List.getElem?_eq_getElem (by have := HLEN.out; omega)⟩
      obtain ⟨b2, o2, pa2, pn2, pc2, eb, hb, hi, hpm, d0, d1, d2⟩ := (HP.out.upd U24.out (Nat.le_refl _) (by simp)) (n + 1) q hq
      obtain ⟨rfl, rfl⟩ : b' = b2 ∧ o = o2 := by simpa using eb
      have e : q.join = jn := by have := HJN.out; unfold joinAt at this; rw [hq] at this; exact this
      rw [e] at d2
      have hn1' : (n : Int) + 1 < len := by omega
      have hn0' : 0 ≤ (n : Int) + 1 := by omega
      clear hq eb hb hi hpm d0 d1 e
      go_wp2_with fail
      go_meet
      exact ⟨rfl, rfl⟩
    · have e : (-1 : Int) = jn := by
        have := HJN.out
        unfold joinAt at this
        rw [List.getElem?_eq_none (by have := HLEN.out; omega)] at this
        exact this
      have hn1' : ¬ (n : Int) + 1 < len := by omega
      subst e
      go_wp2_with fail
      go_meet
      exact ⟨rfl, rfl⟩
  case rest =>
    obtain ⟨rfl, rfl⟩ := hcut
    have HASB := hide (show ∀ W, Upd [] w4 W → ∀ y, y ∈ bs → Calls Try.prog 31 #[.slice A2 lbs c2, .int .i64 y] W fun e w' => e = .returned (.bool true) ∧ W = w' from fun W hW y hy => (lhas_any A2 lbs c2 bs y W (I2.out.upd hW (Nat.le_refl _) (by simp)) (by omega)).mono fun e w' h => ⟨by rw [h.1, decide_eq_true hy], h.2⟩)
    have HASA := hide (show ∀ W, Upd [] w4 W → ∀ y, Calls Try.prog 31 #[.slice A1 la c1, .int .i64 y] W fun e w' => e = .returned (.bool (decide (y ∈ as_))) ∧ W = w' from fun W hW y => lhas_any A1 la c1 as_ y W (I1.out.upd (U34.out.trans hW (by simp)) (Nat.le_refl _) (by simp)) (by omega))
    go_wp2_with fail
    go_loopw [17] (fun s17 wr => ∃ i : Nat, i ≤ la ∧ s17 = .int .i64 i ∧ Hid (Upd [] w4 wr)) (fun i _ => la - (intOf i).toNat)
    case atStart => exact ⟨0, Nat.zero_le _, rfl, Upd.refl _ _⟩
    case round =>
      obtain ⟨i, hi, rfl, hu⟩ := hrel
      by_cases hlt : i < la
      · obtain ⟨x, hx⟩ : ∃ x, as_[i]? = some x := ⟨_, List.getElem?_eq_getElem (by have := HLA.out; omega)⟩
        obtain ⟨Ab, Ao, ea, hAb, hxc⟩ := I1.out.form.2 i x hx
        subst ea
        have HXC := hide (show ∀ W, Upd [] w4 W → W.cell? ⟨Ab, Ao + i, none⟩ = some (.int .i64 x) ∧ W.cell? ⟨b', o + n * 3, none⟩ = some (.slice (some ⟨lb, lo, none⟩) pn pc) from fun W hW => ⟨KEEP.out _ _ _ _ (U34.out.trans hW (by simp)) hxc, KEEP.out _ _ _ _ (U24.out.trans hW (by simp)) C0.out⟩)
        have HX := hide (List.mem_of_getElem? hx)
        have hxb := HAB.out x HX.out
        obtain ⟨hxb1, hxb2⟩ := hxb
        have hil : (i : Int) < la := by omega
        clear hx hAb hxc
        go_wp2_with fail
        go_loopw [18] (fun s18 wr2 => ∃ k : Nat, k ≤ pn ∧ s18 = .int .i64 k ∧ Hid (Upd [] w4 wr2)) (fun k _ => pn - (intOf k).toNat)
        case atStart => exact ⟨0, Nat.zero_le _, rfl, hu⟩
        case round =>
          obtain ⟨k, hk, rfl, hv⟩ := hrel
          obtain ⟨wq, rfl⟩ : ∃ wq : World, wq = wr := ⟨_, rfl⟩
          have f1 := (HXC.out wq hv.out).2
          by_cases hkl : k < pn
          · obtain ⟨z, hz⟩ : ∃ z, p.lens[k]? = some z := ⟨_, List.getElem?_eq_getElem (by have := HPN2.out; omega)⟩
            have f0 := (HXC.out wq hv.out).1
            have f2 := KEEP.out _ _ _ _ (U24.out.trans hv.out (by simp)) (HLC.out k z hz)
            have HZ := hide (List.mem_of_getElem? hz)
            obtain ⟨hz1, hz2⟩ := len_ok HOK.out HZ.out
            have hki : (k : Int) < pn := by omega
            obtain ⟨xz, hxz⟩ : ∃ xz, x + z = xz := ⟨_, rfl⟩
            have hw : IntKind.i64.wrap (x + z) = xz := by rw [Go.IntWalk.i64_in _ (by omega)]; exact hxz
            have HXZ := hide hxz
            have HMEM := hide (show jn < 0 ∨ jn = xz → xz ∈ bs from fun h => by
              rw [← hxz] at h ⊢
              exact HFWD.out x z HX.out HZ.out h)
            clear hz hxz
            go_wp2_with fail
            refine wp_region_held_drew (S := (fun w' => w'.cell? ⟨Ab, Ao + i, none⟩ = some (.int .i64 x) ∧ w'.cell? ⟨b', o + n * 3, none⟩ = some (.slice (some ⟨lb, lo, none⟩) pn pc) ∧ w'.cell? ⟨lb, lo + k, none⟩ = some (.int .i64 z))) (by kernel_rfl) (by exact ⟨f0, f1, f2⟩) (fun hHeld => ?_)
            refine wpAnyH_take (i := 0) (oi := ?oi0A) (v := ?v0A) ?oi0_0A (by kernel_rfl) ?ff0A ?rr0A ?hq0A (Or.inl ⟨?hw0A, ?hy0A⟩) (by assumption) ?rest0A
            case oi0_0A =>
              conv =>
                lhs
                whnf
                arg 1
                whnf
            case hq0A => exact fun _ _ _ h => h
            case ff0A => kernel_rfl
            case rr0A => kernel_rfl
            case hw0A => rfl
            case hy0A =>
              intro w hSw
              (try dsimp only at hSw)
              first
              | (go_simp; done)
              | (go_simp; with_reducible rfl)
            try simp only [Act.put, List.setIfInBounds_toArray, List.set_cons_zero, List.set_cons_succ]
            refine wpAnyH_take (i := 1) (oi := ?oi1A) (v := ?v1A) ?oi0_1A (by kernel_rfl) ?ff1A ?rr1A ?hq1A (Or.inl ⟨?hw1A, ?hy1A⟩) (by assumption) ?rest1A
            case oi0_1A =>
              conv =>
                lhs
                whnf
                arg 1
                whnf
            case hq1A => exact fun _ _ _ h => h
            case ff1A => kernel_rfl
            case rr1A => kernel_rfl
            case hw1A => rfl
            case hy1A =>
              intro w hSw
              (try dsimp only at hSw)
              first
              | (go_simp; done)
              | (go_simp; with_reducible rfl)
            try simp only [Act.put, List.setIfInBounds_toArray, List.set_cons_zero, List.set_cons_succ]
            refine wpAnyH_take (i := 2) (oi := ?oi2A) (v := ?v2A) ?oi0_2A (by kernel_rfl) ?ff2A ?rr2A ?hq2A (Or.inl ⟨?hw2A, ?hy2A⟩) (by assumption) ?rest2A
            case oi0_2A =>
              conv =>
                lhs
                whnf
                arg 1
                whnf
            case hq2A => exact fun _ _ _ h => h
            case ff2A => kernel_rfl
            case rr2A => kernel_rfl
            case hw2A => rfl
            case hy2A =>
              intro w hSw
              (try dsimp only at hSw)
              first
              | (go_simp; done)
              | (go_simp; with_reducible rfl)
            try simp only [Act.put, List.setIfInBounds_toArray, List.set_cons_zero, List.set_cons_succ]
            refine wpAnyH_take (i := 3) (oi := ?oi3A) (v := ?v3A) ?oi0_3A (by kernel_rfl) ?ff3A ?rr3A ?hq3A (Or.inl ⟨?hw3A, ?hy3A⟩) (by assumption) ?rest3A
            case oi0_3A =>
              conv =>
                lhs
                whnf
                arg 1
                whnf
            case hq3A => exact fun _ _ _ h => h
            case ff3A => kernel_rfl
            case rr3A => kernel_rfl
            case hw3A => rfl
            case hy3A =>
              intro w hSw
              (try dsimp only at hSw)
              first
              | (go_simp; done)
              | (go_simp; with_reducible rfl)
            try simp only [Act.put, List.setIfInBounds_toArray, List.set_cons_zero, List.set_cons_succ]
            refine wpAnyH_take (i := 4) (oi := ?oi4A) (v := ?v4A) ?oi0_4A (by kernel_rfl) ?ff4A ?rr4A ?hq4A (Or.inl ⟨?hw4A, ?hy4A⟩) (by assumption) ?rest4A
            case oi0_4A =>
              conv =>
                lhs
                whnf
                arg 1
                whnf
            case hq4A => exact fun _ _ _ h => h
            case ff4A => kernel_rfl
            case rr4A => kernel_rfl
            case hw4A => rfl
            case hy4A =>
              intro w hSw
              (try dsimp only at hSw)
              first
              | (go_simp; done)
              | (go_simp; with_reducible rfl)
            try simp only [Act.put, List.setIfInBounds_toArray, List.set_cons_zero, List.set_cons_succ]
            refine wpAnyH_take (i := 5) (oi := ?oi5A) (v := ?v5A) ?oi0_5A (by kernel_rfl) ?ff5A ?rr5A ?hq5A (Or.inl ⟨?hw5A, ?hy5A⟩) (by assumption) ?rest5A
            case oi0_5A =>
              conv =>
                lhs
                whnf
                arg 1
                whnf
            case hq5A => exact fun _ _ _ h => h
            case ff5A => kernel_rfl
            case rr5A => kernel_rfl
            case hw5A => rfl
            case hy5A =>
              intro w hSw
              (try dsimp only at hSw)
              first
              | (go_simp; done)
              | (go_simp; with_reducible rfl)
            try simp only [Act.put, List.setIfInBounds_toArray, List.set_cons_zero, List.set_cons_succ]
            refine wpAnyH_take (i := 6) (oi := ?oi6A) (v := ?v6A) ?oi0_6A (by kernel_rfl) ?ff6A ?rr6A ?hq6A (Or.inl ⟨?hw6A, ?hy6A⟩) (by assumption) ?rest6A
            case oi0_6A =>
              conv =>
                lhs
                whnf
                arg 1
                whnf
            case hq6A => exact fun _ _ _ h => h
            case ff6A => kernel_rfl
            case rr6A => kernel_rfl
            case hw6A => rfl
            case hy6A =>
              intro w hSw
              (try dsimp only at hSw)
              first
              | (go_simp; done)
              | (go_simp; with_reducible rfl)
            try simp only [Act.put, List.setIfInBounds_toArray, List.set_cons_zero, List.set_cons_succ]
            refine wpAnyH_take (i := 7) (oi := ?oi7A) (v := ?v7A) ?oi0_7A (by kernel_rfl) ?ff7A ?rr7A ?hq7A (Or.inl ⟨?hw7A, ?hy7A⟩) (by assumption) ?rest7A
            case oi0_7A =>
              conv =>
                lhs
                whnf
                arg 1
                whnf
            case hq7A => exact fun _ _ _ h => h
            case ff7A => kernel_rfl
            case rr7A => kernel_rfl
            case hw7A => rfl
            case hy7A =>
              intro w hSw
              (try dsimp only at hSw)
              first
              | (go_simp; done)
              | (go_simp; with_reducible rfl)
            try simp only [Act.put, List.setIfInBounds_toArray, List.set_cons_zero, List.set_cons_succ]
            refine wpAnyH_take (i := 8) (oi := ?oi8A) (v := ?v8A) ?oi0_8A (by kernel_rfl) ?ff8A ?rr8A ?hq8A (Or.inl ⟨?hw8A, ?hy8A⟩) (by assumption) ?rest8A
            case oi0_8A =>
              conv =>
                lhs
                whnf
                arg 1
                whnf
            case hq8A => exact fun _ _ _ h => h
            case ff8A => kernel_rfl
            case rr8A => kernel_rfl
            case hw8A => rfl
            case hy8A =>
              intro w hSw
              (try dsimp only at hSw)
              first
              | (go_simp; done)
              | (go_simp; with_reducible rfl)
            try simp only [Act.put, List.setIfInBounds_toArray, List.set_cons_zero, List.set_cons_succ]
            refine wpAnyH_take (i := 9) (oi := ?oi9A) (v := ?v9A) ?oi0_9A (by kernel_rfl) ?ff9A ?rr9A ?hq9A (Or.inl ⟨?hw9A, ?hy9A⟩) (by assumption) ?rest9A
            case oi0_9A =>
              conv =>
                lhs
                whnf
                arg 1
                whnf
            case hq9A => exact fun _ _ _ h => h
            case ff9A => kernel_rfl
            case rr9A => kernel_rfl
            case hw9A => rfl
            case hy9A =>
              intro w hSw
              (try dsimp only at hSw)
              first
              | (go_simp; done)
              | (go_simp; with_reducible rfl)
            try simp only [Act.put, List.setIfInBounds_toArray, List.set_cons_zero, List.set_cons_succ]
            refine wpAnyH_take (i := 10) (oi := ?oi10A) (v := ?v10A) ?oi0_10A (by kernel_rfl) ?ff10A ?rr10A ?hq10A (Or.inl ⟨?hw10A, ?hy10A⟩) (by assumption) ?rest10A
            case oi0_10A =>
              conv =>
                lhs
                whnf
                arg 1
                whnf
            case hq10A => exact fun _ _ _ h => h
            case ff10A => kernel_rfl
            case rr10A => kernel_rfl
            case hw10A => rfl
            case hy10A =>
              intro w hSw
              (try dsimp only at hSw)
              first
              | (go_simp; done)
              | (go_simp; with_reducible rfl)
            try simp only [Act.put, List.setIfInBounds_toArray, List.set_cons_zero, List.set_cons_succ]
            refine wpAnyH_take (i := 11) (oi := ?oi11A) (v := ?v11A) ?oi0_11A (by kernel_rfl) ?ff11A ?rr11A ?hq11A (Or.inl ⟨?hw11A, ?hy11A⟩) (by assumption) ?rest11A
            case oi0_11A =>
              conv =>
                lhs
                whnf
                arg 1
                whnf
            case hq11A => exact fun _ _ _ h => h
            case ff11A => kernel_rfl
            case rr11A => kernel_rfl
            case hw11A => rfl
            case hy11A =>
              intro w hSw
              (try dsimp only at hSw)
              first
              | (go_simp; done)
              | (go_simp; with_reducible rfl)
            try simp only [Act.put, List.setIfInBounds_toArray, List.set_cons_zero, List.set_cons_succ]
            refine wpAnyH_take (i := 12) (oi := ?oi12A) (v := ?v12A) ?oi0_12A (by kernel_rfl) ?ff12A ?rr12A ?hq12A (Or.inl ⟨?hw12A, ?hy12A⟩) (by assumption) ?rest12A
            case oi0_12A =>
              conv =>
                lhs
                whnf
                arg 1
                whnf
            case hq12A => exact fun _ _ _ h => h
            case ff12A => kernel_rfl
            case rr12A => kernel_rfl
            case hw12A => rfl
            case hy12A =>
              intro w hSw
              (try dsimp only at hSw)
              first
              | (go_simp; done)
              | (go_simp; with_reducible rfl)
            try simp only [Act.put, List.setIfInBounds_toArray, List.set_cons_zero, List.set_cons_succ]
            refine wpAnyH_take (i := 13) (oi := ?oi13A) (v := ?v13A) ?oi0_13A (by kernel_rfl) ?ff13A ?rr13A ?hq13A (Or.inl ⟨?hw13A, ?hy13A⟩) (by assumption) ?rest13A
            case oi0_13A =>
              conv =>
                lhs
                whnf
                arg 1
                whnf
            case hq13A => exact fun _ _ _ h => h
            case ff13A => kernel_rfl
            case rr13A => kernel_rfl
            case hw13A => rfl
            case hy13A =>
              intro w hSw
              (try dsimp only at hSw)
              first
              | (go_simp; done)
              | (go_simp; with_reducible rfl)
            try simp only [Act.put, List.setIfInBounds_toArray, List.set_cons_zero, List.set_cons_succ]
            refine wpAnyH_done (by kernel_rfl) ?_ _
            by_cases hj : jn < 0
            · go_wp2_with fail
              refine (HASB.out _ hv.out.drew xz (HMEM.out (Or.inl hj))).mono ?_
              rintro e w' ⟨rfl, rfl⟩
              go_wp2_with fail
              go_roundw
              case rel => exact ⟨k + 1, by omega, by go_num, hv.out.drew⟩
              case measure => simp [intOf] <;> omega
            · by_cases hjx : jn = xz
              · obtain rfl : jn = xz := hjx
                go_wp2_with fail
                refine (HASB.out _ hv.out.drew jn (HMEM.out (Or.inr (by simp)))).mono ?_
                rintro e w' ⟨rfl, rfl⟩
                go_wp2_with fail
                go_roundw
                case rel => exact ⟨k + 1, by omega, by go_num, hv.out.drew⟩
                case measure => simp [intOf] <;> omega
              · have hjd : decide (jn = xz) = false := decide_eq_false hjx
                go_wp2_with fail
                go_roundw
                case rel => exact ⟨k + 1, by omega, by go_num, hv.out.drew⟩
                case measure => simp [intOf] <;> omega
          · have hki : ¬ (k : Int) < pn := by omega
            go_wp2_with fail
            go_roundw
            case rel => exact ⟨i + 1, by omega, by go_num, hv⟩
            case measure => simp [intOf] <;> omega
      · have hil : ¬ (i : Int) < la := by omega
        go_wp2_with fail
        go_loopw [20] (fun s20 wr => ∃ j : Nat, j ≤ lbs ∧ s20 = .int .i64 j ∧ Hid (Upd [] w4 wr)) (fun j _ => lbs - (intOf j).toNat)
        case atStart => exact ⟨0, Nat.zero_le _, rfl, hu⟩
        case round =>
          obtain ⟨j, hj, rfl, hu⟩ := hrel
          by_cases hlt : j < lbs
          · obtain ⟨y, hy⟩ : ∃ y, bs[j]? = some y := ⟨_, List.getElem?_eq_getElem (by have := HLB.out; omega)⟩
            obtain ⟨Bb, Bo, ea, hBb, hyc⟩ := I2.out.form.2 j y hy
            subst ea
            have HYC := hide (show ∀ (j : Nat) (y : Int), bs[j]? = some y → ∀ W, Upd [] w4 W → W.cell? ⟨Bb, Bo + j, none⟩ = some (.int .i64 y) from fun j y hy W hW => by
              obtain ⟨b2, o2, ea, _, h⟩ := I2.out.form.2 j y hy
              obtain ⟨rfl, rfl⟩ : Bb = b2 ∧ Bo = o2 := by simpa using ea
              exact KEEP.out _ _ _ _ hW h)
            have HY := hide (List.mem_of_getElem? hy)
            have HYJ := hide hy
            obtain ⟨hy1, hy2⟩ := HBB.out y HY.out
            have hjl : (j : Int) < lbs := by omega
            clear hy hBb hyc
            go_wp2_with fail
            go_loopw [21, 22] (fun s21 s22 wr2 => ∃ (k : Nat) (F : Bool), k ≤ pn ∧ s21 = .bool F ∧ s22 = .int .i64 k ∧ Hid (F = true ∨ ∀ j' < k, ∀ z, p.lens[j']? = some z → y - z ∉ as_) ∧ Hid (Upd [] w4 wr2)) (fun _ k _ => pn - (intOf k).toNat)
            case atStart => exact ⟨0, false, Nat.zero_le _, rfl, rfl, Or.inr fun j' hj' => absurd hj' (Nat.not_lt_zero _), hu⟩
            case round =>
              obtain ⟨k, F, hk, rfl, rfl, hF, hv⟩ := hrel
              obtain ⟨wq, rfl⟩ : ∃ wq : World, wq = wr := ⟨_, rfl⟩
              have f1 : wq.cell? ⟨b', o + n * 3, none⟩ = some (.slice (some ⟨lb, lo, none⟩) pn pc) := KEEP.out _ _ _ _ (U24.out.trans hv.out (by simp)) C0.out
              have f0 := HYC.out j y HYJ.out wq hv.out
              by_cases hkl : k < pn
              · obtain ⟨z, hz⟩ : ∃ z, p.lens[k]? = some z := ⟨_, List.getElem?_eq_getElem (by have := HPN2.out; omega)⟩
                have f2 := KEEP.out _ _ _ _ (U24.out.trans hv.out (by simp)) (HLC.out k z hz)
                have HZ := hide hz
                obtain ⟨hz1, hz2⟩ := len_ok HOK.out (List.mem_of_getElem? hz)
                have hki : (k : Int) < pn := by omega
                have hw : IntKind.i64.wrap (y - z) = y - z := Go.IntWalk.i64_in _ (by omega)
                clear hz
                cases F with
                | true =>
                  go_wp2_with fail
                  refine wp_region_held_drew (S := (fun w' => w'.cell? ⟨Bb, Bo + j, none⟩ = some (.int .i64 y) ∧ w'.cell? ⟨b', o + n * 3, none⟩ = some (.slice (some ⟨lb, lo, none⟩) pn pc) ∧ w'.cell? ⟨lb, lo + k, none⟩ = some (.int .i64 z) ∧ Upd [] w4 w')) (by kernel_rfl) (by exact ⟨f0, f1, f2, hv.out.drew⟩) (fun hHeld => ?_)
                  refine wpAnyH_take (i := 0) (oi := ?oi0B) (v := ?v0B) ?oi0_0B (by kernel_rfl) ?ff0B ?rr0B ?hq0B (Or.inl ⟨?hw0B, ?hy0B⟩) (by assumption) ?rest0B
                  case oi0_0B =>
                    conv =>
                      lhs
                      whnf
                      arg 1
                      whnf
                  case hq0B => exact fun _ _ _ h => h
                  case ff0B => kernel_rfl
                  case rr0B => kernel_rfl
                  case hw0B => rfl
                  case hy0B =>
                    intro w hSw
                    (try dsimp only at hSw)
                    first
                    | (go_simp; done)
                    | (go_simp; with_reducible rfl)
                  try simp only [Act.put, List.setIfInBounds_toArray, List.set_cons_zero, List.set_cons_succ]
                  refine wpAnyH_take (i := 1) (oi := ?oi1B) (v := ?v1B) ?oi0_1B (by kernel_rfl) ?ff1B ?rr1B ?hq1B (Or.inl ⟨?hw1B, ?hy1B⟩) (by assumption) ?rest1B
                  case oi0_1B =>
                    conv =>
                      lhs
                      whnf
                      arg 1
                      whnf
                  case hq1B => exact fun _ _ _ h => h
                  case ff1B => kernel_rfl
                  case rr1B => kernel_rfl
                  case hw1B => rfl
                  case hy1B =>
                    intro w hSw
                    (try dsimp only at hSw)
                    first
                    | (go_simp; done)
                    | (go_simp; with_reducible rfl)
                  try simp only [Act.put, List.setIfInBounds_toArray, List.set_cons_zero, List.set_cons_succ]
                  refine wpAnyH_take (i := 2) (oi := ?oi2B) (v := undef) ?oi0_2B (by kernel_rfl) ?ff2B ?rr2B ?hq2B (Or.inr ⟨?hw2B, rfl⟩) (by assumption) ?rest2B
                  case oi0_2B =>
                    conv =>
                      lhs
                      whnf
                      arg 1
                      whnf
                  case hq2B => exact fun _ _ _ h => h
                  case ff2B => kernel_rfl
                  case rr2B => kernel_rfl
                  case hw2B => rfl
                  try simp only [Act.put, List.setIfInBounds_toArray, List.set_cons_zero, List.set_cons_succ]
                  refine wpAnyH_take (i := 3) (oi := ?oi3B) (v := undef) ?oi0_3B (by kernel_rfl) ?ff3B ?rr3B ?hq3B (Or.inr ⟨?hw3B, rfl⟩) (by assumption) ?rest3B
                  case oi0_3B =>
                    conv =>
                      lhs
                      whnf
                      arg 1
                      whnf
                  case hq3B => exact fun _ _ _ h => h
                  case ff3B => kernel_rfl
                  case rr3B => kernel_rfl
                  case hw3B => rfl
                  try simp only [Act.put, List.setIfInBounds_toArray, List.set_cons_zero, List.set_cons_succ]
                  refine wpAnyH_take (i := 4) (oi := ?oi4B) (v := undef) ?oi0_4B (by kernel_rfl) ?ff4B ?rr4B ?hq4B (Or.inr ⟨?hw4B, rfl⟩) (by assumption) ?rest4B
                  case oi0_4B =>
                    conv =>
                      lhs
                      whnf
                      arg 1
                      whnf
                  case hq4B => exact fun _ _ _ h => h
                  case ff4B => kernel_rfl
                  case rr4B => kernel_rfl
                  case hw4B => rfl
                  try simp only [Act.put, List.setIfInBounds_toArray, List.set_cons_zero, List.set_cons_succ]
                  refine wpAnyH_take (i := 5) (oi := ?oi5B) (v := undef) ?oi0_5B (by kernel_rfl) ?ff5B ?rr5B ?hq5B (Or.inr ⟨?hw5B, rfl⟩) (by assumption) ?rest5B
                  case oi0_5B =>
                    conv =>
                      lhs
                      whnf
                      arg 1
                      whnf
                  case hq5B => exact fun _ _ _ h => h
                  case ff5B => kernel_rfl
                  case rr5B => kernel_rfl
                  case hw5B => rfl
                  try simp only [Act.put, List.setIfInBounds_toArray, List.set_cons_zero, List.set_cons_succ]
                  refine wpAnyH_take (i := 6) (oi := ?oi6B) (v := undef) ?oi0_6B (by kernel_rfl) ?ff6B ?rr6B ?hq6B (Or.inr ⟨?hw6B, rfl⟩) (by assumption) ?rest6B
                  case oi0_6B =>
                    conv =>
                      lhs
                      whnf
                      arg 1
                      whnf
                  case hq6B => exact fun _ _ _ h => h
                  case ff6B => kernel_rfl
                  case rr6B => kernel_rfl
                  case hw6B => rfl
                  try simp only [Act.put, List.setIfInBounds_toArray, List.set_cons_zero, List.set_cons_succ]
                  refine wpAnyH_take (i := 7) (oi := ?oi7B) (v := undef) ?oi0_7B (by kernel_rfl) ?ff7B ?rr7B ?hq7B (Or.inr ⟨?hw7B, rfl⟩) (by assumption) ?rest7B
                  case oi0_7B =>
                    conv =>
                      lhs
                      whnf
                      arg 1
                      whnf
                  case hq7B => exact fun _ _ _ h => h
                  case ff7B => kernel_rfl
                  case rr7B => kernel_rfl
                  case hw7B => rfl
                  try simp only [Act.put, List.setIfInBounds_toArray, List.set_cons_zero, List.set_cons_succ]
                  refine wpAnyH_take (i := 8) (oi := ?oi8B) (v := undef) ?oi0_8B (by kernel_rfl) ?ff8B ?rr8B ?hq8B (Or.inr ⟨?hw8B, rfl⟩) (by assumption) ?rest8B
                  case oi0_8B =>
                    conv =>
                      lhs
                      whnf
                      arg 1
                      whnf
                  case hq8B => exact fun _ _ _ h => h
                  case ff8B => kernel_rfl
                  case rr8B => kernel_rfl
                  case hw8B => rfl
                  try simp only [Act.put, List.setIfInBounds_toArray, List.set_cons_zero, List.set_cons_succ]
                  refine wpAnyH_take (i := 9) (oi := ?oi9B) (v := undef) ?oi0_9B (by kernel_rfl) ?ff9B ?rr9B ?hq9B (Or.inr ⟨?hw9B, rfl⟩) (by assumption) ?rest9B
                  case oi0_9B =>
                    conv =>
                      lhs
                      whnf
                      arg 1
                      whnf
                  case hq9B => exact fun _ _ _ h => h
                  case ff9B => kernel_rfl
                  case rr9B => kernel_rfl
                  case hw9B => rfl
                  try simp only [Act.put, List.setIfInBounds_toArray, List.set_cons_zero, List.set_cons_succ]
                  refine wpAnyH_take (i := 10) (oi := ?oi10B) (v := undef) ?oi0_10B (by kernel_rfl) ?ff10B ?rr10B ?hq10B (Or.inr ⟨?hw10B, rfl⟩) (by assumption) ?rest10B
                  case oi0_10B =>
                    conv =>
                      lhs
                      whnf
                      arg 1
                      whnf
                  case hq10B => exact fun _ _ _ h => h
                  case ff10B => kernel_rfl
                  case rr10B => kernel_rfl
                  case hw10B => rfl
                  try simp only [Act.put, List.setIfInBounds_toArray, List.set_cons_zero, List.set_cons_succ]
                  refine wpAnyH_take (i := 11) (oi := ?oi11B) (v := undef) ?oi0_11B (by kernel_rfl) ?ff11B ?rr11B ?hq11B (Or.inr ⟨?hw11B, rfl⟩) (by assumption) ?rest11B
                  case oi0_11B =>
                    conv =>
                      lhs
                      whnf
                      arg 1
                      whnf
                  case hq11B => exact fun _ _ _ h => h
                  case ff11B => kernel_rfl
                  case rr11B => kernel_rfl
                  case hw11B => rfl
                  try simp only [Act.put, List.setIfInBounds_toArray, List.set_cons_zero, List.set_cons_succ]
                  refine wpAnyH_take (i := 12) (oi := ?oi12B) (v := undef) ?oi0_12B (by kernel_rfl) ?ff12B ?rr12B ?hq12B (Or.inr ⟨?hw12B, rfl⟩) (by assumption) ?rest12B
                  case oi0_12B =>
                    conv =>
                      lhs
                      whnf
                      arg 1
                      whnf
                  case hq12B => exact fun _ _ _ h => h
                  case ff12B => kernel_rfl
                  case rr12B => kernel_rfl
                  case hw12B => rfl
                  try simp only [Act.put, List.setIfInBounds_toArray, List.set_cons_zero, List.set_cons_succ]
                  refine wpAnyH_take (i := 13) (oi := ?oi13B) (v := undef) ?oi0_13B (by kernel_rfl) ?ff13B ?rr13B ?hq13B (Or.inr ⟨?hw13B, rfl⟩) (by assumption) ?rest13B
                  case oi0_13B =>
                    conv =>
                      lhs
                      whnf
                      arg 1
                      whnf
                  case hq13B => exact fun _ _ _ h => h
                  case ff13B => kernel_rfl
                  case rr13B => kernel_rfl
                  case hw13B => rfl
                  try simp only [Act.put, List.setIfInBounds_toArray, List.set_cons_zero, List.set_cons_succ]
                  refine wpAnyH_take (i := 14) (oi := ?oi14B) (v := undef) ?oi0_14B (by kernel_rfl) ?ff14B ?rr14B ?hq14B (Or.inr ⟨?hw14B, rfl⟩) (by assumption) ?rest14B
                  case oi0_14B =>
                    conv =>
                      lhs
                      whnf
                      arg 1
                      whnf
                  case hq14B => exact fun _ _ _ h => h
                  case ff14B => kernel_rfl
                  case rr14B => kernel_rfl
                  case hw14B => rfl
                  try simp only [Act.put, List.setIfInBounds_toArray, List.set_cons_zero, List.set_cons_succ]
                  refine wpAnyH_take (i := 15) (oi := ?oi15B) (v := undef) ?oi0_15B (by kernel_rfl) ?ff15B ?rr15B ?hq15B (Or.inr ⟨?hw15B, rfl⟩) (by assumption) ?rest15B
                  case oi0_15B =>
                    conv =>
                      lhs
                      whnf
                      arg 1
                      whnf
                  case hq15B => exact fun _ _ _ h => h
                  case ff15B => kernel_rfl
                  case rr15B => kernel_rfl
                  case hw15B => rfl
                  try simp only [Act.put, List.setIfInBounds_toArray, List.set_cons_zero, List.set_cons_succ]
                  refine wpAnyH_ready (rs := [16]) (by kernel_rfl) (by simp) (AllReadyH.cons (o := ?oi16B) ?oi0_16B (fun K hK => ?_) AllReadyH.nil)
                  case oi0_16B =>
                    conv =>
                      lhs
                      whnf
                      arg 1
                      whnf
                  rw [if_neg (by simp [Region.wanted, yielded])]
                  refine hK.out _ _ (by assumption) (fun _ => ?_)
                  clear hK K
                  try simp only [Act.put, List.setIfInBounds_toArray, List.set_cons_zero, List.set_cons_succ]
                  refine wpAnyH_take (i := 17) (oi := ?oi17B) (v := ?v17B) ?oi0_17B (by kernel_rfl) ?ff17B ?rr17B ?hq17B (Or.inl ⟨?hw17B, ?hy17B⟩) (by assumption) ?rest17B
                  case oi0_17B =>
                    conv =>
                      lhs
                      whnf
                      arg 1
                      whnf
                  case hq17B => exact fun _ _ _ h => h
                  case ff17B => kernel_rfl
                  case rr17B => kernel_rfl
                  case hw17B => rfl
                  case hy17B =>
                    intro w hSw
                    (try dsimp only at hSw)
                    first
                    | (go_simp; done)
                    | (go_simp; with_reducible rfl)
                  try simp only [Act.put, List.setIfInBounds_toArray, List.set_cons_zero, List.set_cons_succ]
                  refine wpAnyH_take (i := 18) (oi := ?oi18B) (v := ?v18B) ?oi0_18B (by kernel_rfl) ?ff18B ?rr18B ?hq18B (Or.inl ⟨?hw18B, ?hy18B⟩) (by assumption) ?rest18B
                  case oi0_18B =>
                    conv =>
                      lhs
                      whnf
                      arg 1
                      whnf
                  case hq18B => exact fun _ _ _ h => h
                  case ff18B => kernel_rfl
                  case rr18B => kernel_rfl
                  case hw18B => rfl
                  case hy18B =>
                    intro w hSw
                    (try dsimp only at hSw)
                    first
                    | (go_simp; done)
                    | (go_simp; with_reducible rfl)
                  try simp only [Act.put, List.setIfInBounds_toArray, List.set_cons_zero, List.set_cons_succ]
                  refine wpAnyH_done (by kernel_rfl) ?_ _
                  go_wp2_with fail
                  go_roundw
                  case rel => exact ⟨k + 1, true, by omega, rfl, by go_num, Or.inl rfl, hv.out.drew⟩
                  case measure => simp [intOf] <;> omega
                | false =>
                  go_wp2_with fail
                  refine wp_region_held_drew (S := (fun w' => w'.cell? ⟨Bb, Bo + j, none⟩ = some (.int .i64 y) ∧ w'.cell? ⟨b', o + n * 3, none⟩ = some (.slice (some ⟨lb, lo, none⟩) pn pc) ∧ w'.cell? ⟨lb, lo + k, none⟩ = some (.int .i64 z) ∧ Upd [] w4 w')) (by kernel_rfl) (by exact ⟨f0, f1, f2, hv.out.drew⟩) (fun hHeld => ?_)
                  refine wpAnyH_take (i := 0) (oi := ?oi0C) (v := ?v0C) ?oi0_0C (by kernel_rfl) ?ff0C ?rr0C ?hq0C (Or.inl ⟨?hw0C, ?hy0C⟩) (by assumption) ?rest0C
                  case oi0_0C =>
                    conv =>
                      lhs
                      whnf
                      arg 1
                      whnf
                  case hq0C => exact fun _ _ _ h => h
                  case ff0C => kernel_rfl
                  case rr0C => kernel_rfl
                  case hw0C => rfl
                  case hy0C =>
                    intro w hSw
                    (try dsimp only at hSw)
                    first
                    | (go_simp; done)
                    | (go_simp; with_reducible rfl)
                  try simp only [Act.put, List.setIfInBounds_toArray, List.set_cons_zero, List.set_cons_succ]
                  refine wpAnyH_take (i := 1) (oi := ?oi1C) (v := ?v1C) ?oi0_1C (by kernel_rfl) ?ff1C ?rr1C ?hq1C (Or.inl ⟨?hw1C, ?hy1C⟩) (by assumption) ?rest1C
                  case oi0_1C =>
                    conv =>
                      lhs
                      whnf
                      arg 1
                      whnf
                  case hq1C => exact fun _ _ _ h => h
                  case ff1C => kernel_rfl
                  case rr1C => kernel_rfl
                  case hw1C => rfl
                  case hy1C =>
                    intro w hSw
                    (try dsimp only at hSw)
                    first
                    | (go_simp; done)
                    | (go_simp; with_reducible rfl)
                  try simp only [Act.put, List.setIfInBounds_toArray, List.set_cons_zero, List.set_cons_succ]
                  refine wpAnyH_take (i := 2) (oi := ?oi2C) (v := ?v2C) ?oi0_2C (by kernel_rfl) ?ff2C ?rr2C ?hq2C (Or.inl ⟨?hw2C, ?hy2C⟩) (by assumption) ?rest2C
                  case oi0_2C =>
                    conv =>
                      lhs
                      whnf
                      arg 1
                      whnf
                  case hq2C => exact fun _ _ _ h => h
                  case ff2C => kernel_rfl
                  case rr2C => kernel_rfl
                  case hw2C => rfl
                  case hy2C =>
                    intro w hSw
                    (try dsimp only at hSw)
                    first
                    | (go_simp; done)
                    | (go_simp; with_reducible rfl)
                  try simp only [Act.put, List.setIfInBounds_toArray, List.set_cons_zero, List.set_cons_succ]
                  refine wpAnyH_take (i := 3) (oi := ?oi3C) (v := ?v3C) ?oi0_3C (by kernel_rfl) ?ff3C ?rr3C ?hq3C (Or.inl ⟨?hw3C, ?hy3C⟩) (by assumption) ?rest3C
                  case oi0_3C =>
                    conv =>
                      lhs
                      whnf
                      arg 1
                      whnf
                  case hq3C => exact fun _ _ _ h => h
                  case ff3C => kernel_rfl
                  case rr3C => kernel_rfl
                  case hw3C => rfl
                  case hy3C =>
                    intro w hSw
                    (try dsimp only at hSw)
                    first
                    | (go_simp; done)
                    | (go_simp; with_reducible rfl)
                  try simp only [Act.put, List.setIfInBounds_toArray, List.set_cons_zero, List.set_cons_succ]
                  refine wpAnyH_take (i := 4) (oi := ?oi4C) (v := ?v4C) ?oi0_4C (by kernel_rfl) ?ff4C ?rr4C ?hq4C (Or.inl ⟨?hw4C, ?hy4C⟩) (by assumption) ?rest4C
                  case oi0_4C =>
                    conv =>
                      lhs
                      whnf
                      arg 1
                      whnf
                  case hq4C => exact fun _ _ _ h => h
                  case ff4C => kernel_rfl
                  case rr4C => kernel_rfl
                  case hw4C => rfl
                  case hy4C =>
                    intro w hSw
                    (try dsimp only at hSw)
                    first
                    | (go_simp; done)
                    | (go_simp; with_reducible rfl)
                  try simp only [Act.put, List.setIfInBounds_toArray, List.set_cons_zero, List.set_cons_succ]
                  refine wpAnyH_take (i := 5) (oi := ?oi5C) (v := ?v5C) ?oi0_5C (by kernel_rfl) ?ff5C ?rr5C ?hq5C (Or.inl ⟨?hw5C, ?hy5C⟩) (by assumption) ?rest5C
                  case oi0_5C =>
                    conv =>
                      lhs
                      whnf
                      arg 1
                      whnf
                  case hq5C => exact fun _ _ _ h => h
                  case ff5C => kernel_rfl
                  case rr5C => kernel_rfl
                  case hw5C => rfl
                  case hy5C =>
                    intro w hSw
                    (try dsimp only at hSw)
                    first
                    | (go_simp; done)
                    | (go_simp; with_reducible rfl)
                  try simp only [Act.put, List.setIfInBounds_toArray, List.set_cons_zero, List.set_cons_succ]
                  refine wpAnyH_take (i := 6) (oi := ?oi6C) (v := ?v6C) ?oi0_6C (by kernel_rfl) ?ff6C ?rr6C ?hq6C (Or.inl ⟨?hw6C, ?hy6C⟩) (by assumption) ?rest6C
                  case oi0_6C =>
                    conv =>
                      lhs
                      whnf
                      arg 1
                      whnf
                  case hq6C => exact fun _ _ _ h => h
                  case ff6C => kernel_rfl
                  case rr6C => kernel_rfl
                  case hw6C => rfl
                  case hy6C =>
                    intro w hSw
                    (try dsimp only at hSw)
                    first
                    | (go_simp; done)
                    | (go_simp; with_reducible rfl)
                  try simp only [Act.put, List.setIfInBounds_toArray, List.set_cons_zero, List.set_cons_succ]
                  refine wpAnyH_take (i := 7) (oi := ?oi7C) (v := ?v7C) ?oi0_7C (by kernel_rfl) ?ff7C ?rr7C ?hq7C (Or.inl ⟨?hw7C, ?hy7C⟩) (by assumption) ?rest7C
                  case oi0_7C =>
                    conv =>
                      lhs
                      whnf
                      arg 1
                      whnf
                  case hq7C => exact fun _ _ _ h => h
                  case ff7C => kernel_rfl
                  case rr7C => kernel_rfl
                  case hw7C => rfl
                  case hy7C =>
                    intro w hSw
                    (try dsimp only at hSw)
                    first
                    | (go_simp; done)
                    | (go_simp; with_reducible rfl)
                  try simp only [Act.put, List.setIfInBounds_toArray, List.set_cons_zero, List.set_cons_succ]
                  refine wpAnyH_take (i := 8) (oi := ?oi8C) (v := ?v8C) ?oi0_8C (by kernel_rfl) ?ff8C ?rr8C ?hq8C (Or.inl ⟨?hw8C, ?hy8C⟩) (by assumption) ?rest8C
                  case oi0_8C =>
                    conv =>
                      lhs
                      whnf
                      arg 1
                      whnf
                  case hq8C => exact fun _ _ _ h => h
                  case ff8C => kernel_rfl
                  case rr8C => kernel_rfl
                  case hw8C => rfl
                  case hy8C =>
                    intro w hSw
                    (try dsimp only at hSw)
                    first
                    | (go_simp; done)
                    | (go_simp; with_reducible rfl)
                  try simp only [Act.put, List.setIfInBounds_toArray, List.set_cons_zero, List.set_cons_succ]
                  refine wpAnyH_take (i := 9) (oi := ?oi9C) (v := ?v9C) ?oi0_9C (by kernel_rfl) ?ff9C ?rr9C ?hq9C (Or.inl ⟨?hw9C, ?hy9C⟩) (by assumption) ?rest9C
                  case oi0_9C =>
                    conv =>
                      lhs
                      whnf
                      arg 1
                      whnf
                  case hq9C => exact fun _ _ _ h => h
                  case ff9C => kernel_rfl
                  case rr9C => kernel_rfl
                  case hw9C => rfl
                  case hy9C =>
                    intro w hSw
                    (try dsimp only at hSw)
                    first
                    | (go_simp; done)
                    | (go_simp; with_reducible rfl)
                  try simp only [Act.put, List.setIfInBounds_toArray, List.set_cons_zero, List.set_cons_succ]
                  refine wpAnyH_take (i := 10) (oi := ?oi10C) (v := ?v10C) ?oi0_10C (by kernel_rfl) ?ff10C ?rr10C ?hq10C (Or.inl ⟨?hw10C, ?hy10C⟩) (by assumption) ?rest10C
                  case oi0_10C =>
                    conv =>
                      lhs
                      whnf
                      arg 1
                      whnf
                  case hq10C => exact fun _ _ _ h => h
                  case ff10C => kernel_rfl
                  case rr10C => kernel_rfl
                  case hw10C => rfl
                  case hy10C =>
                    intro w hSw
                    (try dsimp only at hSw)
                    first
                    | (go_simp; done)
                    | (go_simp; with_reducible rfl)
                  try simp only [Act.put, List.setIfInBounds_toArray, List.set_cons_zero, List.set_cons_succ]
                  refine wpAnyH_take (i := 11) (oi := ?oi11C) (v := ?v11C) ?oi0_11C (by kernel_rfl) ?ff11C ?rr11C ?hq11C (Or.inl ⟨?hw11C, ?hy11C⟩) (by assumption) ?rest11C
                  case oi0_11C =>
                    conv =>
                      lhs
                      whnf
                      arg 1
                      whnf
                  case hq11C => exact fun _ _ _ h => h
                  case ff11C => kernel_rfl
                  case rr11C => kernel_rfl
                  case hw11C => rfl
                  case hy11C =>
                    intro w hSw
                    (try dsimp only at hSw)
                    first
                    | (go_simp; done)
                    | (go_simp; with_reducible rfl)
                  try simp only [Act.put, List.setIfInBounds_toArray, List.set_cons_zero, List.set_cons_succ]
                  refine wpAnyH_take (i := 12) (oi := ?oi12C) (v := ?v12C) ?oi0_12C (by kernel_rfl) ?ff12C ?rr12C ?hq12C (Or.inl ⟨?hw12C, ?hy12C⟩) (by assumption) ?rest12C
                  case oi0_12C =>
                    conv =>
                      lhs
                      whnf
                      arg 1
                      whnf
                  case hq12C => exact fun _ _ _ h => h
                  case ff12C => kernel_rfl
                  case rr12C => kernel_rfl
                  case hw12C => rfl
                  case hy12C =>
                    intro w hSw
                    (try dsimp only at hSw)
                    first
                    | (go_simp; done)
                    | (go_simp; with_reducible rfl)
                  try simp only [Act.put, List.setIfInBounds_toArray, List.set_cons_zero, List.set_cons_succ]
                  refine wpAnyH_take (i := 13) (oi := ?oi13C) (v := ?v13C) ?oi0_13C (by kernel_rfl) ?ff13C ?rr13C ?hq13C (Or.inl ⟨?hw13C, ?hy13C⟩) (by assumption) ?rest13C
                  case oi0_13C =>
                    conv =>
                      lhs
                      whnf
                      arg 1
                      whnf
                  case hq13C => exact fun _ _ _ h => h
                  case ff13C => kernel_rfl
                  case rr13C => kernel_rfl
                  case hw13C => rfl
                  case hy13C =>
                    intro w hSw
                    (try dsimp only at hSw)
                    first
                    | (go_simp; done)
                    | (go_simp; with_reducible rfl)
                  try simp only [Act.put, List.setIfInBounds_toArray, List.set_cons_zero, List.set_cons_succ]
                  refine wpAnyH_take (i := 14) (oi := ?oi14C) (v := ?v14C) ?oi0_14C (by kernel_rfl) ?ff14C ?rr14C ?hq14C (Or.inl ⟨?hw14C, ?hy14C⟩) (by assumption) ?rest14C
                  case oi0_14C =>
                    conv =>
                      lhs
                      whnf
                      arg 1
                      whnf
                  case hq14C => exact fun _ _ _ h => h
                  case ff14C => kernel_rfl
                  case rr14C => kernel_rfl
                  case hw14C => rfl
                  case hy14C =>
                    intro w hSw
                    (try dsimp only at hSw)
                    first
                    | (go_simp; done)
                    | (go_simp; with_reducible rfl)
                  try simp only [Act.put, List.setIfInBounds_toArray, List.set_cons_zero, List.set_cons_succ]
                  refine wpAnyH_take (i := 15) (oi := ?oi15C) (v := ?v15C) ?oi0_15C (by kernel_rfl) ?ff15C ?rr15C ?hq15C (Or.inl ⟨?hw15C, ?hy15C⟩) (by assumption) ?rest15C
                  case oi0_15C =>
                    conv =>
                      lhs
                      whnf
                      arg 1
                      whnf
                  case hq15C => exact fun _ _ _ h => h
                  case ff15C => kernel_rfl
                  case rr15C => kernel_rfl
                  case hw15C => rfl
                  case hy15C =>
                    intro w hSw
                    (try dsimp only at hSw)
                    first
                    | (go_simp; done)
                    | (go_simp; with_reducible rfl)
                  try simp only [Act.put, List.setIfInBounds_toArray, List.set_cons_zero, List.set_cons_succ]
                  refine wpAnyH_ready (rs := [16]) (by kernel_rfl) (by simp) (AllReadyH.cons (o := ?oi16C) ?oi0_16C (fun K hK => ?_) AllReadyH.nil)
                  case oi0_16C =>
                    conv =>
                      lhs
                      whnf
                      arg 1
                      whnf
                  go_simp
                  obtain ⟨g0, g1, g2, g3⟩ := hHeld
                  refine (HASA.out _ g3 (y - z)).mono ?_
                  rintro e w' ⟨rfl, rfl⟩
                  (try dsimp only)
                  refine hK.out _ _ (by exact ⟨g0, g1, g2, g3⟩) (fun hHeld => ?_)
                  clear hK K
                  try simp only [Act.put, List.setIfInBounds_toArray, List.set_cons_zero, List.set_cons_succ]
                  refine wpAnyH_take (i := 17) (oi := ?oi17C) (v := ?v17C) ?oi0_17C (by kernel_rfl) ?ff17C ?rr17C ?hq17C (Or.inl ⟨?hw17C, ?hy17C⟩) (by assumption) ?rest17C
                  case oi0_17C =>
                    conv =>
                      lhs
                      whnf
                      arg 1
                      whnf
                  case hq17C => exact fun _ _ _ h => h
                  case ff17C => kernel_rfl
                  case rr17C => kernel_rfl
                  case hw17C => rfl
                  case hy17C =>
                    intro w hSw
                    (try dsimp only at hSw)
                    first
                    | (go_simp; done)
                    | (go_simp; with_reducible rfl)
                  try simp only [Act.put, List.setIfInBounds_toArray, List.set_cons_zero, List.set_cons_succ]
                  refine wpAnyH_take (i := 18) (oi := ?oi18C) (v := ?v18C) ?oi0_18C (by kernel_rfl) ?ff18C ?rr18C ?hq18C (Or.inl ⟨?hw18C, ?hy18C⟩) (by assumption) ?rest18C
                  case oi0_18C =>
                    conv =>
                      lhs
                      whnf
                      arg 1
                      whnf
                  case hq18C => exact fun _ _ _ h => h
                  case ff18C => kernel_rfl
                  case rr18C => kernel_rfl
                  case hw18C => rfl
                  case hy18C =>
                    intro w hSw
                    (try dsimp only at hSw)
                    first
                    | (go_simp; done)
                    | (go_simp; with_reducible rfl)
                  try simp only [Act.put, List.setIfInBounds_toArray, List.set_cons_zero, List.set_cons_succ]
                  refine wpAnyH_done (by kernel_rfl) ?_ _
                  go_wp2_with fail
                  go_roundw
                  case rel =>
                    refine ⟨k + 1, decide (y - z ∈ as_), by omega, rfl, by go_num, ?_, hv.out.drew⟩
                    by_cases hm : y - z ∈ as_
                    · exact Or.inl (decide_eq_true hm)
                    · refine Or.inr fun j' hj' z' hz' => ?_
                      rcases hF.out with h | h
                      · exact absurd h (by decide)
                      · rcases Nat.lt_succ_iff_lt_or_eq.1 hj' with h2 | rfl
                        · exact h j' h2 z' hz'
                        · have := HZ.out
                          rw [this] at hz'
                          obtain rfl : z = z' := by simpa using hz'
                          exact hm
                  case measure => simp [intOf] <;> omega
              · have hki : ¬ (k : Int) < pn := by omega
                have hFt : F = true := by
                  rcases hF.out with h | h
                  · exact h
                  · obtain ⟨⟨z, hz, hm⟩, _⟩ := HBACK.out y HY.out
                    obtain ⟨j', hj', he⟩ := List.mem_iff_getElem.1 hz
                    exact absurd hm (h j' (by have := HPN2.out; omega) z (by rw [List.getElem?_eq_getElem hj', he]))
                subst hFt
                have hjy := (HBACK.out y HY.out).2
                clear hF
                by_cases hjp : jn < 0
                · have hjd : decide (0 ≤ jn) = false := decide_eq_false (by omega)
                  clear hjy
                  rcases Nat.eq_zero_or_pos j with hj0 | hj0
                  · subst hj0
                    go_wp2_with fail
                    refine wp_region_held_drew (S := (fun w' => w'.cell? ⟨Bb, Bo, none⟩ = some (.int .i64 y))) (by kernel_rfl) (by exact f0) (fun hHeld => ?_)
                    refine wpAnyH_take (i := 0) (oi := ?oi0D) (v := ?v0D) ?oi0_0D (by kernel_rfl) ?ff0D ?rr0D ?hq0D (Or.inl ⟨?hw0D, ?hy0D⟩) (by assumption) ?rest0D
                    case oi0_0D =>
                      conv =>
                        lhs
                        whnf
                        arg 1
                        whnf
                    case hq0D => exact fun _ _ _ h => h
                    case ff0D => kernel_rfl
                    case rr0D => kernel_rfl
                    case hw0D => rfl
                    case hy0D =>
                      intro w hSw
                      (try dsimp only at hSw)
                      first
                      | (go_simp; done)
                      | (go_simp; with_reducible rfl)
                    try simp only [Act.put, List.setIfInBounds_toArray, List.set_cons_zero, List.set_cons_succ]
                    refine wpAnyH_take (i := 1) (oi := ?oi1D) (v := ?v1D) ?oi0_1D (by kernel_rfl) ?ff1D ?rr1D ?hq1D (Or.inl ⟨?hw1D, ?hy1D⟩) (by assumption) ?rest1D
                    case oi0_1D =>
                      conv =>
                        lhs
                        whnf
                        arg 1
                        whnf
                    case hq1D => exact fun _ _ _ h => h
                    case ff1D => kernel_rfl
                    case rr1D => kernel_rfl
                    case hw1D => rfl
                    case hy1D =>
                      intro w hSw
                      (try dsimp only at hSw)
                      first
                      | (go_simp; done)
                      | (go_simp; with_reducible rfl)
                    try simp only [Act.put, List.setIfInBounds_toArray, List.set_cons_zero, List.set_cons_succ]
                    refine wpAnyH_take (i := 2) (oi := ?oi2D) (v := ?v2D) ?oi0_2D (by kernel_rfl) ?ff2D ?rr2D ?hq2D (Or.inl ⟨?hw2D, ?hy2D⟩) (by assumption) ?rest2D
                    case oi0_2D =>
                      conv =>
                        lhs
                        whnf
                        arg 1
                        whnf
                    case hq2D => exact fun _ _ _ h => h
                    case ff2D => kernel_rfl
                    case rr2D => kernel_rfl
                    case hw2D => rfl
                    case hy2D =>
                      intro w hSw
                      (try dsimp only at hSw)
                      first
                      | (go_simp; done)
                      | (go_simp; with_reducible rfl)
                    try simp only [Act.put, List.setIfInBounds_toArray, List.set_cons_zero, List.set_cons_succ]
                    refine wpAnyH_take (i := 3) (oi := ?oi3D) (v := ?v3D) ?oi0_3D (by kernel_rfl) ?ff3D ?rr3D ?hq3D (Or.inl ⟨?hw3D, ?hy3D⟩) (by assumption) ?rest3D
                    case oi0_3D =>
                      conv =>
                        lhs
                        whnf
                        arg 1
                        whnf
                    case hq3D => exact fun _ _ _ h => h
                    case ff3D => kernel_rfl
                    case rr3D => kernel_rfl
                    case hw3D => rfl
                    case hy3D =>
                      intro w hSw
                      (try dsimp only at hSw)
                      first
                      | (go_simp; done)
                      | (go_simp; with_reducible rfl)
                    try simp only [Act.put, List.setIfInBounds_toArray, List.set_cons_zero, List.set_cons_succ]
                    refine wpAnyH_take (i := 4) (oi := ?oi4D) (v := ?v4D) ?oi0_4D (by kernel_rfl) ?ff4D ?rr4D ?hq4D (Or.inl ⟨?hw4D, ?hy4D⟩) (by assumption) ?rest4D
                    case oi0_4D =>
                      conv =>
                        lhs
                        whnf
                        arg 1
                        whnf
                    case hq4D => exact fun _ _ _ h => h
                    case ff4D => kernel_rfl
                    case rr4D => kernel_rfl
                    case hw4D => rfl
                    case hy4D =>
                      intro w hSw
                      (try dsimp only at hSw)
                      first
                      | (go_simp; done)
                      | (go_simp; with_reducible rfl)
                    try simp only [Act.put, List.setIfInBounds_toArray, List.set_cons_zero, List.set_cons_succ]
                    refine wpAnyH_take (i := 5) (oi := ?oi5D) (v := ?v5D) ?oi0_5D (by kernel_rfl) ?ff5D ?rr5D ?hq5D (Or.inl ⟨?hw5D, ?hy5D⟩) (by assumption) ?rest5D
                    case oi0_5D =>
                      conv =>
                        lhs
                        whnf
                        arg 1
                        whnf
                    case hq5D => exact fun _ _ _ h => h
                    case ff5D => kernel_rfl
                    case rr5D => kernel_rfl
                    case hw5D => rfl
                    case hy5D =>
                      intro w hSw
                      (try dsimp only at hSw)
                      first
                      | (go_simp; done)
                      | (go_simp; with_reducible rfl)
                    try simp only [Act.put, List.setIfInBounds_toArray, List.set_cons_zero, List.set_cons_succ]
                    refine wpAnyH_take (i := 6) (oi := ?oi6D) (v := undef) ?oi0_6D (by kernel_rfl) ?ff6D ?rr6D ?hq6D (Or.inr ⟨?hw6D, rfl⟩) (by assumption) ?rest6D
                    case oi0_6D =>
                      conv =>
                        lhs
                        whnf
                        arg 1
                        whnf
                    case hq6D => exact fun _ _ _ h => h
                    case ff6D => kernel_rfl
                    case rr6D => kernel_rfl
                    case hw6D => rfl
                    try simp only [Act.put, List.setIfInBounds_toArray, List.set_cons_zero, List.set_cons_succ]
                    refine wpAnyH_take (i := 7) (oi := ?oi7D) (v := undef) ?oi0_7D (by kernel_rfl) ?ff7D ?rr7D ?hq7D (Or.inr ⟨?hw7D, rfl⟩) (by assumption) ?rest7D
                    case oi0_7D =>
                      conv =>
                        lhs
                        whnf
                        arg 1
                        whnf
                    case hq7D => exact fun _ _ _ h => h
                    case ff7D => kernel_rfl
                    case rr7D => kernel_rfl
                    case hw7D => rfl
                    try simp only [Act.put, List.setIfInBounds_toArray, List.set_cons_zero, List.set_cons_succ]
                    refine wpAnyH_take (i := 8) (oi := ?oi8D) (v := undef) ?oi0_8D (by kernel_rfl) ?ff8D ?rr8D ?hq8D (Or.inr ⟨?hw8D, rfl⟩) (by assumption) ?rest8D
                    case oi0_8D =>
                      conv =>
                        lhs
                        whnf
                        arg 1
                        whnf
                    case hq8D => exact fun _ _ _ h => h
                    case ff8D => kernel_rfl
                    case rr8D => kernel_rfl
                    case hw8D => rfl
                    try simp only [Act.put, List.setIfInBounds_toArray, List.set_cons_zero, List.set_cons_succ]
                    refine wpAnyH_take (i := 9) (oi := ?oi9D) (v := undef) ?oi0_9D (by kernel_rfl) ?ff9D ?rr9D ?hq9D (Or.inr ⟨?hw9D, rfl⟩) (by assumption) ?rest9D
                    case oi0_9D =>
                      conv =>
                        lhs
                        whnf
                        arg 1
                        whnf
                    case hq9D => exact fun _ _ _ h => h
                    case ff9D => kernel_rfl
                    case rr9D => kernel_rfl
                    case hw9D => rfl
                    try simp only [Act.put, List.setIfInBounds_toArray, List.set_cons_zero, List.set_cons_succ]
                    refine wpAnyH_take (i := 10) (oi := ?oi10D) (v := undef) ?oi0_10D (by kernel_rfl) ?ff10D ?rr10D ?hq10D (Or.inr ⟨?hw10D, rfl⟩) (by assumption) ?rest10D
                    case oi0_10D =>
                      conv =>
                        lhs
                        whnf
                        arg 1
                        whnf
                    case hq10D => exact fun _ _ _ h => h
                    case ff10D => kernel_rfl
                    case rr10D => kernel_rfl
                    case hw10D => rfl
                    try simp only [Act.put, List.setIfInBounds_toArray, List.set_cons_zero, List.set_cons_succ]
                    refine wpAnyH_take (i := 11) (oi := ?oi11D) (v := undef) ?oi0_11D (by kernel_rfl) ?ff11D ?rr11D ?hq11D (Or.inr ⟨?hw11D, rfl⟩) (by assumption) ?rest11D
                    case oi0_11D =>
                      conv =>
                        lhs
                        whnf
                        arg 1
                        whnf
                    case hq11D => exact fun _ _ _ h => h
                    case ff11D => kernel_rfl
                    case rr11D => kernel_rfl
                    case hw11D => rfl
                    try simp only [Act.put, List.setIfInBounds_toArray, List.set_cons_zero, List.set_cons_succ]
                    refine wpAnyH_take (i := 12) (oi := ?oi12D) (v := ?v12D) ?oi0_12D (by kernel_rfl) ?ff12D ?rr12D ?hq12D (Or.inl ⟨?hw12D, ?hy12D⟩) (by assumption) ?rest12D
                    case oi0_12D =>
                      conv =>
                        lhs
                        whnf
                        arg 1
                        whnf
                    case hq12D => exact fun _ _ _ h => h
                    case ff12D => kernel_rfl
                    case rr12D => kernel_rfl
                    case hw12D => rfl
                    case hy12D =>
                      intro w hSw
                      (try dsimp only at hSw)
                      first
                      | (go_simp; done)
                      | (go_simp; with_reducible rfl)
                    try simp only [Act.put, List.setIfInBounds_toArray, List.set_cons_zero, List.set_cons_succ]
                    refine wpAnyH_take (i := 13) (oi := ?oi13D) (v := ?v13D) ?oi0_13D (by kernel_rfl) ?ff13D ?rr13D ?hq13D (Or.inl ⟨?hw13D, ?hy13D⟩) (by assumption) ?rest13D
                    case oi0_13D =>
                      conv =>
                        lhs
                        whnf
                        arg 1
                        whnf
                    case hq13D => exact fun _ _ _ h => h
                    case ff13D => kernel_rfl
                    case rr13D => kernel_rfl
                    case hw13D => rfl
                    case hy13D =>
                      intro w hSw
                      (try dsimp only at hSw)
                      first
                      | (go_simp; done)
                      | (go_simp; with_reducible rfl)
                    try simp only [Act.put, List.setIfInBounds_toArray, List.set_cons_zero, List.set_cons_succ]
                    refine wpAnyH_take (i := 14) (oi := ?oi14D) (v := ?v14D) ?oi0_14D (by kernel_rfl) ?ff14D ?rr14D ?hq14D (Or.inl ⟨?hw14D, ?hy14D⟩) (by assumption) ?rest14D
                    case oi0_14D =>
                      conv =>
                        lhs
                        whnf
                        arg 1
                        whnf
                    case hq14D => exact fun _ _ _ h => h
                    case ff14D => kernel_rfl
                    case rr14D => kernel_rfl
                    case hw14D => rfl
                    case hy14D =>
                      intro w hSw
                      (try dsimp only at hSw)
                      first
                      | (go_simp; done)
                      | (go_simp; with_reducible rfl)
                    try simp only [Act.put, List.setIfInBounds_toArray, List.set_cons_zero, List.set_cons_succ]
                    refine wpAnyH_take (i := 15) (oi := ?oi15D) (v := ?v15D) ?oi0_15D (by kernel_rfl) ?ff15D ?rr15D ?hq15D (Or.inl ⟨?hw15D, ?hy15D⟩) (by assumption) ?rest15D
                    case oi0_15D =>
                      conv =>
                        lhs
                        whnf
                        arg 1
                        whnf
                    case hq15D => exact fun _ _ _ h => h
                    case ff15D => kernel_rfl
                    case rr15D => kernel_rfl
                    case hw15D => rfl
                    case hy15D =>
                      intro w hSw
                      (try dsimp only at hSw)
                      first
                      | (go_simp; done)
                      | (go_simp; with_reducible rfl)
                    try simp only [Act.put, List.setIfInBounds_toArray, List.set_cons_zero, List.set_cons_succ]
                    refine wpAnyH_take (i := 16) (oi := ?oi16D) (v := ?v16D) ?oi0_16D (by kernel_rfl) ?ff16D ?rr16D ?hq16D (Or.inl ⟨?hw16D, ?hy16D⟩) (by assumption) ?rest16D
                    case oi0_16D =>
                      conv =>
                        lhs
                        whnf
                        arg 1
                        whnf
                    case hq16D => exact fun _ _ _ h => h
                    case ff16D => kernel_rfl
                    case rr16D => kernel_rfl
                    case hw16D => rfl
                    case hy16D =>
                      intro w hSw
                      (try dsimp only at hSw)
                      first
                      | (go_simp; done)
                      | (go_simp; with_reducible rfl)
                    try simp only [Act.put, List.setIfInBounds_toArray, List.set_cons_zero, List.set_cons_succ]
                    refine wpAnyH_take (i := 17) (oi := ?oi17D) (v := ?v17D) ?oi0_17D (by kernel_rfl) ?ff17D ?rr17D ?hq17D (Or.inl ⟨?hw17D, ?hy17D⟩) (by assumption) ?rest17D
                    case oi0_17D =>
                      conv =>
                        lhs
                        whnf
                        arg 1
                        whnf
                    case hq17D => exact fun _ _ _ h => h
                    case ff17D => kernel_rfl
                    case rr17D => kernel_rfl
                    case hw17D => rfl
                    case hy17D =>
                      intro w hSw
                      (try dsimp only at hSw)
                      first
                      | (go_simp; done)
                      | (go_simp; with_reducible rfl)
                    try simp only [Act.put, List.setIfInBounds_toArray, List.set_cons_zero, List.set_cons_succ]
                    refine wpAnyH_take (i := 18) (oi := ?oi18D) (v := undef) ?oi0_18D (by kernel_rfl) ?ff18D ?rr18D ?hq18D (Or.inr ⟨?hw18D, rfl⟩) (by assumption) ?rest18D
                    case oi0_18D =>
                      conv =>
                        lhs
                        whnf
                        arg 1
                        whnf
                    case hq18D => exact fun _ _ _ h => h
                    case ff18D => kernel_rfl
                    case rr18D => kernel_rfl
                    case hw18D => rfl
                    try simp only [Act.put, List.setIfInBounds_toArray, List.set_cons_zero, List.set_cons_succ]
                    refine wpAnyH_take (i := 19) (oi := ?oi19D) (v := undef) ?oi0_19D (by kernel_rfl) ?ff19D ?rr19D ?hq19D (Or.inr ⟨?hw19D, rfl⟩) (by assumption) ?rest19D
                    case oi0_19D =>
                      conv =>
                        lhs
                        whnf
                        arg 1
                        whnf
                    case hq19D => exact fun _ _ _ h => h
                    case ff19D => kernel_rfl
                    case rr19D => kernel_rfl
                    case hw19D => rfl
                    try simp only [Act.put, List.setIfInBounds_toArray, List.set_cons_zero, List.set_cons_succ]
                    refine wpAnyH_take (i := 20) (oi := ?oi20D) (v := undef) ?oi0_20D (by kernel_rfl) ?ff20D ?rr20D ?hq20D (Or.inr ⟨?hw20D, rfl⟩) (by assumption) ?rest20D
                    case oi0_20D =>
                      conv =>
                        lhs
                        whnf
                        arg 1
                        whnf
                    case hq20D => exact fun _ _ _ h => h
                    case ff20D => kernel_rfl
                    case rr20D => kernel_rfl
                    case hw20D => rfl
                    try simp only [Act.put, List.setIfInBounds_toArray, List.set_cons_zero, List.set_cons_succ]
                    refine wpAnyH_take (i := 21) (oi := ?oi21D) (v := undef) ?oi0_21D (by kernel_rfl) ?ff21D ?rr21D ?hq21D (Or.inr ⟨?hw21D, rfl⟩) (by assumption) ?rest21D
                    case oi0_21D =>
                      conv =>
                        lhs
                        whnf
                        arg 1
                        whnf
                    case hq21D => exact fun _ _ _ h => h
                    case ff21D => kernel_rfl
                    case rr21D => kernel_rfl
                    case hw21D => rfl
                    try simp only [Act.put, List.setIfInBounds_toArray, List.set_cons_zero, List.set_cons_succ]
                    refine wpAnyH_take (i := 22) (oi := ?oi22D) (v := undef) ?oi0_22D (by kernel_rfl) ?ff22D ?rr22D ?hq22D (Or.inr ⟨?hw22D, rfl⟩) (by assumption) ?rest22D
                    case oi0_22D =>
                      conv =>
                        lhs
                        whnf
                        arg 1
                        whnf
                    case hq22D => exact fun _ _ _ h => h
                    case ff22D => kernel_rfl
                    case rr22D => kernel_rfl
                    case hw22D => rfl
                    try simp only [Act.put, List.setIfInBounds_toArray, List.set_cons_zero, List.set_cons_succ]
                    refine wpAnyH_take (i := 23) (oi := ?oi23D) (v := undef) ?oi0_23D (by kernel_rfl) ?ff23D ?rr23D ?hq23D (Or.inr ⟨?hw23D, rfl⟩) (by assumption) ?rest23D
                    case oi0_23D =>
                      conv =>
                        lhs
                        whnf
                        arg 1
                        whnf
                    case hq23D => exact fun _ _ _ h => h
                    case ff23D => kernel_rfl
                    case rr23D => kernel_rfl
                    case hw23D => rfl
                    try simp only [Act.put, List.setIfInBounds_toArray, List.set_cons_zero, List.set_cons_succ]
                    refine wpAnyH_take (i := 24) (oi := ?oi24D) (v := undef) ?oi0_24D (by kernel_rfl) ?ff24D ?rr24D ?hq24D (Or.inr ⟨?hw24D, rfl⟩) (by assumption) ?rest24D
                    case oi0_24D =>
                      conv =>
                        lhs
                        whnf
                        arg 1
                        whnf
                    case hq24D => exact fun _ _ _ h => h
                    case ff24D => kernel_rfl
                    case rr24D => kernel_rfl
                    case hw24D => rfl
                    try simp only [Act.put, List.setIfInBounds_toArray, List.set_cons_zero, List.set_cons_succ]
                    refine wpAnyH_take (i := 25) (oi := ?oi25D) (v := undef) ?oi0_25D (by kernel_rfl) ?ff25D ?rr25D ?hq25D (Or.inr ⟨?hw25D, rfl⟩) (by assumption) ?rest25D
                    case oi0_25D =>
                      conv =>
                        lhs
                        whnf
                        arg 1
                        whnf
                    case hq25D => exact fun _ _ _ h => h
                    case ff25D => kernel_rfl
                    case rr25D => kernel_rfl
                    case hw25D => rfl
                    try simp only [Act.put, List.setIfInBounds_toArray, List.set_cons_zero, List.set_cons_succ]
                    refine wpAnyH_take (i := 26) (oi := ?oi26D) (v := undef) ?oi0_26D (by kernel_rfl) ?ff26D ?rr26D ?hq26D (Or.inr ⟨?hw26D, rfl⟩) (by assumption) ?rest26D
                    case oi0_26D =>
                      conv =>
                        lhs
                        whnf
                        arg 1
                        whnf
                    case hq26D => exact fun _ _ _ h => h
                    case ff26D => kernel_rfl
                    case rr26D => kernel_rfl
                    case hw26D => rfl
                    try simp only [Act.put, List.setIfInBounds_toArray, List.set_cons_zero, List.set_cons_succ]
                    refine wpAnyH_take (i := 27) (oi := ?oi27D) (v := undef) ?oi0_27D (by kernel_rfl) ?ff27D ?rr27D ?hq27D (Or.inr ⟨?hw27D, rfl⟩) (by assumption) ?rest27D
                    case oi0_27D =>
                      conv =>
                        lhs
                        whnf
                        arg 1
                        whnf
                    case hq27D => exact fun _ _ _ h => h
                    case ff27D => kernel_rfl
                    case rr27D => kernel_rfl
                    case hw27D => rfl
                    try simp only [Act.put, List.setIfInBounds_toArray, List.set_cons_zero, List.set_cons_succ]
                    refine wpAnyH_take (i := 28) (oi := ?oi28D) (v := ?v28D) ?oi0_28D (by kernel_rfl) ?ff28D ?rr28D ?hq28D (Or.inl ⟨?hw28D, ?hy28D⟩) (by assumption) ?rest28D
                    case oi0_28D =>
                      conv =>
                        lhs
                        whnf
                        arg 1
                        whnf
                    case hq28D => exact fun _ _ _ h => h
                    case ff28D => kernel_rfl
                    case rr28D => kernel_rfl
                    case hw28D => rfl
                    case hy28D =>
                      intro w hSw
                      (try dsimp only at hSw)
                      first
                      | (go_simp; done)
                      | (go_simp; with_reducible rfl)
                    try simp only [Act.put, List.setIfInBounds_toArray, List.set_cons_zero, List.set_cons_succ]
                    refine wpAnyH_take (i := 29) (oi := ?oi29D) (v := ?v29D) ?oi0_29D (by kernel_rfl) ?ff29D ?rr29D ?hq29D (Or.inl ⟨?hw29D, ?hy29D⟩) (by assumption) ?rest29D
                    case oi0_29D =>
                      conv =>
                        lhs
                        whnf
                        arg 1
                        whnf
                    case hq29D => exact fun _ _ _ h => h
                    case ff29D => kernel_rfl
                    case rr29D => kernel_rfl
                    case hw29D => rfl
                    case hy29D =>
                      intro w hSw
                      (try dsimp only at hSw)
                      first
                      | (go_simp; done)
                      | (go_simp; with_reducible rfl)
                    try simp only [Act.put, List.setIfInBounds_toArray, List.set_cons_zero, List.set_cons_succ]
                    refine wpAnyH_done (by kernel_rfl) ?_ _
                    go_wp2_with fail
                    go_roundw
                    case rel => exact ⟨1, by omega, by go_num, hv.out.drew⟩
                    case measure => simp [intOf] <;> omega
                  · obtain ⟨q, hq⟩ : ∃ q, q + 1 = j := ⟨j - 1, by omega⟩
                    obtain ⟨v, hvv⟩ : ∃ v, bs[q]? = some v := ⟨_, List.getElem?_eq_getElem (by have := HLB.out; omega)⟩
                    have hvy : ¬ y ≤ v := by
                      have := prev_lt HSTR.out HYJ.out hq hvv
                      omega
                    have hvd : decide (y ≤ v) = false := decide_eq_false hvy
                    have f3 := HYC.out q v hvv wq hv.out
                    have hw1 : IntKind.i64.wrap ((j : Int) - 1) = (q : Int) := by rw [Go.IntWalk.i64_in _ (by omega)]; omega
                    have hql : (q : Int) < lbs := by omega
                    have hj0' : 0 < (j : Int) := by omega
                    clear hq hvv
                    go_wp2_with fail
                    refine wp_region_held_drew (S := (fun w' => w'.cell? ⟨Bb, Bo + j, none⟩ = some (.int .i64 y) ∧ w'.cell? ⟨Bb, Bo + q, none⟩ = some (.int .i64 v))) (by kernel_rfl) (by exact ⟨f0, f3⟩) (fun hHeld => ?_)
                    refine wpAnyH_take (i := 0) (oi := ?oi0E) (v := ?v0E) ?oi0_0E (by kernel_rfl) ?ff0E ?rr0E ?hq0E (Or.inl ⟨?hw0E, ?hy0E⟩) (by assumption) ?rest0E
                    case oi0_0E =>
                      conv =>
                        lhs
                        whnf
                        arg 1
                        whnf
                    case hq0E => exact fun _ _ _ h => h
                    case ff0E => kernel_rfl
                    case rr0E => kernel_rfl
                    case hw0E => rfl
                    case hy0E =>
                      intro w hSw
                      (try dsimp only at hSw)
                      first
                      | (go_simp; done)
                      | (go_simp; with_reducible rfl)
                    try simp only [Act.put, List.setIfInBounds_toArray, List.set_cons_zero, List.set_cons_succ]
                    refine wpAnyH_take (i := 1) (oi := ?oi1E) (v := ?v1E) ?oi0_1E (by kernel_rfl) ?ff1E ?rr1E ?hq1E (Or.inl ⟨?hw1E, ?hy1E⟩) (by assumption) ?rest1E
                    case oi0_1E =>
                      conv =>
                        lhs
                        whnf
                        arg 1
                        whnf
                    case hq1E => exact fun _ _ _ h => h
                    case ff1E => kernel_rfl
                    case rr1E => kernel_rfl
                    case hw1E => rfl
                    case hy1E =>
                      intro w hSw
                      (try dsimp only at hSw)
                      first
                      | (go_simp; done)
                      | (go_simp; with_reducible rfl)
                    try simp only [Act.put, List.setIfInBounds_toArray, List.set_cons_zero, List.set_cons_succ]
                    refine wpAnyH_take (i := 2) (oi := ?oi2E) (v := ?v2E) ?oi0_2E (by kernel_rfl) ?ff2E ?rr2E ?hq2E (Or.inl ⟨?hw2E, ?hy2E⟩) (by assumption) ?rest2E
                    case oi0_2E =>
                      conv =>
                        lhs
                        whnf
                        arg 1
                        whnf
                    case hq2E => exact fun _ _ _ h => h
                    case ff2E => kernel_rfl
                    case rr2E => kernel_rfl
                    case hw2E => rfl
                    case hy2E =>
                      intro w hSw
                      (try dsimp only at hSw)
                      first
                      | (go_simp; done)
                      | (go_simp; with_reducible rfl)
                    try simp only [Act.put, List.setIfInBounds_toArray, List.set_cons_zero, List.set_cons_succ]
                    refine wpAnyH_take (i := 3) (oi := ?oi3E) (v := ?v3E) ?oi0_3E (by kernel_rfl) ?ff3E ?rr3E ?hq3E (Or.inl ⟨?hw3E, ?hy3E⟩) (by assumption) ?rest3E
                    case oi0_3E =>
                      conv =>
                        lhs
                        whnf
                        arg 1
                        whnf
                    case hq3E => exact fun _ _ _ h => h
                    case ff3E => kernel_rfl
                    case rr3E => kernel_rfl
                    case hw3E => rfl
                    case hy3E =>
                      intro w hSw
                      (try dsimp only at hSw)
                      first
                      | (go_simp; done)
                      | (go_simp; with_reducible rfl)
                    try simp only [Act.put, List.setIfInBounds_toArray, List.set_cons_zero, List.set_cons_succ]
                    refine wpAnyH_take (i := 4) (oi := ?oi4E) (v := ?v4E) ?oi0_4E (by kernel_rfl) ?ff4E ?rr4E ?hq4E (Or.inl ⟨?hw4E, ?hy4E⟩) (by assumption) ?rest4E
                    case oi0_4E =>
                      conv =>
                        lhs
                        whnf
                        arg 1
                        whnf
                    case hq4E => exact fun _ _ _ h => h
                    case ff4E => kernel_rfl
                    case rr4E => kernel_rfl
                    case hw4E => rfl
                    case hy4E =>
                      intro w hSw
                      (try dsimp only at hSw)
                      first
                      | (go_simp; done)
                      | (go_simp; with_reducible rfl)
                    try simp only [Act.put, List.setIfInBounds_toArray, List.set_cons_zero, List.set_cons_succ]
                    refine wpAnyH_take (i := 5) (oi := ?oi5E) (v := ?v5E) ?oi0_5E (by kernel_rfl) ?ff5E ?rr5E ?hq5E (Or.inl ⟨?hw5E, ?hy5E⟩) (by assumption) ?rest5E
                    case oi0_5E =>
                      conv =>
                        lhs
                        whnf
                        arg 1
                        whnf
                    case hq5E => exact fun _ _ _ h => h
                    case ff5E => kernel_rfl
                    case rr5E => kernel_rfl
                    case hw5E => rfl
                    case hy5E =>
                      intro w hSw
                      (try dsimp only at hSw)
                      first
                      | (go_simp; done)
                      | (go_simp; with_reducible rfl)
                    try simp only [Act.put, List.setIfInBounds_toArray, List.set_cons_zero, List.set_cons_succ]
                    refine wpAnyH_take (i := 6) (oi := ?oi6E) (v := undef) ?oi0_6E (by kernel_rfl) ?ff6E ?rr6E ?hq6E (Or.inr ⟨?hw6E, rfl⟩) (by assumption) ?rest6E
                    case oi0_6E =>
                      conv =>
                        lhs
                        whnf
                        arg 1
                        whnf
                    case hq6E => exact fun _ _ _ h => h
                    case ff6E => kernel_rfl
                    case rr6E => kernel_rfl
                    case hw6E => rfl
                    try simp only [Act.put, List.setIfInBounds_toArray, List.set_cons_zero, List.set_cons_succ]
                    refine wpAnyH_take (i := 7) (oi := ?oi7E) (v := undef) ?oi0_7E (by kernel_rfl) ?ff7E ?rr7E ?hq7E (Or.inr ⟨?hw7E, rfl⟩) (by assumption) ?rest7E
                    case oi0_7E =>
                      conv =>
                        lhs
                        whnf
                        arg 1
                        whnf
                    case hq7E => exact fun _ _ _ h => h
                    case ff7E => kernel_rfl
                    case rr7E => kernel_rfl
                    case hw7E => rfl
                    try simp only [Act.put, List.setIfInBounds_toArray, List.set_cons_zero, List.set_cons_succ]
                    refine wpAnyH_take (i := 8) (oi := ?oi8E) (v := undef) ?oi0_8E (by kernel_rfl) ?ff8E ?rr8E ?hq8E (Or.inr ⟨?hw8E, rfl⟩) (by assumption) ?rest8E
                    case oi0_8E =>
                      conv =>
                        lhs
                        whnf
                        arg 1
                        whnf
                    case hq8E => exact fun _ _ _ h => h
                    case ff8E => kernel_rfl
                    case rr8E => kernel_rfl
                    case hw8E => rfl
                    try simp only [Act.put, List.setIfInBounds_toArray, List.set_cons_zero, List.set_cons_succ]
                    refine wpAnyH_take (i := 9) (oi := ?oi9E) (v := undef) ?oi0_9E (by kernel_rfl) ?ff9E ?rr9E ?hq9E (Or.inr ⟨?hw9E, rfl⟩) (by assumption) ?rest9E
                    case oi0_9E =>
                      conv =>
                        lhs
                        whnf
                        arg 1
                        whnf
                    case hq9E => exact fun _ _ _ h => h
                    case ff9E => kernel_rfl
                    case rr9E => kernel_rfl
                    case hw9E => rfl
                    try simp only [Act.put, List.setIfInBounds_toArray, List.set_cons_zero, List.set_cons_succ]
                    refine wpAnyH_take (i := 10) (oi := ?oi10E) (v := undef) ?oi0_10E (by kernel_rfl) ?ff10E ?rr10E ?hq10E (Or.inr ⟨?hw10E, rfl⟩) (by assumption) ?rest10E
                    case oi0_10E =>
                      conv =>
                        lhs
                        whnf
                        arg 1
                        whnf
                    case hq10E => exact fun _ _ _ h => h
                    case ff10E => kernel_rfl
                    case rr10E => kernel_rfl
                    case hw10E => rfl
                    try simp only [Act.put, List.setIfInBounds_toArray, List.set_cons_zero, List.set_cons_succ]
                    refine wpAnyH_take (i := 11) (oi := ?oi11E) (v := undef) ?oi0_11E (by kernel_rfl) ?ff11E ?rr11E ?hq11E (Or.inr ⟨?hw11E, rfl⟩) (by assumption) ?rest11E
                    case oi0_11E =>
                      conv =>
                        lhs
                        whnf
                        arg 1
                        whnf
                    case hq11E => exact fun _ _ _ h => h
                    case ff11E => kernel_rfl
                    case rr11E => kernel_rfl
                    case hw11E => rfl
                    try simp only [Act.put, List.setIfInBounds_toArray, List.set_cons_zero, List.set_cons_succ]
                    refine wpAnyH_take (i := 12) (oi := ?oi12E) (v := ?v12E) ?oi0_12E (by kernel_rfl) ?ff12E ?rr12E ?hq12E (Or.inl ⟨?hw12E, ?hy12E⟩) (by assumption) ?rest12E
                    case oi0_12E =>
                      conv =>
                        lhs
                        whnf
                        arg 1
                        whnf
                    case hq12E => exact fun _ _ _ h => h
                    case ff12E => kernel_rfl
                    case rr12E => kernel_rfl
                    case hw12E => rfl
                    case hy12E =>
                      intro w hSw
                      (try dsimp only at hSw)
                      first
                      | (go_simp; done)
                      | (go_simp; with_reducible rfl)
                    try simp only [Act.put, List.setIfInBounds_toArray, List.set_cons_zero, List.set_cons_succ]
                    refine wpAnyH_take (i := 13) (oi := ?oi13E) (v := ?v13E) ?oi0_13E (by kernel_rfl) ?ff13E ?rr13E ?hq13E (Or.inl ⟨?hw13E, ?hy13E⟩) (by assumption) ?rest13E
                    case oi0_13E =>
                      conv =>
                        lhs
                        whnf
                        arg 1
                        whnf
                    case hq13E => exact fun _ _ _ h => h
                    case ff13E => kernel_rfl
                    case rr13E => kernel_rfl
                    case hw13E => rfl
                    case hy13E =>
                      intro w hSw
                      (try dsimp only at hSw)
                      first
                      | (go_simp; done)
                      | (go_simp; with_reducible rfl)
                    try simp only [Act.put, List.setIfInBounds_toArray, List.set_cons_zero, List.set_cons_succ]
                    refine wpAnyH_take (i := 14) (oi := ?oi14E) (v := ?v14E) ?oi0_14E (by kernel_rfl) ?ff14E ?rr14E ?hq14E (Or.inl ⟨?hw14E, ?hy14E⟩) (by assumption) ?rest14E
                    case oi0_14E =>
                      conv =>
                        lhs
                        whnf
                        arg 1
                        whnf
                    case hq14E => exact fun _ _ _ h => h
                    case ff14E => kernel_rfl
                    case rr14E => kernel_rfl
                    case hw14E => rfl
                    case hy14E =>
                      intro w hSw
                      (try dsimp only at hSw)
                      first
                      | (go_simp; done)
                      | (go_simp; with_reducible rfl)
                    try simp only [Act.put, List.setIfInBounds_toArray, List.set_cons_zero, List.set_cons_succ]
                    refine wpAnyH_take (i := 15) (oi := ?oi15E) (v := ?v15E) ?oi0_15E (by kernel_rfl) ?ff15E ?rr15E ?hq15E (Or.inl ⟨?hw15E, ?hy15E⟩) (by assumption) ?rest15E
                    case oi0_15E =>
                      conv =>
                        lhs
                        whnf
                        arg 1
                        whnf
                    case hq15E => exact fun _ _ _ h => h
                    case ff15E => kernel_rfl
                    case rr15E => kernel_rfl
                    case hw15E => rfl
                    case hy15E =>
                      intro w hSw
                      (try dsimp only at hSw)
                      first
                      | (go_simp; done)
                      | (go_simp; with_reducible rfl)
                    try simp only [Act.put, List.setIfInBounds_toArray, List.set_cons_zero, List.set_cons_succ]
                    refine wpAnyH_take (i := 16) (oi := ?oi16E) (v := ?v16E) ?oi0_16E (by kernel_rfl) ?ff16E ?rr16E ?hq16E (Or.inl ⟨?hw16E, ?hy16E⟩) (by assumption) ?rest16E
                    case oi0_16E =>
                      conv =>
                        lhs
                        whnf
                        arg 1
                        whnf
                    case hq16E => exact fun _ _ _ h => h
                    case ff16E => kernel_rfl
                    case rr16E => kernel_rfl
                    case hw16E => rfl
                    case hy16E =>
                      intro w hSw
                      (try dsimp only at hSw)
                      first
                      | (go_simp; done)
                      | (go_simp; with_reducible rfl)
                    try simp only [Act.put, List.setIfInBounds_toArray, List.set_cons_zero, List.set_cons_succ]
                    refine wpAnyH_take (i := 17) (oi := ?oi17E) (v := ?v17E) ?oi0_17E (by kernel_rfl) ?ff17E ?rr17E ?hq17E (Or.inl ⟨?hw17E, ?hy17E⟩) (by assumption) ?rest17E
                    case oi0_17E =>
                      conv =>
                        lhs
                        whnf
                        arg 1
                        whnf
                    case hq17E => exact fun _ _ _ h => h
                    case ff17E => kernel_rfl
                    case rr17E => kernel_rfl
                    case hw17E => rfl
                    case hy17E =>
                      intro w hSw
                      (try dsimp only at hSw)
                      first
                      | (go_simp; done)
                      | (go_simp; with_reducible rfl)
                    try simp only [Act.put, List.setIfInBounds_toArray, List.set_cons_zero, List.set_cons_succ]
                    refine wpAnyH_take (i := 18) (oi := ?oi18E) (v := ?v18E) ?oi0_18E (by kernel_rfl) ?ff18E ?rr18E ?hq18E (Or.inl ⟨?hw18E, ?hy18E⟩) (by assumption) ?rest18E
                    case oi0_18E =>
                      conv =>
                        lhs
                        whnf
                        arg 1
                        whnf
                    case hq18E => exact fun _ _ _ h => h
                    case ff18E => kernel_rfl
                    case rr18E => kernel_rfl
                    case hw18E => rfl
                    case hy18E =>
                      intro w hSw
                      (try dsimp only at hSw)
                      first
                      | (go_simp; done)
                      | (go_simp; with_reducible rfl)
                    try simp only [Act.put, List.setIfInBounds_toArray, List.set_cons_zero, List.set_cons_succ]
                    refine wpAnyH_take (i := 19) (oi := ?oi19E) (v := ?v19E) ?oi0_19E (by kernel_rfl) ?ff19E ?rr19E ?hq19E (Or.inl ⟨?hw19E, ?hy19E⟩) (by assumption) ?rest19E
                    case oi0_19E =>
                      conv =>
                        lhs
                        whnf
                        arg 1
                        whnf
                    case hq19E => exact fun _ _ _ h => h
                    case ff19E => kernel_rfl
                    case rr19E => kernel_rfl
                    case hw19E => rfl
                    case hy19E =>
                      intro w hSw
                      (try dsimp only at hSw)
                      first
                      | (go_simp; done)
                      | (go_simp; with_reducible rfl)
                    try simp only [Act.put, List.setIfInBounds_toArray, List.set_cons_zero, List.set_cons_succ]
                    refine wpAnyH_take (i := 20) (oi := ?oi20E) (v := ?v20E) ?oi0_20E (by kernel_rfl) ?ff20E ?rr20E ?hq20E (Or.inl ⟨?hw20E, ?hy20E⟩) (by assumption) ?rest20E
                    case oi0_20E =>
                      conv =>
                        lhs
                        whnf
                        arg 1
                        whnf
                    case hq20E => exact fun _ _ _ h => h
                    case ff20E => kernel_rfl
                    case rr20E => kernel_rfl
                    case hw20E => rfl
                    case hy20E =>
                      intro w hSw
                      (try dsimp only at hSw)
                      first
                      | (go_simp; done)
                      | (go_simp; with_reducible rfl)
                    try simp only [Act.put, List.setIfInBounds_toArray, List.set_cons_zero, List.set_cons_succ]
                    refine wpAnyH_take (i := 21) (oi := ?oi21E) (v := ?v21E) ?oi0_21E (by kernel_rfl) ?ff21E ?rr21E ?hq21E (Or.inl ⟨?hw21E, ?hy21E⟩) (by assumption) ?rest21E
                    case oi0_21E =>
                      conv =>
                        lhs
                        whnf
                        arg 1
                        whnf
                    case hq21E => exact fun _ _ _ h => h
                    case ff21E => kernel_rfl
                    case rr21E => kernel_rfl
                    case hw21E => rfl
                    case hy21E =>
                      intro w hSw
                      (try dsimp only at hSw)
                      first
                      | (go_simp; done)
                      | (go_simp; with_reducible rfl)
                    try simp only [Act.put, List.setIfInBounds_toArray, List.set_cons_zero, List.set_cons_succ]
                    refine wpAnyH_take (i := 22) (oi := ?oi22E) (v := ?v22E) ?oi0_22E (by kernel_rfl) ?ff22E ?rr22E ?hq22E (Or.inl ⟨?hw22E, ?hy22E⟩) (by assumption) ?rest22E
                    case oi0_22E =>
                      conv =>
                        lhs
                        whnf
                        arg 1
                        whnf
                    case hq22E => exact fun _ _ _ h => h
                    case ff22E => kernel_rfl
                    case rr22E => kernel_rfl
                    case hw22E => rfl
                    case hy22E =>
                      intro w hSw
                      (try dsimp only at hSw)
                      first
                      | (go_simp; done)
                      | (go_simp; with_reducible rfl)
                    try simp only [Act.put, List.setIfInBounds_toArray, List.set_cons_zero, List.set_cons_succ]
                    refine wpAnyH_take (i := 23) (oi := ?oi23E) (v := ?v23E) ?oi0_23E (by kernel_rfl) ?ff23E ?rr23E ?hq23E (Or.inl ⟨?hw23E, ?hy23E⟩) (by assumption) ?rest23E
                    case oi0_23E =>
                      conv =>
                        lhs
                        whnf
                        arg 1
                        whnf
                    case hq23E => exact fun _ _ _ h => h
                    case ff23E => kernel_rfl
                    case rr23E => kernel_rfl
                    case hw23E => rfl
                    case hy23E =>
                      intro w hSw
                      (try dsimp only at hSw)
                      first
                      | (go_simp; done)
                      | (go_simp; with_reducible rfl)
                    try simp only [Act.put, List.setIfInBounds_toArray, List.set_cons_zero, List.set_cons_succ]
                    refine wpAnyH_take (i := 24) (oi := ?oi24E) (v := ?v24E) ?oi0_24E (by kernel_rfl) ?ff24E ?rr24E ?hq24E (Or.inl ⟨?hw24E, ?hy24E⟩) (by assumption) ?rest24E
                    case oi0_24E =>
                      conv =>
                        lhs
                        whnf
                        arg 1
                        whnf
                    case hq24E => exact fun _ _ _ h => h
                    case ff24E => kernel_rfl
                    case rr24E => kernel_rfl
                    case hw24E => rfl
                    case hy24E =>
                      intro w hSw
                      (try dsimp only at hSw)
                      first
                      | (go_simp; done)
                      | (go_simp; with_reducible rfl)
                    try simp only [Act.put, List.setIfInBounds_toArray, List.set_cons_zero, List.set_cons_succ]
                    refine wpAnyH_take (i := 25) (oi := ?oi25E) (v := ?v25E) ?oi0_25E (by kernel_rfl) ?ff25E ?rr25E ?hq25E (Or.inl ⟨?hw25E, ?hy25E⟩) (by assumption) ?rest25E
                    case oi0_25E =>
                      conv =>
                        lhs
                        whnf
                        arg 1
                        whnf
                    case hq25E => exact fun _ _ _ h => h
                    case ff25E => kernel_rfl
                    case rr25E => kernel_rfl
                    case hw25E => rfl
                    case hy25E =>
                      intro w hSw
                      (try dsimp only at hSw)
                      first
                      | (go_simp; done)
                      | (go_simp; with_reducible rfl)
                    try simp only [Act.put, List.setIfInBounds_toArray, List.set_cons_zero, List.set_cons_succ]
                    refine wpAnyH_take (i := 26) (oi := ?oi26E) (v := ?v26E) ?oi0_26E (by kernel_rfl) ?ff26E ?rr26E ?hq26E (Or.inl ⟨?hw26E, ?hy26E⟩) (by assumption) ?rest26E
                    case oi0_26E =>
                      conv =>
                        lhs
                        whnf
                        arg 1
                        whnf
                    case hq26E => exact fun _ _ _ h => h
                    case ff26E => kernel_rfl
                    case rr26E => kernel_rfl
                    case hw26E => rfl
                    case hy26E =>
                      intro w hSw
                      (try dsimp only at hSw)
                      first
                      | (go_simp; done)
                      | (go_simp; with_reducible rfl)
                    try simp only [Act.put, List.setIfInBounds_toArray, List.set_cons_zero, List.set_cons_succ]
                    refine wpAnyH_take (i := 27) (oi := ?oi27E) (v := ?v27E) ?oi0_27E (by kernel_rfl) ?ff27E ?rr27E ?hq27E (Or.inl ⟨?hw27E, ?hy27E⟩) (by assumption) ?rest27E
                    case oi0_27E =>
                      conv =>
                        lhs
                        whnf
                        arg 1
                        whnf
                    case hq27E => exact fun _ _ _ h => h
                    case ff27E => kernel_rfl
                    case rr27E => kernel_rfl
                    case hw27E => rfl
                    case hy27E =>
                      intro w hSw
                      (try dsimp only at hSw)
                      first
                      | (go_simp; done)
                      | (go_simp; with_reducible rfl)
                    try simp only [Act.put, List.setIfInBounds_toArray, List.set_cons_zero, List.set_cons_succ]
                    refine wpAnyH_take (i := 28) (oi := ?oi28E) (v := ?v28E) ?oi0_28E (by kernel_rfl) ?ff28E ?rr28E ?hq28E (Or.inl ⟨?hw28E, ?hy28E⟩) (by assumption) ?rest28E
                    case oi0_28E =>
                      conv =>
                        lhs
                        whnf
                        arg 1
                        whnf
                    case hq28E => exact fun _ _ _ h => h
                    case ff28E => kernel_rfl
                    case rr28E => kernel_rfl
                    case hw28E => rfl
                    case hy28E =>
                      intro w hSw
                      (try dsimp only at hSw)
                      first
                      | (go_simp; done)
                      | (go_simp; with_reducible rfl)
                    try simp only [Act.put, List.setIfInBounds_toArray, List.set_cons_zero, List.set_cons_succ]
                    refine wpAnyH_take (i := 29) (oi := ?oi29E) (v := ?v29E) ?oi0_29E (by kernel_rfl) ?ff29E ?rr29E ?hq29E (Or.inl ⟨?hw29E, ?hy29E⟩) (by assumption) ?rest29E
                    case oi0_29E =>
                      conv =>
                        lhs
                        whnf
                        arg 1
                        whnf
                    case hq29E => exact fun _ _ _ h => h
                    case ff29E => kernel_rfl
                    case rr29E => kernel_rfl
                    case hw29E => rfl
                    case hy29E =>
                      intro w hSw
                      (try dsimp only at hSw)
                      first
                      | (go_simp; done)
                      | (go_simp; with_reducible rfl)
                    try simp only [Act.put, List.setIfInBounds_toArray, List.set_cons_zero, List.set_cons_succ]
                    refine wpAnyH_done (by kernel_rfl) ?_ _
                    go_wp2_with fail
                    go_roundw
                    case rel => exact ⟨j + 1, by omega, by go_num, hv.out.drew⟩
                    case measure => simp [intOf] <;> omega
                · have hjd : decide (0 ≤ jn) = true := decide_eq_true (by omega)
                  have hjp' : 0 ≤ jn := by omega
                  obtain rfl : jn = y := by
                    rcases hjy with h | h
                    · exact absurd h hjp
                    · exact h
                  clear hjy
                  rcases Nat.eq_zero_or_pos j with hj0 | hj0
                  · subst hj0
                    go_wp2_with fail
                    refine wp_region_held_drew (S := (fun w' => w'.cell? ⟨Bb, Bo, none⟩ = some (.int .i64 jn))) (by kernel_rfl) (by exact f0) (fun hHeld => ?_)
                    refine wpAnyH_take (i := 0) (oi := ?oi0F) (v := ?v0F) ?oi0_0F (by kernel_rfl) ?ff0F ?rr0F ?hq0F (Or.inl ⟨?hw0F, ?hy0F⟩) (by assumption) ?rest0F
                    case oi0_0F =>
                      conv =>
                        lhs
                        whnf
                        arg 1
                        whnf
                    case hq0F => exact fun _ _ _ h => h
                    case ff0F => kernel_rfl
                    case rr0F => kernel_rfl
                    case hw0F => rfl
                    case hy0F =>
                      intro w hSw
                      (try dsimp only at hSw)
                      first
                      | (go_simp; done)
                      | (go_simp; with_reducible rfl)
                    try simp only [Act.put, List.setIfInBounds_toArray, List.set_cons_zero, List.set_cons_succ]
                    refine wpAnyH_take (i := 1) (oi := ?oi1F) (v := ?v1F) ?oi0_1F (by kernel_rfl) ?ff1F ?rr1F ?hq1F (Or.inl ⟨?hw1F, ?hy1F⟩) (by assumption) ?rest1F
                    case oi0_1F =>
                      conv =>
                        lhs
                        whnf
                        arg 1
                        whnf
                    case hq1F => exact fun _ _ _ h => h
                    case ff1F => kernel_rfl
                    case rr1F => kernel_rfl
                    case hw1F => rfl
                    case hy1F =>
                      intro w hSw
                      (try dsimp only at hSw)
                      first
                      | (go_simp; done)
                      | (go_simp; with_reducible rfl)
                    try simp only [Act.put, List.setIfInBounds_toArray, List.set_cons_zero, List.set_cons_succ]
                    refine wpAnyH_take (i := 2) (oi := ?oi2F) (v := ?v2F) ?oi0_2F (by kernel_rfl) ?ff2F ?rr2F ?hq2F (Or.inl ⟨?hw2F, ?hy2F⟩) (by assumption) ?rest2F
                    case oi0_2F =>
                      conv =>
                        lhs
                        whnf
                        arg 1
                        whnf
                    case hq2F => exact fun _ _ _ h => h
                    case ff2F => kernel_rfl
                    case rr2F => kernel_rfl
                    case hw2F => rfl
                    case hy2F =>
                      intro w hSw
                      (try dsimp only at hSw)
                      first
                      | (go_simp; done)
                      | (go_simp; with_reducible rfl)
                    try simp only [Act.put, List.setIfInBounds_toArray, List.set_cons_zero, List.set_cons_succ]
                    refine wpAnyH_take (i := 3) (oi := ?oi3F) (v := ?v3F) ?oi0_3F (by kernel_rfl) ?ff3F ?rr3F ?hq3F (Or.inl ⟨?hw3F, ?hy3F⟩) (by assumption) ?rest3F
                    case oi0_3F =>
                      conv =>
                        lhs
                        whnf
                        arg 1
                        whnf
                    case hq3F => exact fun _ _ _ h => h
                    case ff3F => kernel_rfl
                    case rr3F => kernel_rfl
                    case hw3F => rfl
                    case hy3F =>
                      intro w hSw
                      (try dsimp only at hSw)
                      first
                      | (go_simp; done)
                      | (go_simp; with_reducible rfl)
                    try simp only [Act.put, List.setIfInBounds_toArray, List.set_cons_zero, List.set_cons_succ]
                    refine wpAnyH_take (i := 4) (oi := ?oi4F) (v := ?v4F) ?oi0_4F (by kernel_rfl) ?ff4F ?rr4F ?hq4F (Or.inl ⟨?hw4F, ?hy4F⟩) (by assumption) ?rest4F
                    case oi0_4F =>
                      conv =>
                        lhs
                        whnf
                        arg 1
                        whnf
                    case hq4F => exact fun _ _ _ h => h
                    case ff4F => kernel_rfl
                    case rr4F => kernel_rfl
                    case hw4F => rfl
                    case hy4F =>
                      intro w hSw
                      (try dsimp only at hSw)
                      first
                      | (go_simp; done)
                      | (go_simp; with_reducible rfl)
                    try simp only [Act.put, List.setIfInBounds_toArray, List.set_cons_zero, List.set_cons_succ]
                    refine wpAnyH_take (i := 5) (oi := ?oi5F) (v := ?v5F) ?oi0_5F (by kernel_rfl) ?ff5F ?rr5F ?hq5F (Or.inl ⟨?hw5F, ?hy5F⟩) (by assumption) ?rest5F
                    case oi0_5F =>
                      conv =>
                        lhs
                        whnf
                        arg 1
                        whnf
                    case hq5F => exact fun _ _ _ h => h
                    case ff5F => kernel_rfl
                    case rr5F => kernel_rfl
                    case hw5F => rfl
                    case hy5F =>
                      intro w hSw
                      (try dsimp only at hSw)
                      first
                      | (go_simp; done)
                      | (go_simp; with_reducible rfl)
                    try simp only [Act.put, List.setIfInBounds_toArray, List.set_cons_zero, List.set_cons_succ]
                    refine wpAnyH_take (i := 6) (oi := ?oi6F) (v := ?v6F) ?oi0_6F (by kernel_rfl) ?ff6F ?rr6F ?hq6F (Or.inl ⟨?hw6F, ?hy6F⟩) (by assumption) ?rest6F
                    case oi0_6F =>
                      conv =>
                        lhs
                        whnf
                        arg 1
                        whnf
                    case hq6F => exact fun _ _ _ h => h
                    case ff6F => kernel_rfl
                    case rr6F => kernel_rfl
                    case hw6F => rfl
                    case hy6F =>
                      intro w hSw
                      (try dsimp only at hSw)
                      first
                      | (go_simp; done)
                      | (go_simp; with_reducible rfl)
                    try simp only [Act.put, List.setIfInBounds_toArray, List.set_cons_zero, List.set_cons_succ]
                    refine wpAnyH_take (i := 7) (oi := ?oi7F) (v := ?v7F) ?oi0_7F (by kernel_rfl) ?ff7F ?rr7F ?hq7F (Or.inl ⟨?hw7F, ?hy7F⟩) (by assumption) ?rest7F
                    case oi0_7F =>
                      conv =>
                        lhs
                        whnf
                        arg 1
                        whnf
                    case hq7F => exact fun _ _ _ h => h
                    case ff7F => kernel_rfl
                    case rr7F => kernel_rfl
                    case hw7F => rfl
                    case hy7F =>
                      intro w hSw
                      (try dsimp only at hSw)
                      first
                      | (go_simp; done)
                      | (go_simp; with_reducible rfl)
                    try simp only [Act.put, List.setIfInBounds_toArray, List.set_cons_zero, List.set_cons_succ]
                    refine wpAnyH_take (i := 8) (oi := ?oi8F) (v := ?v8F) ?oi0_8F (by kernel_rfl) ?ff8F ?rr8F ?hq8F (Or.inl ⟨?hw8F, ?hy8F⟩) (by assumption) ?rest8F
                    case oi0_8F =>
                      conv =>
                        lhs
                        whnf
                        arg 1
                        whnf
                    case hq8F => exact fun _ _ _ h => h
                    case ff8F => kernel_rfl
                    case rr8F => kernel_rfl
                    case hw8F => rfl
                    case hy8F =>
                      intro w hSw
                      (try dsimp only at hSw)
                      first
                      | (go_simp; done)
                      | (go_simp; with_reducible rfl)
                    try simp only [Act.put, List.setIfInBounds_toArray, List.set_cons_zero, List.set_cons_succ]
                    refine wpAnyH_take (i := 9) (oi := ?oi9F) (v := ?v9F) ?oi0_9F (by kernel_rfl) ?ff9F ?rr9F ?hq9F (Or.inl ⟨?hw9F, ?hy9F⟩) (by assumption) ?rest9F
                    case oi0_9F =>
                      conv =>
                        lhs
                        whnf
                        arg 1
                        whnf
                    case hq9F => exact fun _ _ _ h => h
                    case ff9F => kernel_rfl
                    case rr9F => kernel_rfl
                    case hw9F => rfl
                    case hy9F =>
                      intro w hSw
                      (try dsimp only at hSw)
                      first
                      | (go_simp; done)
                      | (go_simp; with_reducible rfl)
                    try simp only [Act.put, List.setIfInBounds_toArray, List.set_cons_zero, List.set_cons_succ]
                    refine wpAnyH_take (i := 10) (oi := ?oi10F) (v := ?v10F) ?oi0_10F (by kernel_rfl) ?ff10F ?rr10F ?hq10F (Or.inl ⟨?hw10F, ?hy10F⟩) (by assumption) ?rest10F
                    case oi0_10F =>
                      conv =>
                        lhs
                        whnf
                        arg 1
                        whnf
                    case hq10F => exact fun _ _ _ h => h
                    case ff10F => kernel_rfl
                    case rr10F => kernel_rfl
                    case hw10F => rfl
                    case hy10F =>
                      intro w hSw
                      (try dsimp only at hSw)
                      first
                      | (go_simp; done)
                      | (go_simp; with_reducible rfl)
                    try simp only [Act.put, List.setIfInBounds_toArray, List.set_cons_zero, List.set_cons_succ]
                    refine wpAnyH_take (i := 11) (oi := ?oi11F) (v := ?v11F) ?oi0_11F (by kernel_rfl) ?ff11F ?rr11F ?hq11F (Or.inl ⟨?hw11F, ?hy11F⟩) (by assumption) ?rest11F
                    case oi0_11F =>
                      conv =>
                        lhs
                        whnf
                        arg 1
                        whnf
                    case hq11F => exact fun _ _ _ h => h
                    case ff11F => kernel_rfl
                    case rr11F => kernel_rfl
                    case hw11F => rfl
                    case hy11F =>
                      intro w hSw
                      (try dsimp only at hSw)
                      first
                      | (go_simp; done)
                      | (go_simp; with_reducible rfl)
                    try simp only [Act.put, List.setIfInBounds_toArray, List.set_cons_zero, List.set_cons_succ]
                    refine wpAnyH_take (i := 12) (oi := ?oi12F) (v := ?v12F) ?oi0_12F (by kernel_rfl) ?ff12F ?rr12F ?hq12F (Or.inl ⟨?hw12F, ?hy12F⟩) (by assumption) ?rest12F
                    case oi0_12F =>
                      conv =>
                        lhs
                        whnf
                        arg 1
                        whnf
                    case hq12F => exact fun _ _ _ h => h
                    case ff12F => kernel_rfl
                    case rr12F => kernel_rfl
                    case hw12F => rfl
                    case hy12F =>
                      intro w hSw
                      (try dsimp only at hSw)
                      first
                      | (go_simp; done)
                      | (go_simp; with_reducible rfl)
                    try simp only [Act.put, List.setIfInBounds_toArray, List.set_cons_zero, List.set_cons_succ]
                    refine wpAnyH_take (i := 13) (oi := ?oi13F) (v := ?v13F) ?oi0_13F (by kernel_rfl) ?ff13F ?rr13F ?hq13F (Or.inl ⟨?hw13F, ?hy13F⟩) (by assumption) ?rest13F
                    case oi0_13F =>
                      conv =>
                        lhs
                        whnf
                        arg 1
                        whnf
                    case hq13F => exact fun _ _ _ h => h
                    case ff13F => kernel_rfl
                    case rr13F => kernel_rfl
                    case hw13F => rfl
                    case hy13F =>
                      intro w hSw
                      (try dsimp only at hSw)
                      first
                      | (go_simp; done)
                      | (go_simp; with_reducible rfl)
                    try simp only [Act.put, List.setIfInBounds_toArray, List.set_cons_zero, List.set_cons_succ]
                    refine wpAnyH_take (i := 14) (oi := ?oi14F) (v := ?v14F) ?oi0_14F (by kernel_rfl) ?ff14F ?rr14F ?hq14F (Or.inl ⟨?hw14F, ?hy14F⟩) (by assumption) ?rest14F
                    case oi0_14F =>
                      conv =>
                        lhs
                        whnf
                        arg 1
                        whnf
                    case hq14F => exact fun _ _ _ h => h
                    case ff14F => kernel_rfl
                    case rr14F => kernel_rfl
                    case hw14F => rfl
                    case hy14F =>
                      intro w hSw
                      (try dsimp only at hSw)
                      first
                      | (go_simp; done)
                      | (go_simp; with_reducible rfl)
                    try simp only [Act.put, List.setIfInBounds_toArray, List.set_cons_zero, List.set_cons_succ]
                    refine wpAnyH_take (i := 15) (oi := ?oi15F) (v := ?v15F) ?oi0_15F (by kernel_rfl) ?ff15F ?rr15F ?hq15F (Or.inl ⟨?hw15F, ?hy15F⟩) (by assumption) ?rest15F
                    case oi0_15F =>
                      conv =>
                        lhs
                        whnf
                        arg 1
                        whnf
                    case hq15F => exact fun _ _ _ h => h
                    case ff15F => kernel_rfl
                    case rr15F => kernel_rfl
                    case hw15F => rfl
                    case hy15F =>
                      intro w hSw
                      (try dsimp only at hSw)
                      first
                      | (go_simp; done)
                      | (go_simp; with_reducible rfl)
                    try simp only [Act.put, List.setIfInBounds_toArray, List.set_cons_zero, List.set_cons_succ]
                    refine wpAnyH_take (i := 16) (oi := ?oi16F) (v := ?v16F) ?oi0_16F (by kernel_rfl) ?ff16F ?rr16F ?hq16F (Or.inl ⟨?hw16F, ?hy16F⟩) (by assumption) ?rest16F
                    case oi0_16F =>
                      conv =>
                        lhs
                        whnf
                        arg 1
                        whnf
                    case hq16F => exact fun _ _ _ h => h
                    case ff16F => kernel_rfl
                    case rr16F => kernel_rfl
                    case hw16F => rfl
                    case hy16F =>
                      intro w hSw
                      (try dsimp only at hSw)
                      first
                      | (go_simp; done)
                      | (go_simp; with_reducible rfl)
                    try simp only [Act.put, List.setIfInBounds_toArray, List.set_cons_zero, List.set_cons_succ]
                    refine wpAnyH_take (i := 17) (oi := ?oi17F) (v := ?v17F) ?oi0_17F (by kernel_rfl) ?ff17F ?rr17F ?hq17F (Or.inl ⟨?hw17F, ?hy17F⟩) (by assumption) ?rest17F
                    case oi0_17F =>
                      conv =>
                        lhs
                        whnf
                        arg 1
                        whnf
                    case hq17F => exact fun _ _ _ h => h
                    case ff17F => kernel_rfl
                    case rr17F => kernel_rfl
                    case hw17F => rfl
                    case hy17F =>
                      intro w hSw
                      (try dsimp only at hSw)
                      first
                      | (go_simp; done)
                      | (go_simp; with_reducible rfl)
                    try simp only [Act.put, List.setIfInBounds_toArray, List.set_cons_zero, List.set_cons_succ]
                    refine wpAnyH_take (i := 18) (oi := ?oi18F) (v := undef) ?oi0_18F (by kernel_rfl) ?ff18F ?rr18F ?hq18F (Or.inr ⟨?hw18F, rfl⟩) (by assumption) ?rest18F
                    case oi0_18F =>
                      conv =>
                        lhs
                        whnf
                        arg 1
                        whnf
                    case hq18F => exact fun _ _ _ h => h
                    case ff18F => kernel_rfl
                    case rr18F => kernel_rfl
                    case hw18F => rfl
                    try simp only [Act.put, List.setIfInBounds_toArray, List.set_cons_zero, List.set_cons_succ]
                    refine wpAnyH_take (i := 19) (oi := ?oi19F) (v := undef) ?oi0_19F (by kernel_rfl) ?ff19F ?rr19F ?hq19F (Or.inr ⟨?hw19F, rfl⟩) (by assumption) ?rest19F
                    case oi0_19F =>
                      conv =>
                        lhs
                        whnf
                        arg 1
                        whnf
                    case hq19F => exact fun _ _ _ h => h
                    case ff19F => kernel_rfl
                    case rr19F => kernel_rfl
                    case hw19F => rfl
                    try simp only [Act.put, List.setIfInBounds_toArray, List.set_cons_zero, List.set_cons_succ]
                    refine wpAnyH_take (i := 20) (oi := ?oi20F) (v := undef) ?oi0_20F (by kernel_rfl) ?ff20F ?rr20F ?hq20F (Or.inr ⟨?hw20F, rfl⟩) (by assumption) ?rest20F
                    case oi0_20F =>
                      conv =>
                        lhs
                        whnf
                        arg 1
                        whnf
                    case hq20F => exact fun _ _ _ h => h
                    case ff20F => kernel_rfl
                    case rr20F => kernel_rfl
                    case hw20F => rfl
                    try simp only [Act.put, List.setIfInBounds_toArray, List.set_cons_zero, List.set_cons_succ]
                    refine wpAnyH_take (i := 21) (oi := ?oi21F) (v := undef) ?oi0_21F (by kernel_rfl) ?ff21F ?rr21F ?hq21F (Or.inr ⟨?hw21F, rfl⟩) (by assumption) ?rest21F
                    case oi0_21F =>
                      conv =>
                        lhs
                        whnf
                        arg 1
                        whnf
                    case hq21F => exact fun _ _ _ h => h
                    case ff21F => kernel_rfl
                    case rr21F => kernel_rfl
                    case hw21F => rfl
                    try simp only [Act.put, List.setIfInBounds_toArray, List.set_cons_zero, List.set_cons_succ]
                    refine wpAnyH_take (i := 22) (oi := ?oi22F) (v := undef) ?oi0_22F (by kernel_rfl) ?ff22F ?rr22F ?hq22F (Or.inr ⟨?hw22F, rfl⟩) (by assumption) ?rest22F
                    case oi0_22F =>
                      conv =>
                        lhs
                        whnf
                        arg 1
                        whnf
                    case hq22F => exact fun _ _ _ h => h
                    case ff22F => kernel_rfl
                    case rr22F => kernel_rfl
                    case hw22F => rfl
                    try simp only [Act.put, List.setIfInBounds_toArray, List.set_cons_zero, List.set_cons_succ]
                    refine wpAnyH_take (i := 23) (oi := ?oi23F) (v := undef) ?oi0_23F (by kernel_rfl) ?ff23F ?rr23F ?hq23F (Or.inr ⟨?hw23F, rfl⟩) (by assumption) ?rest23F
                    case oi0_23F =>
                      conv =>
                        lhs
                        whnf
                        arg 1
                        whnf
                    case hq23F => exact fun _ _ _ h => h
                    case ff23F => kernel_rfl
                    case rr23F => kernel_rfl
                    case hw23F => rfl
                    try simp only [Act.put, List.setIfInBounds_toArray, List.set_cons_zero, List.set_cons_succ]
                    refine wpAnyH_take (i := 24) (oi := ?oi24F) (v := undef) ?oi0_24F (by kernel_rfl) ?ff24F ?rr24F ?hq24F (Or.inr ⟨?hw24F, rfl⟩) (by assumption) ?rest24F
                    case oi0_24F =>
                      conv =>
                        lhs
                        whnf
                        arg 1
                        whnf
                    case hq24F => exact fun _ _ _ h => h
                    case ff24F => kernel_rfl
                    case rr24F => kernel_rfl
                    case hw24F => rfl
                    try simp only [Act.put, List.setIfInBounds_toArray, List.set_cons_zero, List.set_cons_succ]
                    refine wpAnyH_take (i := 25) (oi := ?oi25F) (v := undef) ?oi0_25F (by kernel_rfl) ?ff25F ?rr25F ?hq25F (Or.inr ⟨?hw25F, rfl⟩) (by assumption) ?rest25F
                    case oi0_25F =>
                      conv =>
                        lhs
                        whnf
                        arg 1
                        whnf
                    case hq25F => exact fun _ _ _ h => h
                    case ff25F => kernel_rfl
                    case rr25F => kernel_rfl
                    case hw25F => rfl
                    try simp only [Act.put, List.setIfInBounds_toArray, List.set_cons_zero, List.set_cons_succ]
                    refine wpAnyH_take (i := 26) (oi := ?oi26F) (v := undef) ?oi0_26F (by kernel_rfl) ?ff26F ?rr26F ?hq26F (Or.inr ⟨?hw26F, rfl⟩) (by assumption) ?rest26F
                    case oi0_26F =>
                      conv =>
                        lhs
                        whnf
                        arg 1
                        whnf
                    case hq26F => exact fun _ _ _ h => h
                    case ff26F => kernel_rfl
                    case rr26F => kernel_rfl
                    case hw26F => rfl
                    try simp only [Act.put, List.setIfInBounds_toArray, List.set_cons_zero, List.set_cons_succ]
                    refine wpAnyH_take (i := 27) (oi := ?oi27F) (v := undef) ?oi0_27F (by kernel_rfl) ?ff27F ?rr27F ?hq27F (Or.inr ⟨?hw27F, rfl⟩) (by assumption) ?rest27F
                    case oi0_27F =>
                      conv =>
                        lhs
                        whnf
                        arg 1
                        whnf
                    case hq27F => exact fun _ _ _ h => h
                    case ff27F => kernel_rfl
                    case rr27F => kernel_rfl
                    case hw27F => rfl
                    try simp only [Act.put, List.setIfInBounds_toArray, List.set_cons_zero, List.set_cons_succ]
                    refine wpAnyH_take (i := 28) (oi := ?oi28F) (v := ?v28F) ?oi0_28F (by kernel_rfl) ?ff28F ?rr28F ?hq28F (Or.inl ⟨?hw28F, ?hy28F⟩) (by assumption) ?rest28F
                    case oi0_28F =>
                      conv =>
                        lhs
                        whnf
                        arg 1
                        whnf
                    case hq28F => exact fun _ _ _ h => h
                    case ff28F => kernel_rfl
                    case rr28F => kernel_rfl
                    case hw28F => rfl
                    case hy28F =>
                      intro w hSw
                      (try dsimp only at hSw)
                      first
                      | (go_simp; done)
                      | (go_simp; with_reducible rfl)
                    try simp only [Act.put, List.setIfInBounds_toArray, List.set_cons_zero, List.set_cons_succ]
                    refine wpAnyH_take (i := 29) (oi := ?oi29F) (v := ?v29F) ?oi0_29F (by kernel_rfl) ?ff29F ?rr29F ?hq29F (Or.inl ⟨?hw29F, ?hy29F⟩) (by assumption) ?rest29F
                    case oi0_29F =>
                      conv =>
                        lhs
                        whnf
                        arg 1
                        whnf
                    case hq29F => exact fun _ _ _ h => h
                    case ff29F => kernel_rfl
                    case rr29F => kernel_rfl
                    case hw29F => rfl
                    case hy29F =>
                      intro w hSw
                      (try dsimp only at hSw)
                      first
                      | (go_simp; done)
                      | (go_simp; with_reducible rfl)
                    try simp only [Act.put, List.setIfInBounds_toArray, List.set_cons_zero, List.set_cons_succ]
                    refine wpAnyH_done (by kernel_rfl) ?_ _
                    go_wp2_with fail
                    go_roundw
                    case rel => exact ⟨1, by omega, by go_num, hv.out.drew⟩
                    case measure => simp [intOf] <;> omega
                  · obtain ⟨q, hq⟩ : ∃ q, q + 1 = j := ⟨j - 1, by omega⟩
                    obtain ⟨v, hvv⟩ : ∃ v, bs[q]? = some v := ⟨_, List.getElem?_eq_getElem (by have := HLB.out; omega)⟩
                    have hvy : ¬ jn ≤ v := by
                      have := prev_lt HSTR.out HYJ.out hq hvv
                      omega
                    have hvd : decide (jn ≤ v) = false := decide_eq_false hvy
                    have f3 := HYC.out q v hvv wq hv.out
                    have hw1 : IntKind.i64.wrap ((j : Int) - 1) = (q : Int) := by rw [Go.IntWalk.i64_in _ (by omega)]; omega
                    have hql : (q : Int) < lbs := by omega
                    have hj0' : 0 < (j : Int) := by omega
                    clear hq hvv
                    go_wp2_with fail
                    refine wp_region_held_drew (S := (fun w' => w'.cell? ⟨Bb, Bo + j, none⟩ = some (.int .i64 jn) ∧ w'.cell? ⟨Bb, Bo + q, none⟩ = some (.int .i64 v))) (by kernel_rfl) (by exact ⟨f0, f3⟩) (fun hHeld => ?_)
                    refine wpAnyH_take (i := 0) (oi := ?oi0G) (v := ?v0G) ?oi0_0G (by kernel_rfl) ?ff0G ?rr0G ?hq0G (Or.inl ⟨?hw0G, ?hy0G⟩) (by assumption) ?rest0G
                    case oi0_0G =>
                      conv =>
                        lhs
                        whnf
                        arg 1
                        whnf
                    case hq0G => exact fun _ _ _ h => h
                    case ff0G => kernel_rfl
                    case rr0G => kernel_rfl
                    case hw0G => rfl
                    case hy0G =>
                      intro w hSw
                      (try dsimp only at hSw)
                      first
                      | (go_simp; done)
                      | (go_simp; with_reducible rfl)
                    try simp only [Act.put, List.setIfInBounds_toArray, List.set_cons_zero, List.set_cons_succ]
                    refine wpAnyH_take (i := 1) (oi := ?oi1G) (v := ?v1G) ?oi0_1G (by kernel_rfl) ?ff1G ?rr1G ?hq1G (Or.inl ⟨?hw1G, ?hy1G⟩) (by assumption) ?rest1G
                    case oi0_1G =>
                      conv =>
                        lhs
                        whnf
                        arg 1
                        whnf
                    case hq1G => exact fun _ _ _ h => h
                    case ff1G => kernel_rfl
                    case rr1G => kernel_rfl
                    case hw1G => rfl
                    case hy1G =>
                      intro w hSw
                      (try dsimp only at hSw)
                      first
                      | (go_simp; done)
                      | (go_simp; with_reducible rfl)
                    try simp only [Act.put, List.setIfInBounds_toArray, List.set_cons_zero, List.set_cons_succ]
                    refine wpAnyH_take (i := 2) (oi := ?oi2G) (v := ?v2G) ?oi0_2G (by kernel_rfl) ?ff2G ?rr2G ?hq2G (Or.inl ⟨?hw2G, ?hy2G⟩) (by assumption) ?rest2G
                    case oi0_2G =>
                      conv =>
                        lhs
                        whnf
                        arg 1
                        whnf
                    case hq2G => exact fun _ _ _ h => h
                    case ff2G => kernel_rfl
                    case rr2G => kernel_rfl
                    case hw2G => rfl
                    case hy2G =>
                      intro w hSw
                      (try dsimp only at hSw)
                      first
                      | (go_simp; done)
                      | (go_simp; with_reducible rfl)
                    try simp only [Act.put, List.setIfInBounds_toArray, List.set_cons_zero, List.set_cons_succ]
                    refine wpAnyH_take (i := 3) (oi := ?oi3G) (v := ?v3G) ?oi0_3G (by kernel_rfl) ?ff3G ?rr3G ?hq3G (Or.inl ⟨?hw3G, ?hy3G⟩) (by assumption) ?rest3G
                    case oi0_3G =>
                      conv =>
                        lhs
                        whnf
                        arg 1
                        whnf
                    case hq3G => exact fun _ _ _ h => h
                    case ff3G => kernel_rfl
                    case rr3G => kernel_rfl
                    case hw3G => rfl
                    case hy3G =>
                      intro w hSw
                      (try dsimp only at hSw)
                      first
                      | (go_simp; done)
                      | (go_simp; with_reducible rfl)
                    try simp only [Act.put, List.setIfInBounds_toArray, List.set_cons_zero, List.set_cons_succ]
                    refine wpAnyH_take (i := 4) (oi := ?oi4G) (v := ?v4G) ?oi0_4G (by kernel_rfl) ?ff4G ?rr4G ?hq4G (Or.inl ⟨?hw4G, ?hy4G⟩) (by assumption) ?rest4G
                    case oi0_4G =>
                      conv =>
                        lhs
                        whnf
                        arg 1
                        whnf
                    case hq4G => exact fun _ _ _ h => h
                    case ff4G => kernel_rfl
                    case rr4G => kernel_rfl
                    case hw4G => rfl
                    case hy4G =>
                      intro w hSw
                      (try dsimp only at hSw)
                      first
                      | (go_simp; done)
                      | (go_simp; with_reducible rfl)
                    try simp only [Act.put, List.setIfInBounds_toArray, List.set_cons_zero, List.set_cons_succ]
                    refine wpAnyH_take (i := 5) (oi := ?oi5G) (v := ?v5G) ?oi0_5G (by kernel_rfl) ?ff5G ?rr5G ?hq5G (Or.inl ⟨?hw5G, ?hy5G⟩) (by assumption) ?rest5G
                    case oi0_5G =>
                      conv =>
                        lhs
                        whnf
                        arg 1
                        whnf
                    case hq5G => exact fun _ _ _ h => h
                    case ff5G => kernel_rfl
                    case rr5G => kernel_rfl
                    case hw5G => rfl
                    case hy5G =>
                      intro w hSw
                      (try dsimp only at hSw)
                      first
                      | (go_simp; done)
                      | (go_simp; with_reducible rfl)
                    try simp only [Act.put, List.setIfInBounds_toArray, List.set_cons_zero, List.set_cons_succ]
                    refine wpAnyH_take (i := 6) (oi := ?oi6G) (v := ?v6G) ?oi0_6G (by kernel_rfl) ?ff6G ?rr6G ?hq6G (Or.inl ⟨?hw6G, ?hy6G⟩) (by assumption) ?rest6G
                    case oi0_6G =>
                      conv =>
                        lhs
                        whnf
                        arg 1
                        whnf
                    case hq6G => exact fun _ _ _ h => h
                    case ff6G => kernel_rfl
                    case rr6G => kernel_rfl
                    case hw6G => rfl
                    case hy6G =>
                      intro w hSw
                      (try dsimp only at hSw)
                      first
                      | (go_simp; done)
                      | (go_simp; with_reducible rfl)
                    try simp only [Act.put, List.setIfInBounds_toArray, List.set_cons_zero, List.set_cons_succ]
                    refine wpAnyH_take (i := 7) (oi := ?oi7G) (v := ?v7G) ?oi0_7G (by kernel_rfl) ?ff7G ?rr7G ?hq7G (Or.inl ⟨?hw7G, ?hy7G⟩) (by assumption) ?rest7G
                    case oi0_7G =>
                      conv =>
                        lhs
                        whnf
                        arg 1
                        whnf
                    case hq7G => exact fun _ _ _ h => h
                    case ff7G => kernel_rfl
                    case rr7G => kernel_rfl
                    case hw7G => rfl
                    case hy7G =>
                      intro w hSw
                      (try dsimp only at hSw)
                      first
                      | (go_simp; done)
                      | (go_simp; with_reducible rfl)
                    try simp only [Act.put, List.setIfInBounds_toArray, List.set_cons_zero, List.set_cons_succ]
                    refine wpAnyH_take (i := 8) (oi := ?oi8G) (v := ?v8G) ?oi0_8G (by kernel_rfl) ?ff8G ?rr8G ?hq8G (Or.inl ⟨?hw8G, ?hy8G⟩) (by assumption) ?rest8G
                    case oi0_8G =>
                      conv =>
                        lhs
                        whnf
                        arg 1
                        whnf
                    case hq8G => exact fun _ _ _ h => h
                    case ff8G => kernel_rfl
                    case rr8G => kernel_rfl
                    case hw8G => rfl
                    case hy8G =>
                      intro w hSw
                      (try dsimp only at hSw)
                      first
                      | (go_simp; done)
                      | (go_simp; with_reducible rfl)
                    try simp only [Act.put, List.setIfInBounds_toArray, List.set_cons_zero, List.set_cons_succ]
                    refine wpAnyH_take (i := 9) (oi := ?oi9G) (v := ?v9G) ?oi0_9G (by kernel_rfl) ?ff9G ?rr9G ?hq9G (Or.inl ⟨?hw9G, ?hy9G⟩) (by assumption) ?rest9G
                    case oi0_9G =>
                      conv =>
                        lhs
                        whnf
                        arg 1
                        whnf
                    case hq9G => exact fun _ _ _ h => h
                    case ff9G => kernel_rfl
                    case rr9G => kernel_rfl
                    case hw9G => rfl
                    case hy9G =>
                      intro w hSw
                      (try dsimp only at hSw)
                      first
                      | (go_simp; done)
                      | (go_simp; with_reducible rfl)
                    try simp only [Act.put, List.setIfInBounds_toArray, List.set_cons_zero, List.set_cons_succ]
                    refine wpAnyH_take (i := 10) (oi := ?oi10G) (v := ?v10G) ?oi0_10G (by kernel_rfl) ?ff10G ?rr10G ?hq10G (Or.inl ⟨?hw10G, ?hy10G⟩) (by assumption) ?rest10G
                    case oi0_10G =>
                      conv =>
                        lhs
                        whnf
                        arg 1
                        whnf
                    case hq10G => exact fun _ _ _ h => h
                    case ff10G => kernel_rfl
                    case rr10G => kernel_rfl
                    case hw10G => rfl
                    case hy10G =>
                      intro w hSw
                      (try dsimp only at hSw)
                      first
                      | (go_simp; done)
                      | (go_simp; with_reducible rfl)
                    try simp only [Act.put, List.setIfInBounds_toArray, List.set_cons_zero, List.set_cons_succ]
                    refine wpAnyH_take (i := 11) (oi := ?oi11G) (v := ?v11G) ?oi0_11G (by kernel_rfl) ?ff11G ?rr11G ?hq11G (Or.inl ⟨?hw11G, ?hy11G⟩) (by assumption) ?rest11G
                    case oi0_11G =>
                      conv =>
                        lhs
                        whnf
                        arg 1
                        whnf
                    case hq11G => exact fun _ _ _ h => h
                    case ff11G => kernel_rfl
                    case rr11G => kernel_rfl
                    case hw11G => rfl
                    case hy11G =>
                      intro w hSw
                      (try dsimp only at hSw)
                      first
                      | (go_simp; done)
                      | (go_simp; with_reducible rfl)
                    try simp only [Act.put, List.setIfInBounds_toArray, List.set_cons_zero, List.set_cons_succ]
                    refine wpAnyH_take (i := 12) (oi := ?oi12G) (v := ?v12G) ?oi0_12G (by kernel_rfl) ?ff12G ?rr12G ?hq12G (Or.inl ⟨?hw12G, ?hy12G⟩) (by assumption) ?rest12G
                    case oi0_12G =>
                      conv =>
                        lhs
                        whnf
                        arg 1
                        whnf
                    case hq12G => exact fun _ _ _ h => h
                    case ff12G => kernel_rfl
                    case rr12G => kernel_rfl
                    case hw12G => rfl
                    case hy12G =>
                      intro w hSw
                      (try dsimp only at hSw)
                      first
                      | (go_simp; done)
                      | (go_simp; with_reducible rfl)
                    try simp only [Act.put, List.setIfInBounds_toArray, List.set_cons_zero, List.set_cons_succ]
                    refine wpAnyH_take (i := 13) (oi := ?oi13G) (v := ?v13G) ?oi0_13G (by kernel_rfl) ?ff13G ?rr13G ?hq13G (Or.inl ⟨?hw13G, ?hy13G⟩) (by assumption) ?rest13G
                    case oi0_13G =>
                      conv =>
                        lhs
                        whnf
                        arg 1
                        whnf
                    case hq13G => exact fun _ _ _ h => h
                    case ff13G => kernel_rfl
                    case rr13G => kernel_rfl
                    case hw13G => rfl
                    case hy13G =>
                      intro w hSw
                      (try dsimp only at hSw)
                      first
                      | (go_simp; done)
                      | (go_simp; with_reducible rfl)
                    try simp only [Act.put, List.setIfInBounds_toArray, List.set_cons_zero, List.set_cons_succ]
                    refine wpAnyH_take (i := 14) (oi := ?oi14G) (v := ?v14G) ?oi0_14G (by kernel_rfl) ?ff14G ?rr14G ?hq14G (Or.inl ⟨?hw14G, ?hy14G⟩) (by assumption) ?rest14G
                    case oi0_14G =>
                      conv =>
                        lhs
                        whnf
                        arg 1
                        whnf
                    case hq14G => exact fun _ _ _ h => h
                    case ff14G => kernel_rfl
                    case rr14G => kernel_rfl
                    case hw14G => rfl
                    case hy14G =>
                      intro w hSw
                      (try dsimp only at hSw)
                      first
                      | (go_simp; done)
                      | (go_simp; with_reducible rfl)
                    try simp only [Act.put, List.setIfInBounds_toArray, List.set_cons_zero, List.set_cons_succ]
                    refine wpAnyH_take (i := 15) (oi := ?oi15G) (v := ?v15G) ?oi0_15G (by kernel_rfl) ?ff15G ?rr15G ?hq15G (Or.inl ⟨?hw15G, ?hy15G⟩) (by assumption) ?rest15G
                    case oi0_15G =>
                      conv =>
                        lhs
                        whnf
                        arg 1
                        whnf
                    case hq15G => exact fun _ _ _ h => h
                    case ff15G => kernel_rfl
                    case rr15G => kernel_rfl
                    case hw15G => rfl
                    case hy15G =>
                      intro w hSw
                      (try dsimp only at hSw)
                      first
                      | (go_simp; done)
                      | (go_simp; with_reducible rfl)
                    try simp only [Act.put, List.setIfInBounds_toArray, List.set_cons_zero, List.set_cons_succ]
                    refine wpAnyH_take (i := 16) (oi := ?oi16G) (v := ?v16G) ?oi0_16G (by kernel_rfl) ?ff16G ?rr16G ?hq16G (Or.inl ⟨?hw16G, ?hy16G⟩) (by assumption) ?rest16G
                    case oi0_16G =>
                      conv =>
                        lhs
                        whnf
                        arg 1
                        whnf
                    case hq16G => exact fun _ _ _ h => h
                    case ff16G => kernel_rfl
                    case rr16G => kernel_rfl
                    case hw16G => rfl
                    case hy16G =>
                      intro w hSw
                      (try dsimp only at hSw)
                      first
                      | (go_simp; done)
                      | (go_simp; with_reducible rfl)
                    try simp only [Act.put, List.setIfInBounds_toArray, List.set_cons_zero, List.set_cons_succ]
                    refine wpAnyH_take (i := 17) (oi := ?oi17G) (v := ?v17G) ?oi0_17G (by kernel_rfl) ?ff17G ?rr17G ?hq17G (Or.inl ⟨?hw17G, ?hy17G⟩) (by assumption) ?rest17G
                    case oi0_17G =>
                      conv =>
                        lhs
                        whnf
                        arg 1
                        whnf
                    case hq17G => exact fun _ _ _ h => h
                    case ff17G => kernel_rfl
                    case rr17G => kernel_rfl
                    case hw17G => rfl
                    case hy17G =>
                      intro w hSw
                      (try dsimp only at hSw)
                      first
                      | (go_simp; done)
                      | (go_simp; with_reducible rfl)
                    try simp only [Act.put, List.setIfInBounds_toArray, List.set_cons_zero, List.set_cons_succ]
                    refine wpAnyH_take (i := 18) (oi := ?oi18G) (v := ?v18G) ?oi0_18G (by kernel_rfl) ?ff18G ?rr18G ?hq18G (Or.inl ⟨?hw18G, ?hy18G⟩) (by assumption) ?rest18G
                    case oi0_18G =>
                      conv =>
                        lhs
                        whnf
                        arg 1
                        whnf
                    case hq18G => exact fun _ _ _ h => h
                    case ff18G => kernel_rfl
                    case rr18G => kernel_rfl
                    case hw18G => rfl
                    case hy18G =>
                      intro w hSw
                      (try dsimp only at hSw)
                      first
                      | (go_simp; done)
                      | (go_simp; with_reducible rfl)
                    try simp only [Act.put, List.setIfInBounds_toArray, List.set_cons_zero, List.set_cons_succ]
                    refine wpAnyH_take (i := 19) (oi := ?oi19G) (v := ?v19G) ?oi0_19G (by kernel_rfl) ?ff19G ?rr19G ?hq19G (Or.inl ⟨?hw19G, ?hy19G⟩) (by assumption) ?rest19G
                    case oi0_19G =>
                      conv =>
                        lhs
                        whnf
                        arg 1
                        whnf
                    case hq19G => exact fun _ _ _ h => h
                    case ff19G => kernel_rfl
                    case rr19G => kernel_rfl
                    case hw19G => rfl
                    case hy19G =>
                      intro w hSw
                      (try dsimp only at hSw)
                      first
                      | (go_simp; done)
                      | (go_simp; with_reducible rfl)
                    try simp only [Act.put, List.setIfInBounds_toArray, List.set_cons_zero, List.set_cons_succ]
                    refine wpAnyH_take (i := 20) (oi := ?oi20G) (v := ?v20G) ?oi0_20G (by kernel_rfl) ?ff20G ?rr20G ?hq20G (Or.inl ⟨?hw20G, ?hy20G⟩) (by assumption) ?rest20G
                    case oi0_20G =>
                      conv =>
                        lhs
                        whnf
                        arg 1
                        whnf
                    case hq20G => exact fun _ _ _ h => h
                    case ff20G => kernel_rfl
                    case rr20G => kernel_rfl
                    case hw20G => rfl
                    case hy20G =>
                      intro w hSw
                      (try dsimp only at hSw)
                      first
                      | (go_simp; done)
                      | (go_simp; with_reducible rfl)
                    try simp only [Act.put, List.setIfInBounds_toArray, List.set_cons_zero, List.set_cons_succ]
                    refine wpAnyH_take (i := 21) (oi := ?oi21G) (v := ?v21G) ?oi0_21G (by kernel_rfl) ?ff21G ?rr21G ?hq21G (Or.inl ⟨?hw21G, ?hy21G⟩) (by assumption) ?rest21G
                    case oi0_21G =>
                      conv =>
                        lhs
                        whnf
                        arg 1
                        whnf
                    case hq21G => exact fun _ _ _ h => h
                    case ff21G => kernel_rfl
                    case rr21G => kernel_rfl
                    case hw21G => rfl
                    case hy21G =>
                      intro w hSw
                      (try dsimp only at hSw)
                      first
                      | (go_simp; done)
                      | (go_simp; with_reducible rfl)
                    try simp only [Act.put, List.setIfInBounds_toArray, List.set_cons_zero, List.set_cons_succ]
                    refine wpAnyH_take (i := 22) (oi := ?oi22G) (v := ?v22G) ?oi0_22G (by kernel_rfl) ?ff22G ?rr22G ?hq22G (Or.inl ⟨?hw22G, ?hy22G⟩) (by assumption) ?rest22G
                    case oi0_22G =>
                      conv =>
                        lhs
                        whnf
                        arg 1
                        whnf
                    case hq22G => exact fun _ _ _ h => h
                    case ff22G => kernel_rfl
                    case rr22G => kernel_rfl
                    case hw22G => rfl
                    case hy22G =>
                      intro w hSw
                      (try dsimp only at hSw)
                      first
                      | (go_simp; done)
                      | (go_simp; with_reducible rfl)
                    try simp only [Act.put, List.setIfInBounds_toArray, List.set_cons_zero, List.set_cons_succ]
                    refine wpAnyH_take (i := 23) (oi := ?oi23G) (v := ?v23G) ?oi0_23G (by kernel_rfl) ?ff23G ?rr23G ?hq23G (Or.inl ⟨?hw23G, ?hy23G⟩) (by assumption) ?rest23G
                    case oi0_23G =>
                      conv =>
                        lhs
                        whnf
                        arg 1
                        whnf
                    case hq23G => exact fun _ _ _ h => h
                    case ff23G => kernel_rfl
                    case rr23G => kernel_rfl
                    case hw23G => rfl
                    case hy23G =>
                      intro w hSw
                      (try dsimp only at hSw)
                      first
                      | (go_simp; done)
                      | (go_simp; with_reducible rfl)
                    try simp only [Act.put, List.setIfInBounds_toArray, List.set_cons_zero, List.set_cons_succ]
                    refine wpAnyH_take (i := 24) (oi := ?oi24G) (v := ?v24G) ?oi0_24G (by kernel_rfl) ?ff24G ?rr24G ?hq24G (Or.inl ⟨?hw24G, ?hy24G⟩) (by assumption) ?rest24G
                    case oi0_24G =>
                      conv =>
                        lhs
                        whnf
                        arg 1
                        whnf
                    case hq24G => exact fun _ _ _ h => h
                    case ff24G => kernel_rfl
                    case rr24G => kernel_rfl
                    case hw24G => rfl
                    case hy24G =>
                      intro w hSw
                      (try dsimp only at hSw)
                      first
                      | (go_simp; done)
                      | (go_simp; with_reducible rfl)
                    try simp only [Act.put, List.setIfInBounds_toArray, List.set_cons_zero, List.set_cons_succ]
                    refine wpAnyH_take (i := 25) (oi := ?oi25G) (v := ?v25G) ?oi0_25G (by kernel_rfl) ?ff25G ?rr25G ?hq25G (Or.inl ⟨?hw25G, ?hy25G⟩) (by assumption) ?rest25G
                    case oi0_25G =>
                      conv =>
                        lhs
                        whnf
                        arg 1
                        whnf
                    case hq25G => exact fun _ _ _ h => h
                    case ff25G => kernel_rfl
                    case rr25G => kernel_rfl
                    case hw25G => rfl
                    case hy25G =>
                      intro w hSw
                      (try dsimp only at hSw)
                      first
                      | (go_simp; done)
                      | (go_simp; with_reducible rfl)
                    try simp only [Act.put, List.setIfInBounds_toArray, List.set_cons_zero, List.set_cons_succ]
                    refine wpAnyH_take (i := 26) (oi := ?oi26G) (v := ?v26G) ?oi0_26G (by kernel_rfl) ?ff26G ?rr26G ?hq26G (Or.inl ⟨?hw26G, ?hy26G⟩) (by assumption) ?rest26G
                    case oi0_26G =>
                      conv =>
                        lhs
                        whnf
                        arg 1
                        whnf
                    case hq26G => exact fun _ _ _ h => h
                    case ff26G => kernel_rfl
                    case rr26G => kernel_rfl
                    case hw26G => rfl
                    case hy26G =>
                      intro w hSw
                      (try dsimp only at hSw)
                      first
                      | (go_simp; done)
                      | (go_simp; with_reducible rfl)
                    try simp only [Act.put, List.setIfInBounds_toArray, List.set_cons_zero, List.set_cons_succ]
                    refine wpAnyH_take (i := 27) (oi := ?oi27G) (v := ?v27G) ?oi0_27G (by kernel_rfl) ?ff27G ?rr27G ?hq27G (Or.inl ⟨?hw27G, ?hy27G⟩) (by assumption) ?rest27G
                    case oi0_27G =>
                      conv =>
                        lhs
                        whnf
                        arg 1
                        whnf
                    case hq27G => exact fun _ _ _ h => h
                    case ff27G => kernel_rfl
                    case rr27G => kernel_rfl
                    case hw27G => rfl
                    case hy27G =>
                      intro w hSw
                      (try dsimp only at hSw)
                      first
                      | (go_simp; done)
                      | (go_simp; with_reducible rfl)
                    try simp only [Act.put, List.setIfInBounds_toArray, List.set_cons_zero, List.set_cons_succ]
                    refine wpAnyH_take (i := 28) (oi := ?oi28G) (v := ?v28G) ?oi0_28G (by kernel_rfl) ?ff28G ?rr28G ?hq28G (Or.inl ⟨?hw28G, ?hy28G⟩) (by assumption) ?rest28G
                    case oi0_28G =>
                      conv =>
                        lhs
                        whnf
                        arg 1
                        whnf
                    case hq28G => exact fun _ _ _ h => h
                    case ff28G => kernel_rfl
                    case rr28G => kernel_rfl
                    case hw28G => rfl
                    case hy28G =>
                      intro w hSw
                      (try dsimp only at hSw)
                      first
                      | (go_simp; done)
                      | (go_simp; with_reducible rfl)
                    try simp only [Act.put, List.setIfInBounds_toArray, List.set_cons_zero, List.set_cons_succ]
                    refine wpAnyH_take (i := 29) (oi := ?oi29G) (v := ?v29G) ?oi0_29G (by kernel_rfl) ?ff29G ?rr29G ?hq29G (Or.inl ⟨?hw29G, ?hy29G⟩) (by assumption) ?rest29G
                    case oi0_29G =>
                      conv =>
                        lhs
                        whnf
                        arg 1
                        whnf
                    case hq29G => exact fun _ _ _ h => h
                    case ff29G => kernel_rfl
                    case rr29G => kernel_rfl
                    case hw29G => rfl
                    case hy29G =>
                      intro w hSw
                      (try dsimp only at hSw)
                      first
                      | (go_simp; done)
                      | (go_simp; with_reducible rfl)
                    try simp only [Act.put, List.setIfInBounds_toArray, List.set_cons_zero, List.set_cons_succ]
                    refine wpAnyH_done (by kernel_rfl) ?_ _
                    go_wp2_with fail
                    go_roundw
                    case rel => exact ⟨j + 1, by omega, by go_num, hv.out.drew⟩
                    case measure => simp [intOf] <;> omega
          · have hjl : ¬ (j : Int) < lbs := by omega
            go_wp2_with fail
            go_ret
            exact ⟨rfl, ((U1.out.trans U24.out (by simp)).trans hu.out (by simp)).toBelow (Nat.le_refl _) (by simp)⟩
end Go.Proofs.Yteehjciepccomaa
