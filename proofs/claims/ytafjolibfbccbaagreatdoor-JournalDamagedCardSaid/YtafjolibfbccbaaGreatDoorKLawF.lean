/-
  The small functions of the journal's laws: pick, size, few, same, content.
-/
import Derived.Test.YtafjolibfbccbaaGreatDoorKIn
import Derived.Test.YtafjolibfbccbaaGreatDoorFArgs
import Derived.Deep.RegionHeld3
import Derived.OpenShut
namespace Go.Proofs.YtafjolibfbccbaaGreatDoor
open Go.RowKit
set_option maxRecDepth 100000
set_option maxHeartbeats 4000000

theorem step_append_base {P : Program} {ops : Array Oper} {w : World} {o : Oper} {a : Act} {K : Act → World → Prop} {Q : Exit → Act → World → Prop} {E : Prop} (hgd : o.guard = none) (s x : Operand) (t : TypeId)
    (ho : o.op = .call { callee := .builtin .append, args := #[s, x], argTypes := #[t, t] })
    (base : Nat) (e : TypeId) (z : Value) (size bytes : Nat) (ht : P.underlying t = some (.slice e)) (hinfo : (P.info? e).map (fun i => (i.zero, i.size, i.bytes)) = some (some z, size, bytes)) (hzs : z.cells.size = size) (hsz : 0 < size)
    (A : Option Addr) (n c : Nat) (xs : List Value) (hs : a.eval s = .slice A n c) (hown : w.ownsRow base e size (.slice A n c) n xs)
    (ad : Addr) (m cc : Nat) (news : List Value) (hx : a.eval x = .slice (some ad) m cc) (hl : news.length = m * size) (hnews : ∀ j u, news[j]? = some u → w.cell? (ad.add j) = some u) (h1 : ∀ u ∈ news, u.oneCell' = true)
    (h63 : n + m ≤ maxLen) (hbytes : (n + m) * bytes ≤ 140737488355328) (hbase : base ≤ w.heap.size)
    (h : ∀ A' c' w', w'.ownsRow base e size (.slice A' (n + m) c') (n + m) (xs ++ news) → Upd (A.map (·.block)).toList w w' → K (a.put o.dst (.slice A' (n + m) c')) w') :
    if Region.wanted o (yielded ops a.tmps) = true then Oper.wp P o a w K Q else E := by
  have hw : Region.wanted o (yielded ops a.tmps) = true := by simp [Region.wanted, hgd]
  rw [if_pos hw]
  obtain ⟨i, hi, hz, hs1, hb1⟩ := info_parts hinfo
  obtain ⟨v', w', hr, h2, h3, _, h5⟩ := run_append_own_at (P := P) w base t o.type e i z size bytes ht hi hz hs1 hb1 hzs hsz _ n xs hown ad m cc news hl hnews h1 h63 hbytes hbase
  unfold Oper.wp execOp
  simp only [ho, resolve, invoke, builtin, Sem.run_bind, Sem.run_pure, Result.andThen_ok, List.map_toArray, List.map_cons, List.map_nil, hs, hx, hr]
  obtain ⟨A', c', rfl⟩ : ∃ A' c', v' = .slice A' (n + m) c' := by
    rcases h2.2 with ⟨hv, h0⟩ | ⟨g, cap, cur, hv, _⟩
    · exact ⟨none, 0, by rw [h0]; exact hv⟩
    · exact ⟨_, _, hv⟩
  rw [ownBlock_slice] at h3
  exact h _ _ w' h2 ((Upd.refl _ w).grown h3 (fun k hk => .inl (by rw [hk]; simp)))
def pickN (c n : Int) : Int := (if c < 0 then -(c + 1) else c) % n
theorem pickN_lt (c : Int) {n : Int} (hn : 0 < n) : 0 ≤ pickN c n ∧ pickN c n < n := ⟨Int.emod_nonneg _ (by omega), Int.emod_lt_of_pos _ hn⟩
theorem pick_any (c n : Int) (w : World) (hc : (Lit.int .i64 c).wf = true) (h0 : 0 < n) (_h1 : n ≤ 9223372036854775807) :
    Calls Tryz.prog 14 #[.int .i64 c, .int .i64 n] w fun e w' => e = .returned (.int .i64 (pickN c n)) ∧ w = w' := by
  have hb : -9223372036854775808 ≤ c ∧ c ≤ 9223372036854775807 := bounds_i64 hc
  by_cases h : c < 0
  · have e : pickN c n = (-(c + 1)) % n := by simp [pickN, h]
    have H := hide e
    obtain ⟨b1, b2⟩ := hb
    clear e hc
    go_enter Tryz.func14, Tryz.ntmps14
    go_wp2
    go_ret
    refine ⟨?_, rfl⟩
    rw [H.out, ← Int.tmod_eq_emod_of_nonneg (show 0 ≤ -(c + 1) by omega), Int.neg_tmod]
    rfl
  · have e : pickN c n = c % n := by simp [pickN, h]
    have H := hide e
    obtain ⟨b1, b2⟩ := hb
    clear e hc
    go_enter Tryz.func14, Tryz.ntmps14
    go_wp2
    go_ret
    exact ⟨by rw [H.out]; rfl, rfl⟩
/-- The size of a law's disk. -/
def sizeS (n : Int) : Nat := 1 + (pickN n 1500).toNat
theorem sizeS_in (n : Int) : 1 ≤ sizeS n ∧ sizeS n ≤ 1500 := by
  have := pickN_lt n (n := 1500) (by omega)
  unfold sizeS; omega
theorem size_law (n : Int) (w : World) (hc : (Lit.int .i64 n).wf = true) : Calls Tryz.prog 15 #[.int .i64 n] w fun e w' => e = .returned (.int .i64 (sizeS n : Int)) ∧ w = w' := by
  have hp := pickN_lt n (n := 1500) (by omega)
  have HP := hide (pick_any n 1500 w hc (by omega) (by omega))
  have HE := hide (show ((sizeS n : Nat) : Int) = 1 + pickN n 1500 by unfold sizeS; omega)
  obtain ⟨z, hz⟩ : ∃ z, pickN n 1500 = z := ⟨_, rfl⟩
  rw [hz] at hp HP HE
  have hzw : IntKind.i64.wrap (1 + z) = 1 + z := Go.IntWalk.i64_in _ (by omega)
  clear hc hz
  go_enter Tryz.func15, Tryz.ntmps15
  go_wp2_with fail
  refine HP.out.mono ?_
  rintro e w' ⟨rfl, rfl⟩
  go_wp2_with fail
  go_ret
  exact ⟨by rw [HE.out]; rfl, rfl⟩
/-- At most 6 strings, cut to 100 bytes. -/
def fewS (l : List ByteArray) : List (List UInt8) := (l.take 6).map fun s => s.data.toList.take 100
theorem few_any (la : Option Addr) (n lc : Nat) (l : List ByteArray) (w : World) (hl : l.length = n) (hS : StrsAt w la l) (hb : ∀ s ∈ l, s.size ≤ maxLen) (hn : n ≤ maxLen) :
    Calls Tryz.prog 11 #[.slice la n lc] w fun e w' => ∃ A c, e = .returned (.slice A (fewS l).length c) ∧ w'.ownsRow w.heap.size 9 1 (.slice A (fewS l).length c) (fewS l).length ((fewS l).map strV) ∧ Upd [] w w' := by
  unfold maxLen at hb hn
  have HL := hide hl
  have HS := hide hS
  have HB := hide hb
  clear hl hS hb
  go_enter Tryz.func11, Tryz.ntmps11
  go_wp2_with fail
  go_loopw [3, 4] (fun s3 s4 wr => ∃ (k : Nat) (A : Option Addr) (c : Nat), k ≤ n ∧ k ≤ 6 ∧ s4 = .int .i64 k ∧ s3 = .slice A k c ∧ Hid (wr.ownsRow w.heap.size 9 1 (.slice A k c) k ((fewS (l.take k)).map strV)) ∧ Hid (Upd [] w wr)) (fun _ s4 _ => 6 - (intOf s4).toNat)
  case atStart => exact ⟨0, none, 0, Nat.zero_le _, Nat.zero_le _, rfl, rfl, hide (by rw [List.take_zero]; exact World.ownsRow_nil _ _ _ _), hide (Upd.refl _ _)⟩
  case round =>
    obtain ⟨k, A, c, hk, hk6, rfl, rfl, hO, hU⟩ := hrel
    obtain ⟨wo, rfl⟩ : ∃ x : World, x = wr := ⟨_, rfl⟩
    by_cases hkn : k < n
    case neg =>
      obtain rfl : k = n := by omega
      have hki : ¬ (k : Int) < k := by omega
      have HF := hide (show fewS (l.take k) = fewS l by rw [List.take_of_length_le (by rw [HL.out]; exact Nat.le_refl _)])
      go_wp2_with fail
      go_ret
      rw [HF.out] at hO
      have e : (fewS l).length = k := by unfold fewS; rw [List.length_map, List.length_take, HL.out]; omega
      exact ⟨A, c, by rw [e]; rfl, by rw [e]; exact hO.out, hU.out⟩
    have hki : (k : Int) < n := by omega
    by_cases hk5 : k < 6
    case neg =>
      obtain rfl : k = 6 := by omega
      have hki2 : ¬ (((6 : Nat) : Int)) < 6 := by omega
      have HF := hide (show fewS (l.take 6) = fewS l by unfold fewS; rw [List.take_take]; rfl)
      go_wp2_with fail
      go_ret
      rw [HF.out] at hO
      have e : (fewS l).length = 6 := by unfold fewS; rw [List.length_map, List.length_take, HL.out]; omega
      exact ⟨A, c, by rw [e]; rfl, by rw [e]; exact hO.out, hU.out⟩
    have hki2 : (k : Int) < 6 := by omega
    have hkw : IntKind.i64.wrap ((k : Int) + 1) = (k : Int) + 1 := Go.IntWalk.i64_in _ (by omega)
    obtain ⟨r, hr⟩ : ∃ r, l[k]? = some r := ⟨_, List.getElem?_eq_getElem (by have := HL.out; omega)⟩
    obtain ⟨lb, lo, rfl, hc⟩ := HS.out k r hr
    have hrc : wo.cell? ⟨lb, lo + k, none⟩ = some (.string r) := keepc _ _ _ _ hU.out hc
    have hrs := HB.out r (List.mem_of_getElem? hr)
    obtain ⟨sz, hsz⟩ : ∃ x, r.size = x := ⟨_, rfl⟩
    obtain ⟨q, hq⟩ : ∃ x, min sz 100 = x := ⟨_, rfl⟩
    have hmn : min (sz : Int) 100 = (q : Int) := by omega
    have hsh := fun W => slice_str_h (P := Tryz.prog) W Tryz.underlying9 r (bs := r.data.toList) rfl q (by omega) (q : Int) rfl
    obtain ⟨rb, hrb⟩ : ∃ x : ByteArray, ⟨(r.data.toList.take q).toArray⟩ = x := ⟨_, rfl⟩
    rw [hrb] at hsh
    have HFK := hide (show (fewS (l.take (k + 1))).map strV = (fewS (l.take k)).map strV ++ [.string rb] by
      have e : fewS (l.take (k + 1)) = fewS (l.take k) ++ [r.data.toList.take 100] := by
        unfold fewS
        rw [List.take_take, List.take_take, Nat.min_eq_right (by omega), Nat.min_eq_right (by omega), List.take_add_one, hr]
        simp
      have e2 : r.data.toList.take 100 = r.data.toList.take q := by
        rw [← hq]
        have : r.data.toList.length = sz := by rw [← hsz]; exact Lib.size_eq r ▸ rfl
        rw [← this]
        exact List.take_eq_take_iff.2 (by omega)
      rw [e, List.map_append, List.map_singleton, e2]
      unfold strV
      rw [hrb])
    have HLB := hide (World.block_lt_of_cell? _ _ hc)
    have hs0 : w.heap.size ≤ wo.heap.size := hU.out.size
    have HS0 := hide hs0
    clear hr hc hq hrb hs0
    go_upto_region 5 with fail
    refine wp_region_held_drew (S := (fun w' => w'.cell? ⟨lb, lo + k, none⟩ = some (.string r))) (by kernel_rfl) (by exact hrc) (fun hHeld => ?_)
    clear hrc
    obtain ⟨wd, hw⟩ : ∃ x, wo.drew = x := ⟨_, rfl⟩
    have u : Upd [] wo wd := by rw [← hw]; exact (Upd.refl [] _).drew
    rw [hw] at hHeld ⊢
    have HO1 := hide (own_kept hO.out u (by simp))
    have HU1 := hide (hU.out.trans u (by simp))
    clear hw u
    refine wpAnyH_take (i := 0) (oi := ?oi0M2) (v := ?v0M2) ?oi0_0M2 (by kernel_rfl) ?ff0M2 ?rr0M2 ?hq0M2 (Or.inl ⟨?hw0M2, ?hy0M2⟩) (by assumption) ?rest0M2
    case oi0_0M2 =>
      conv =>
        lhs
        whnf
        arg 1
        whnf
    case hq0M2 => exact fun _ _ _ h => h
    case ff0M2 => kernel_rfl
    case rr0M2 => kernel_rfl
    case hw0M2 => rfl
    case hy0M2 =>
      intro w hSw
      (try dsimp only at hSw)
      first
      | (go_simp; done)
      | (go_simp; with_reducible rfl)
    try simp only [Act.put, List.setIfInBounds_toArray, List.set_cons_zero, List.set_cons_succ]
    refine wpAnyH_take (i := 1) (oi := ?oi1M2) (v := ?v1M2) ?oi0_1M2 (by kernel_rfl) ?ff1M2 ?rr1M2 ?hq1M2 (Or.inl ⟨?hw1M2, ?hy1M2⟩) (by assumption) ?rest1M2
    case oi0_1M2 =>
      conv =>
        lhs
        whnf
        arg 1
        whnf
    case hq1M2 => exact fun _ _ _ h => h
    case ff1M2 => kernel_rfl
    case rr1M2 => kernel_rfl
    case hw1M2 => rfl
    case hy1M2 =>
      intro w hSw
      (try dsimp only at hSw)
      first
      | (go_simp; done)
      | (go_simp; with_reducible rfl)
    try simp only [Act.put, List.setIfInBounds_toArray, List.set_cons_zero, List.set_cons_succ]
    refine wpAnyH_take (i := 2) (oi := ?oi2M2) (v := ?v2M2) ?oi0_2M2 (by kernel_rfl) ?ff2M2 ?rr2M2 ?hq2M2 (Or.inl ⟨?hw2M2, ?hy2M2⟩) (by assumption) ?rest2M2
    case oi0_2M2 =>
      conv =>
        lhs
        whnf
        arg 1
        whnf
    case hq2M2 => exact fun _ _ _ h => h
    case ff2M2 => kernel_rfl
    case rr2M2 => kernel_rfl
    case hw2M2 => rfl
    case hy2M2 =>
      intro w hSw
      (try dsimp only at hSw)
      first
      | (go_simp; done)
      | (go_simp; with_reducible rfl)
    try simp only [Act.put, List.setIfInBounds_toArray, List.set_cons_zero, List.set_cons_succ]
    refine wpAnyH_take (i := 3) (oi := ?oi3M2) (v := ?v3M2) ?oi0_3M2 (by kernel_rfl) ?ff3M2 ?rr3M2 ?hq3M2 (Or.inl ⟨?hw3M2, ?hy3M2⟩) (by assumption) ?rest3M2
    case oi0_3M2 =>
      conv =>
        lhs
        whnf
        arg 1
        whnf
    case hq3M2 => exact fun _ _ _ h => h
    case ff3M2 => kernel_rfl
    case rr3M2 => kernel_rfl
    case hw3M2 => rfl
    case hy3M2 =>
      intro w hSw
      (try dsimp only at hSw)
      first
      | (go_simp; done)
      | (go_simp; with_reducible rfl)
    try simp only [Act.put, List.setIfInBounds_toArray, List.set_cons_zero, List.set_cons_succ]
    refine wpAnyH_take (i := 4) (oi := ?oi4M2) (v := ?v4M2) ?oi0_4M2 (by kernel_rfl) ?ff4M2 ?rr4M2 ?hq4M2 (Or.inl ⟨?hw4M2, ?hy4M2⟩) (by assumption) ?rest4M2
    case oi0_4M2 =>
      conv =>
        lhs
        whnf
        arg 1
        whnf
    case hq4M2 => exact fun _ _ _ h => h
    case ff4M2 => kernel_rfl
    case rr4M2 => kernel_rfl
    case hw4M2 => rfl
    case hy4M2 =>
      intro w hSw
      (try dsimp only at hSw)
      first
      | (go_simp; done)
      | (go_simp; with_reducible rfl)
    try simp only [Act.put, List.setIfInBounds_toArray, List.set_cons_zero, List.set_cons_succ]
    refine wpAnyH_take (i := 5) (oi := ?oi5M2) (v := ?v5M2) ?oi0_5M2 (by kernel_rfl) ?ff5M2 ?rr5M2 ?hq5M2 (Or.inl ⟨?hw5M2, ?hy5M2⟩) (by assumption) ?rest5M2
    case oi0_5M2 =>
      conv =>
        lhs
        whnf
        arg 1
        whnf
    case hq5M2 => exact fun _ _ _ h => h
    case ff5M2 => kernel_rfl
    case rr5M2 => kernel_rfl
    case hw5M2 => rfl
    case hy5M2 =>
      intro w hSw
      (try dsimp only at hSw)
      first
      | (go_simp; done)
      | (go_simp; with_reducible rfl)
    try simp only [Act.put, List.setIfInBounds_toArray, List.set_cons_zero, List.set_cons_succ]
    refine wpAnyH_take (i := 6) (oi := ?oi6M2) (v := ?v6M2) ?oi0_6M2 (by kernel_rfl) ?ff6M2 ?rr6M2 ?hq6M2 (Or.inl ⟨?hw6M2, ?hy6M2⟩) (by assumption) ?rest6M2
    case oi0_6M2 =>
      conv =>
        lhs
        whnf
        arg 1
        whnf
    case hq6M2 => exact fun _ _ _ h => h
    case ff6M2 => kernel_rfl
    case rr6M2 => kernel_rfl
    case hw6M2 => rfl
    case hy6M2 =>
      intro w hSw
      (try dsimp only at hSw)
      first
      | (go_simp; done)
      | (go_simp; with_reducible rfl)
    try simp only [Act.put, List.setIfInBounds_toArray, List.set_cons_zero, List.set_cons_succ]
    refine wpAnyH_take (i := 7) (oi := ?oi7M2) (v := ?v7M2) ?oi0_7M2 (by kernel_rfl) ?ff7M2 ?rr7M2 ?hq7M2 (Or.inl ⟨?hw7M2, ?hy7M2⟩) (by assumption) ?rest7M2
    case oi0_7M2 =>
      conv =>
        lhs
        whnf
        arg 1
        whnf
    case hq7M2 => exact fun _ _ _ h => h
    case ff7M2 => kernel_rfl
    case rr7M2 => kernel_rfl
    case hw7M2 => rfl
    case hy7M2 =>
      intro w hSw
      (try dsimp only at hSw)
      first
      | (go_simp; done)
      | (go_simp; with_reducible rfl)
    try simp only [Act.put, List.setIfInBounds_toArray, List.set_cons_zero, List.set_cons_succ]
    refine wpAnyH_take (i := 8) (oi := ?oi8M2) (v := ?v8M2) ?oi0_8M2 (by kernel_rfl) ?ff8M2 ?rr8M2 ?hq8M2 (Or.inl ⟨?hw8M2, ?hy8M2⟩) (by assumption) ?rest8M2
    case oi0_8M2 =>
      conv =>
        lhs
        whnf
        arg 1
        whnf
    case hq8M2 => exact fun _ _ _ h => h
    case ff8M2 => kernel_rfl
    case rr8M2 => kernel_rfl
    case hw8M2 => rfl
    case hy8M2 =>
      intro w hSw
      (try dsimp only at hSw)
      first
      | (go_simp; done)
      | (go_simp; with_reducible rfl)
    try simp only [Act.put, List.setIfInBounds_toArray, List.set_cons_zero, List.set_cons_succ]
    refine wpAnyH_take (i := 9) (oi := ?oi9M2) (v := ?v9M2) ?oi0_9M2 (by kernel_rfl) ?ff9M2 ?rr9M2 ?hq9M2 (Or.inl ⟨?hw9M2, ?hy9M2⟩) (by assumption) ?rest9M2
    case oi0_9M2 =>
      conv =>
        lhs
        whnf
        arg 1
        whnf
    case hq9M2 => exact fun _ _ _ h => h
    case ff9M2 => kernel_rfl
    case rr9M2 => kernel_rfl
    case hw9M2 => rfl
    case hy9M2 =>
      intro w hSw
      (try dsimp only at hSw)
      first
      | (go_simp; done)
      | (go_simp; with_reducible rfl)
    try simp only [Act.put, List.setIfInBounds_toArray, List.set_cons_zero, List.set_cons_succ]
    refine wpAnyH_take (i := 10) (oi := ?oi10M2) (v := ?v10M2) ?oi0_10M2 (by kernel_rfl) ?ff10M2 ?rr10M2 ?hq10M2 (Or.inl ⟨?hw10M2, ?hy10M2⟩) (by assumption) ?rest10M2
    case oi0_10M2 =>
      conv =>
        lhs
        whnf
        arg 1
        whnf
    case hq10M2 => exact fun _ _ _ h => h
    case ff10M2 => kernel_rfl
    case rr10M2 => kernel_rfl
    case hw10M2 => rfl
    case hy10M2 =>
      intro w hSw
      (try dsimp only at hSw)
      first
      | (go_simp; done)
      | (go_simp; with_reducible rfl)
    try simp only [Act.put, List.setIfInBounds_toArray, List.set_cons_zero, List.set_cons_succ]
    refine wpAnyH_take (i := 11) (oi := ?oi11M2) (v := ?v11M2) ?oi0_11M2 (by kernel_rfl) ?ff11M2 ?rr11M2 ?hq11M2 (Or.inl ⟨?hw11M2, ?hy11M2⟩) (by assumption) ?rest11M2
    case oi0_11M2 =>
      conv =>
        lhs
        whnf
        arg 1
        whnf
    case hq11M2 => exact fun _ _ _ h => h
    case ff11M2 => kernel_rfl
    case rr11M2 => kernel_rfl
    case hw11M2 => rfl
    case hy11M2 =>
      intro w hSw
      (try dsimp only at hSw)
      first
      | (go_simp; done)
      | (go_simp; with_reducible rfl)
    try simp only [Act.put, List.setIfInBounds_toArray, List.set_cons_zero, List.set_cons_succ]
    refine wpAnyH_ready (rs := [12]) (by kernel_rfl) (by simp) (AllReadyH.cons (o := ?oiM3) ?oi0_M3 (fun K hK => ?_) AllReadyH.nil)
    case oi0_M3 =>
      conv =>
        lhs
        whnf
        arg 1
        whnf
    go_simp
    obtain ⟨we, hw⟩ : ∃ x, wd.alloc (.cells #[.string rb] 9) = x := ⟨_, rfl⟩
    have u : Upd [] wd we := by rw [← hw]; exact (Upd.refl [] _).alloc _
    have HN := hide (show Blk we wd.heap.size 9 [.string rb] by rw [← hw]; exact Blk.new wd _ _)
    rw [hw]
    have HO2 := hide (own_kept HO1.out u (by simp))
    have HU2 := hide (HU1.out.trans u (by simp))
    have hc2 := keepc _ _ _ _ u hHeld
    clear hw u
    (try dsimp only)
    refine hK.out _ _ (by exact hc2) (fun hHeld => ?_)
    clear hK K hc2
    try simp only [Act.put, List.setIfInBounds_toArray, List.set_cons_zero, List.set_cons_succ]
    refine wpAnyH_ready (rs := [13]) (by kernel_rfl) (by simp) (AllReadyH.cons (o := ?oiM4) ?oi0_M4 (fun K hK => ?_) AllReadyH.nil)
    case oi0_M4 =>
      conv =>
        lhs
        whnf
        arg 1
        whnf
    refine step_append_base rfl (.tmp 15) (.tmp 27) _ rfl w.heap.size 9 (.string ⟨#[]⟩) 1 16 Tryz.underlying22 info_str rfl (by decide) A k c _ rfl HO2.out ⟨wd.heap.size, 0, none⟩ 1 1 [.string rb] rfl rfl (fun j u hj => by
      match j, hj with
      | 0, hj => cases hj; exact (HN.out.cell 0).trans rfl
      | j + 1, hj => cases hj) (by simp [Value.oneCell']) (by unfold maxLen; omega) (by omega) HU2.out.size ?_
    intro A' c' w5 hO5 u5
    have HO5 := hide hO5
    have HU5 := hide (HU2.out.trans u5 (fun x hx => .inr (it_own_block HO2.out x (by rw [ownBlock_slice]; simpa using hx))))
    have hc5 : w5.cell? ⟨lb, lo + k, none⟩ = some (.string r) := by
      have h8 : lb < w.heap.size := HLB.out
      exact (u5.cell (p := ⟨lb, lo + k, none⟩) (World.block_lt_of_cell? _ _ hHeld) (fun hm => by have := it_own_block HO2.out lb (by rw [ownBlock_slice]; simpa using hm); omega)).trans hHeld
    clear hO5 u5
    (try dsimp only)
    refine hK.out _ _ (by exact hc5) (fun hHeld => ?_)
    clear hK K hc5
    try simp only [Act.put, List.setIfInBounds_toArray, List.set_cons_zero, List.set_cons_succ]
    refine wpAnyH_take (i := 14) (oi := ?oi14M5) (v := ?v14M5) ?oi0_14M5 (by kernel_rfl) ?ff14M5 ?rr14M5 ?hq14M5 (Or.inl ⟨?hw14M5, ?hy14M5⟩) (by assumption) ?rest14M5
    case oi0_14M5 =>
      conv =>
        lhs
        whnf
        arg 1
        whnf
    case hq14M5 => exact fun _ _ _ h => h
    case ff14M5 => kernel_rfl
    case rr14M5 => kernel_rfl
    case hw14M5 => rfl
    case hy14M5 =>
      intro w hSw
      (try dsimp only at hSw)
      first
      | (go_simp; done)
      | (go_simp; with_reducible rfl)
    try simp only [Act.put, List.setIfInBounds_toArray, List.set_cons_zero, List.set_cons_succ]
    refine wpAnyH_done (by kernel_rfl) ?_ _
    go_wp2_with fail
    go_roundw
    case rel => exact ⟨k + 1, A', c', by omega, by omega, by go_num, rfl, hide (by rw [HFK.out]; exact HO5.out), HU5⟩
    case measure => simp [intOf] <;> omega
/-- Are two rows of strings the same. -/
theorem same_any (aa : Option Addr) (n ac : Nat) (la : List ByteArray) (ba : Option Addr) (m bc : Nat) (lb : List ByteArray) (w : World) (hla : la.length = n) (hlb : lb.length = m) (hn : n ≤ 9223372036854775807) (hm : m ≤ 9223372036854775807) (hA : StrsAt w aa la) (hB : StrsAt w ba lb) :
    Calls Tryz.prog 18 #[.slice aa n ac, .slice ba m bc] w fun e w' => e = .returned (.bool (decide (la = lb))) ∧ Upd [] w w' := by
  have HLA := hide hla
  have HLB := hide hlb
  have HA := hide hA
  have HB := hide hB
  clear hla hlb hA hB
  by_cases hlen : n = m
  case neg =>
    have hb1 : ((n : Int) != (m : Int)) = true := by simp; omega
    have HE := hide (show decide (la = lb) = false by simp; intro h; rw [h] at HLA; exact hlen (HLA.out.symm.trans HLB.out))
    clear hlen
    go_enter Tryz.func18, Tryz.ntmps18
    go_wp2_with fail
    go_ret
    exact ⟨by rw [HE.out]; rfl, Upd.refl _ _⟩
  subst hlen
  have hb1 : ((n : Int) != (n : Int)) = false := by simp
  go_enter Tryz.func18, Tryz.ntmps18
  go_wp2_with fail
  go_loopw [5] (fun s5 wr => ∃ k : Nat, k ≤ n ∧ s5 = .int .i64 k ∧ Hid (la.take k = lb.take k) ∧ Hid (Upd [] w wr)) (fun s5 _ => n - (intOf s5).toNat)
  case atStart => exact ⟨0, Nat.zero_le _, rfl, hide (by rw [List.take_zero, List.take_zero]), hide (Upd.refl _ _)⟩
  case round =>
    obtain ⟨k, hk, rfl, hT, hU⟩ := hrel
    obtain ⟨wo, rfl⟩ : ∃ x : World, x = wr := ⟨_, rfl⟩
    by_cases hkn : k < n
    case neg =>
      obtain rfl : k = n := by omega
      have hki : ¬ (k : Int) < k := by omega
      have HE := hide (show decide (la = lb) = true by simp; have h9 := hT.out; rwa [List.take_of_length_le (by have := HLA.out; omega), List.take_of_length_le (by have := HLB.out; omega)] at h9)
      go_wp2_with fail
      go_ret
      exact ⟨by rw [HE.out]; rfl, hU.out⟩
    have hki : (k : Int) < n := by omega
    have hkw : IntKind.i64.wrap ((k : Int) + 1) = (k : Int) + 1 := Go.IntWalk.i64_in _ (by omega)
    obtain ⟨r, hr⟩ : ∃ r, la[k]? = some r := ⟨_, List.getElem?_eq_getElem (by have := HLA.out; omega)⟩
    obtain ⟨s, hs⟩ : ∃ r, lb[k]? = some r := ⟨_, List.getElem?_eq_getElem (by have := HLB.out; omega)⟩
    obtain ⟨ab, ao, rfl, hc⟩ := HA.out k r hr
    obtain ⟨bb, bo, rfl, hd⟩ := HB.out k s hs
    have hrc : wo.cell? ⟨ab, ao + k, none⟩ = some (.string r) := keepc _ _ _ _ hU.out hc
    have hrd : wo.cell? ⟨bb, bo + k, none⟩ = some (.string s) := keepc _ _ _ _ hU.out hd
    by_cases hrs : r = s
    case neg =>
      have HE := hide (show decide (la = lb) = false by simp; intro h; rw [h, hs] at hr; exact hrs (by simpa using hr.symm))
      have hrs2 : (r.toList == s.toList) = false := by rw [ByteArray.toList_eq, ByteArray.toList_eq]; simp; intro h; exact hrs (by cases r; cases s; simp_all)
      have HRS := hide hrs
      clear hr hs hc hd hrs
      go_upto_region 6 with fail
      refine wp_region_held_drew (S := (fun w' => w'.cell? ⟨ab, ao + k, none⟩ = some (.string r) ∧ w'.cell? ⟨bb, bo + k, none⟩ = some (.string s))) (by kernel_rfl) (by exact ⟨hrc, hrd⟩) (fun hHeld => ?_)
      clear hrc hrd
      obtain ⟨wd, hw⟩ : ∃ x, wo.drew = x := ⟨_, rfl⟩
      have u : Upd [] wo wd := by rw [← hw]; exact (Upd.refl [] _).drew
      rw [hw] at hHeld ⊢
      have HU1 := hide (hU.out.trans u (by simp))
      clear hw u
      refine wpAnyH_take (i := 0) (oi := ?oi0M8) (v := ?v0M8) ?oi0_0M8 (by kernel_rfl) ?ff0M8 ?rr0M8 ?hq0M8 (Or.inl ⟨?hw0M8, ?hy0M8⟩) (by assumption) ?rest0M8
      case oi0_0M8 =>
        conv =>
          lhs
          whnf
          arg 1
          whnf
      case hq0M8 => exact fun _ _ _ h => h
      case ff0M8 => kernel_rfl
      case rr0M8 => kernel_rfl
      case hw0M8 => rfl
      case hy0M8 =>
        intro w hSw
        (try dsimp only at hSw)
        first
        | (go_simp; done)
        | (go_simp; with_reducible rfl)
      try simp only [Act.put, List.setIfInBounds_toArray, List.set_cons_zero, List.set_cons_succ]
      refine wpAnyH_take (i := 1) (oi := ?oi1M8) (v := ?v1M8) ?oi0_1M8 (by kernel_rfl) ?ff1M8 ?rr1M8 ?hq1M8 (Or.inl ⟨?hw1M8, ?hy1M8⟩) (by assumption) ?rest1M8
      case oi0_1M8 =>
        conv =>
          lhs
          whnf
          arg 1
          whnf
      case hq1M8 => exact fun _ _ _ h => h
      case ff1M8 => kernel_rfl
      case rr1M8 => kernel_rfl
      case hw1M8 => rfl
      case hy1M8 =>
        intro w hSw
        (try dsimp only at hSw)
        first
        | (go_simp; done)
        | (go_simp; with_reducible rfl)
      try simp only [Act.put, List.setIfInBounds_toArray, List.set_cons_zero, List.set_cons_succ]
      refine wpAnyH_take (i := 2) (oi := ?oi2M8) (v := ?v2M8) ?oi0_2M8 (by kernel_rfl) ?ff2M8 ?rr2M8 ?hq2M8 (Or.inl ⟨?hw2M8, ?hy2M8⟩) (by assumption) ?rest2M8
      case oi0_2M8 =>
        conv =>
          lhs
          whnf
          arg 1
          whnf
      case hq2M8 => exact fun _ _ _ h => h
      case ff2M8 => kernel_rfl
      case rr2M8 => kernel_rfl
      case hw2M8 => rfl
      case hy2M8 =>
        intro w hSw
        (try dsimp only at hSw)
        first
        | (go_simp; done)
        | (go_simp; with_reducible rfl)
      try simp only [Act.put, List.setIfInBounds_toArray, List.set_cons_zero, List.set_cons_succ]
      refine wpAnyH_take (i := 3) (oi := ?oi3M8) (v := ?v3M8) ?oi0_3M8 (by kernel_rfl) ?ff3M8 ?rr3M8 ?hq3M8 (Or.inl ⟨?hw3M8, ?hy3M8⟩) (by assumption) ?rest3M8
      case oi0_3M8 =>
        conv =>
          lhs
          whnf
          arg 1
          whnf
      case hq3M8 => exact fun _ _ _ h => h
      case ff3M8 => kernel_rfl
      case rr3M8 => kernel_rfl
      case hw3M8 => rfl
      case hy3M8 =>
        intro w hSw
        (try dsimp only at hSw)
        first
        | (go_simp; done)
        | (go_simp; with_reducible rfl)
      try simp only [Act.put, List.setIfInBounds_toArray, List.set_cons_zero, List.set_cons_succ]
      refine wpAnyH_take (i := 4) (oi := ?oi4M8) (v := ?v4M8) ?oi0_4M8 (by kernel_rfl) ?ff4M8 ?rr4M8 ?hq4M8 (Or.inl ⟨?hw4M8, ?hy4M8⟩) (by assumption) ?rest4M8
      case oi0_4M8 =>
        conv =>
          lhs
          whnf
          arg 1
          whnf
      case hq4M8 => exact fun _ _ _ h => h
      case ff4M8 => kernel_rfl
      case rr4M8 => kernel_rfl
      case hw4M8 => rfl
      case hy4M8 =>
        intro w hSw
        (try dsimp only at hSw)
        first
        | (go_simp; done)
        | (go_simp; with_reducible rfl)
      try simp only [Act.put, List.setIfInBounds_toArray, List.set_cons_zero, List.set_cons_succ]
      refine wpAnyH_take (i := 5) (oi := ?oi5M8) (v := ?v5M8) ?oi0_5M8 (by kernel_rfl) ?ff5M8 ?rr5M8 ?hq5M8 (Or.inl ⟨?hw5M8, ?hy5M8⟩) (by assumption) ?rest5M8
      case oi0_5M8 =>
        conv =>
          lhs
          whnf
          arg 1
          whnf
      case hq5M8 => exact fun _ _ _ h => h
      case ff5M8 => kernel_rfl
      case rr5M8 => kernel_rfl
      case hw5M8 => rfl
      case hy5M8 =>
        intro w hSw
        (try dsimp only at hSw)
        first
        | (go_simp; done)
        | (go_simp; with_reducible rfl)
      try simp only [Act.put, List.setIfInBounds_toArray, List.set_cons_zero, List.set_cons_succ]
      refine wpAnyH_take (i := 6) (oi := ?oi6M8) (v := ?v6M8) ?oi0_6M8 (by kernel_rfl) ?ff6M8 ?rr6M8 ?hq6M8 (Or.inl ⟨?hw6M8, ?hy6M8⟩) (by assumption) ?rest6M8
      case oi0_6M8 =>
        conv =>
          lhs
          whnf
          arg 1
          whnf
      case hq6M8 => exact fun _ _ _ h => h
      case ff6M8 => kernel_rfl
      case rr6M8 => kernel_rfl
      case hw6M8 => rfl
      case hy6M8 =>
        intro w hSw
        (try dsimp only at hSw)
        first
        | (go_simp; done)
        | (go_simp; with_reducible rfl)
      try simp only [Act.put, List.setIfInBounds_toArray, List.set_cons_zero, List.set_cons_succ]
      refine wpAnyH_take (i := 7) (oi := ?oi7M8) (v := ?v7M8) ?oi0_7M8 (by kernel_rfl) ?ff7M8 ?rr7M8 ?hq7M8 (Or.inl ⟨?hw7M8, ?hy7M8⟩) (by assumption) ?rest7M8
      case oi0_7M8 =>
        conv =>
          lhs
          whnf
          arg 1
          whnf
      case hq7M8 => exact fun _ _ _ h => h
      case ff7M8 => kernel_rfl
      case rr7M8 => kernel_rfl
      case hw7M8 => rfl
      case hy7M8 =>
        intro w hSw
        (try dsimp only at hSw)
        first
        | (go_simp; done)
        | (go_simp; with_reducible rfl)
      try simp only [Act.put, List.setIfInBounds_toArray, List.set_cons_zero, List.set_cons_succ]
      refine wpAnyH_take (i := 8) (oi := ?oi8M9) (v := ?v8M9) ?oi0_8M9 (by kernel_rfl) ?ff8M9 ?rr8M9 ?hq8M9 (Or.inl ⟨?hw8M9, ?hy8M9⟩) (by assumption) ?rest8M9
      case oi0_8M9 =>
        conv =>
          lhs
          whnf
          arg 1
          whnf
      case hq8M9 => exact fun _ _ _ h => h
      case ff8M9 => kernel_rfl
      case rr8M9 => kernel_rfl
      case hw8M9 => rfl
      case hy8M9 =>
        intro w hSw
        (try dsimp only at hSw)
        first
        | (go_simp; done)
        | (go_simp; with_reducible rfl)
      try simp only [Act.put, List.setIfInBounds_toArray, List.set_cons_zero, List.set_cons_succ]
      refine wpAnyH_done (by kernel_rfl) ?_ _
      go_wp2_with fail
      go_ret
      exact ⟨by rw [HE.out]; rfl, HU1.out⟩
    have HTN := hide (show la.take (k + 1) = lb.take (k + 1) by rw [List.take_add_one, List.take_add_one, hr, hs, hT.out, hrs])
    have hrs2 : (r.toList == s.toList) = true := by rw [hrs]; simp
    clear hr hs hc hd hrs
    go_upto_region 6 with fail
    refine wp_region_held_drew (S := (fun w' => w'.cell? ⟨ab, ao + k, none⟩ = some (.string r) ∧ w'.cell? ⟨bb, bo + k, none⟩ = some (.string s))) (by kernel_rfl) (by exact ⟨hrc, hrd⟩) (fun hHeld => ?_)
    clear hrc hrd
    obtain ⟨wd, hw⟩ : ∃ x, wo.drew = x := ⟨_, rfl⟩
    have u : Upd [] wo wd := by rw [← hw]; exact (Upd.refl [] _).drew
    rw [hw] at hHeld ⊢
    have HU1 := hide (hU.out.trans u (by simp))
    clear hw u
    refine wpAnyH_take (i := 0) (oi := ?oi0M12) (v := ?v0M12) ?oi0_0M12 (by kernel_rfl) ?ff0M12 ?rr0M12 ?hq0M12 (Or.inl ⟨?hw0M12, ?hy0M12⟩) (by assumption) ?rest0M12
    case oi0_0M12 =>
      conv =>
        lhs
        whnf
        arg 1
        whnf
    case hq0M12 => exact fun _ _ _ h => h
    case ff0M12 => kernel_rfl
    case rr0M12 => kernel_rfl
    case hw0M12 => rfl
    case hy0M12 =>
      intro w hSw
      (try dsimp only at hSw)
      first
      | (go_simp; done)
      | (go_simp; with_reducible rfl)
    try simp only [Act.put, List.setIfInBounds_toArray, List.set_cons_zero, List.set_cons_succ]
    refine wpAnyH_take (i := 1) (oi := ?oi1M12) (v := ?v1M12) ?oi0_1M12 (by kernel_rfl) ?ff1M12 ?rr1M12 ?hq1M12 (Or.inl ⟨?hw1M12, ?hy1M12⟩) (by assumption) ?rest1M12
    case oi0_1M12 =>
      conv =>
        lhs
        whnf
        arg 1
        whnf
    case hq1M12 => exact fun _ _ _ h => h
    case ff1M12 => kernel_rfl
    case rr1M12 => kernel_rfl
    case hw1M12 => rfl
    case hy1M12 =>
      intro w hSw
      (try dsimp only at hSw)
      first
      | (go_simp; done)
      | (go_simp; with_reducible rfl)
    try simp only [Act.put, List.setIfInBounds_toArray, List.set_cons_zero, List.set_cons_succ]
    refine wpAnyH_take (i := 2) (oi := ?oi2M12) (v := ?v2M12) ?oi0_2M12 (by kernel_rfl) ?ff2M12 ?rr2M12 ?hq2M12 (Or.inl ⟨?hw2M12, ?hy2M12⟩) (by assumption) ?rest2M12
    case oi0_2M12 =>
      conv =>
        lhs
        whnf
        arg 1
        whnf
    case hq2M12 => exact fun _ _ _ h => h
    case ff2M12 => kernel_rfl
    case rr2M12 => kernel_rfl
    case hw2M12 => rfl
    case hy2M12 =>
      intro w hSw
      (try dsimp only at hSw)
      first
      | (go_simp; done)
      | (go_simp; with_reducible rfl)
    try simp only [Act.put, List.setIfInBounds_toArray, List.set_cons_zero, List.set_cons_succ]
    refine wpAnyH_take (i := 3) (oi := ?oi3M12) (v := ?v3M12) ?oi0_3M12 (by kernel_rfl) ?ff3M12 ?rr3M12 ?hq3M12 (Or.inl ⟨?hw3M12, ?hy3M12⟩) (by assumption) ?rest3M12
    case oi0_3M12 =>
      conv =>
        lhs
        whnf
        arg 1
        whnf
    case hq3M12 => exact fun _ _ _ h => h
    case ff3M12 => kernel_rfl
    case rr3M12 => kernel_rfl
    case hw3M12 => rfl
    case hy3M12 =>
      intro w hSw
      (try dsimp only at hSw)
      first
      | (go_simp; done)
      | (go_simp; with_reducible rfl)
    try simp only [Act.put, List.setIfInBounds_toArray, List.set_cons_zero, List.set_cons_succ]
    refine wpAnyH_take (i := 4) (oi := ?oi4M12) (v := ?v4M12) ?oi0_4M12 (by kernel_rfl) ?ff4M12 ?rr4M12 ?hq4M12 (Or.inl ⟨?hw4M12, ?hy4M12⟩) (by assumption) ?rest4M12
    case oi0_4M12 =>
      conv =>
        lhs
        whnf
        arg 1
        whnf
    case hq4M12 => exact fun _ _ _ h => h
    case ff4M12 => kernel_rfl
    case rr4M12 => kernel_rfl
    case hw4M12 => rfl
    case hy4M12 =>
      intro w hSw
      (try dsimp only at hSw)
      first
      | (go_simp; done)
      | (go_simp; with_reducible rfl)
    try simp only [Act.put, List.setIfInBounds_toArray, List.set_cons_zero, List.set_cons_succ]
    refine wpAnyH_take (i := 5) (oi := ?oi5M12) (v := ?v5M12) ?oi0_5M12 (by kernel_rfl) ?ff5M12 ?rr5M12 ?hq5M12 (Or.inl ⟨?hw5M12, ?hy5M12⟩) (by assumption) ?rest5M12
    case oi0_5M12 =>
      conv =>
        lhs
        whnf
        arg 1
        whnf
    case hq5M12 => exact fun _ _ _ h => h
    case ff5M12 => kernel_rfl
    case rr5M12 => kernel_rfl
    case hw5M12 => rfl
    case hy5M12 =>
      intro w hSw
      (try dsimp only at hSw)
      first
      | (go_simp; done)
      | (go_simp; with_reducible rfl)
    try simp only [Act.put, List.setIfInBounds_toArray, List.set_cons_zero, List.set_cons_succ]
    refine wpAnyH_take (i := 6) (oi := ?oi6M12) (v := ?v6M12) ?oi0_6M12 (by kernel_rfl) ?ff6M12 ?rr6M12 ?hq6M12 (Or.inl ⟨?hw6M12, ?hy6M12⟩) (by assumption) ?rest6M12
    case oi0_6M12 =>
      conv =>
        lhs
        whnf
        arg 1
        whnf
    case hq6M12 => exact fun _ _ _ h => h
    case ff6M12 => kernel_rfl
    case rr6M12 => kernel_rfl
    case hw6M12 => rfl
    case hy6M12 =>
      intro w hSw
      (try dsimp only at hSw)
      first
      | (go_simp; done)
      | (go_simp; with_reducible rfl)
    try simp only [Act.put, List.setIfInBounds_toArray, List.set_cons_zero, List.set_cons_succ]
    refine wpAnyH_take (i := 7) (oi := ?oi7M12) (v := ?v7M12) ?oi0_7M12 (by kernel_rfl) ?ff7M12 ?rr7M12 ?hq7M12 (Or.inl ⟨?hw7M12, ?hy7M12⟩) (by assumption) ?rest7M12
    case oi0_7M12 =>
      conv =>
        lhs
        whnf
        arg 1
        whnf
    case hq7M12 => exact fun _ _ _ h => h
    case ff7M12 => kernel_rfl
    case rr7M12 => kernel_rfl
    case hw7M12 => rfl
    case hy7M12 =>
      intro w hSw
      (try dsimp only at hSw)
      first
      | (go_simp; done)
      | (go_simp; with_reducible rfl)
    try simp only [Act.put, List.setIfInBounds_toArray, List.set_cons_zero, List.set_cons_succ]
    refine wpAnyH_take (i := 8) (oi := ?oi8M13) (v := ?v8M13) ?oi0_8M13 (by kernel_rfl) ?ff8M13 ?rr8M13 ?hq8M13 (Or.inl ⟨?hw8M13, ?hy8M13⟩) (by assumption) ?rest8M13
    case oi0_8M13 =>
      conv =>
        lhs
        whnf
        arg 1
        whnf
    case hq8M13 => exact fun _ _ _ h => h
    case ff8M13 => kernel_rfl
    case rr8M13 => kernel_rfl
    case hw8M13 => rfl
    case hy8M13 =>
      intro w hSw
      (try dsimp only at hSw)
      first
      | (go_simp; done)
      | (go_simp; with_reducible rfl)
    try simp only [Act.put, List.setIfInBounds_toArray, List.set_cons_zero, List.set_cons_succ]
    refine wpAnyH_done (by kernel_rfl) ?_ _
    go_wp2_with fail
    go_roundw
    case rel => exact ⟨k + 1, by omega, by go_num, HTN, HU1⟩
    case measure => simp [intOf] <;> omega

end Go.Proofs.YtafjolibfbccbaaGreatDoor
