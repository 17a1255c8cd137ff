/-
  The small functions of the journal's laws: pick, size, few, same, content.
  airchecklaw34.sane; content.
  aircheckref01.PutInt on small numbers.
  airchecklaw34.sane: the example.
  aircheckref01.PutInt on any number.
  aircheckref01.Int on any bytes.
  aircheckref01.String on any bytes.
-/
import Derived.Test.YtafjolibfbccbaaGreatDoorZ27JournalOpensAnythingCard
import Derived.Test.YtafjolibfbccbaaGreatDoorZ4JournalOpensAnythingCard
import Derived.Deep.RegionHeld3
import Derived.OpenShut
import Derived.Test.YtafjolibfbccbaaGreatDoorZ2JournalOpensAnythingCard
import Derived.Test.YtafjolibfbccbaaGreatDoorZ20JournalOpensAnythingCard

namespace Go.Proofs.YtafjolibfbccbaaGreatDoor
open Go.RowKit
set_option maxRecDepth 100000
set_option maxHeartbeats 4000000

theorem step_append_base {P : Program} {ops : Array Oper} {w : World} {o : Oper} {a : Act} {K : Act → World → Prop} {Q : Exit → Act → World → Prop} {E : Prop} (hgd : o.guard = none) (s x : Operand) (t : TypeId)
    (ho : o.op = .call { callee := .builtin .append, args := #[s, x], argTypes := #[t, t] })
    (base : Nat) (e : TypeId) (z : Value) (size bytes : Nat) (ht : P.underlying t = some (.slice e)) (hinfo : (P.info? e).map (fun i => (i.zero, i.size, i.bytes)) = some (some z, size, bytes)) (hzs : z.cells.size = size) (hsz : 0 < size)
    (A : Option Addr) (n c : Nat) (xs : List Value) (hs : a.eval s = .slice A n c) (hown : w.ownsRow base e size (.slice A n c) n xs)
    (ad : Addr) (m cc : Nat) (news : List Value) (hx : a.eval x = .slice (some ad) m cc) (hl : news.length = m * size) (hnews : ∀ j u, news[j]? = some u → w.cell? (ad.add j) = some u) (h1 : ∀ u ∈ news, u.oneCell' = true)
    (h63 : n + m ≤ maxLen) (hbytes : (n + m) * bytes ≤ 140737488355328) (hbase : base ≤ w.heap.size)
    (h : ∀ A' c' w', w'.ownsRow base e size (.slice A' (n + m) c') (n + m) (xs ++ news) → Upd (A.map (·.block)).toList w w' → K (a.put o.dst (.slice A' (n + m) c')) w') :
    if Region.wanted o (yielded ops a.tmps) = true then Oper.wp P o a w K Q else E := by
  have hw : Region.wanted o (yielded ops a.tmps) = true := by simp [Region.wanted, hgd]
  rw [if_pos hw]
  obtain ⟨i, hi, hz, hs1, hb1⟩ := info_parts hinfo
  obtain ⟨v', w', hr, h2, h3, _, h5⟩ := run_append_own_at (P := P) w base t o.type e i z size bytes ht hi hz hs1 hb1 hzs hsz _ n xs hown ad m cc news hl hnews h1 h63 hbytes hbase
  unfold Oper.wp execOp
  simp only [ho, resolve, invoke, builtin, Sem.run_bind, Sem.run_pure, Result.andThen_ok, List.map_toArray, List.map_cons, List.map_nil, hs, hx, hr]
  obtain ⟨A', c', rfl⟩ : ∃ A' c', v' = .slice A' (n + m) c' := by
    rcases h2.2 with ⟨hv, h0⟩ | ⟨g, cap, cur, hv, _⟩
    · exact ⟨none, 0, by rw [h0]; exact hv⟩
    · exact ⟨_, _, hv⟩
  rw [ownBlock_slice] at h3
  exact h _ _ w' h2 ((Upd.refl _ w).grown h3 (fun k hk => .inl (by rw [hk]; simp)))
def pickN (c n : Int) : Int := (if c < 0 then -(c + 1) else c) % n
theorem pickN_lt (c : Int) {n : Int} (hn : 0 < n) : 0 ≤ pickN c n ∧ pickN c n < n := ⟨Int.emod_nonneg _ (by omega), Int.emod_lt_of_pos _ hn⟩
theorem pick_any (c n : Int) (w : World) (hc : (Lit.int .i64 c).wf = true) (h0 : 0 < n) (_h1 : n ≤ 9223372036854775807) :
    Calls Tryz.prog 14 #[.int .i64 c, .int .i64 n] w fun e w' => e = .returned (.int .i64 (pickN c n)) ∧ w = w' := by
  have hb : -9223372036854775808 ≤ c ∧ c ≤ 9223372036854775807 := bounds_i64 hc
  by_cases h : c < 0
  · have e : pickN c n = (-(c + 1)) % n := by simp [pickN, h]
    have H := hide e
    obtain ⟨b1, b2⟩ := hb
    clear e hc
    go_enter Tryz.func14, Tryz.ntmps14
    go_wp2
    go_ret
    refine ⟨?_, rfl⟩
    rw [H.out, ← Int.tmod_eq_emod_of_nonneg (show 0 ≤ -(c + 1) by omega), Int.neg_tmod]
    rfl
  · have e : pickN c n = c % n := by simp [pickN, h]
    have H := hide e
    obtain ⟨b1, b2⟩ := hb
    clear e hc
    go_enter Tryz.func14, Tryz.ntmps14
    go_wp2
    go_ret
    exact ⟨by rw [H.out]; rfl, rfl⟩
/-- The size of a law's disk. -/
def sizeS (n : Int) : Nat := 1 + (pickN n 1500).toNat
theorem sizeS_in (n : Int) : 1 ≤ sizeS n ∧ sizeS n ≤ 1500 := by
  have := pickN_lt n (n := 1500) (by omega)
  unfold sizeS; omega
theorem size_law (n : Int) (w : World) (hc : (Lit.int .i64 n).wf = true) : Calls Tryz.prog 15 #[.int .i64 n] w fun e w' => e = .returned (.int .i64 (sizeS n : Int)) ∧ w = w' := by
  have hp := pickN_lt n (n := 1500) (by omega)
  have HP := hide (pick_any n 1500 w hc (by omega) (by omega))
  have HE := hide (show ((sizeS n : Nat) : Int) = 1 + pickN n 1500 by unfold sizeS; omega)
  obtain ⟨z, hz⟩ : ∃ z, pickN n 1500 = z := ⟨_, rfl⟩
  rw [hz] at hp HP HE
  have hzw : IntKind.i64.wrap (1 + z) = 1 + z := Go.IntWalk.i64_in _ (by omega)
  clear hc hz
  go_enter Tryz.func15, Tryz.ntmps15
  go_wp2_with fail
  refine HP.out.mono ?_
  rintro e w' ⟨rfl, rfl⟩
  go_wp2_with fail
  go_ret
  exact ⟨by rw [HE.out]; rfl, rfl⟩
/-- At most 6 strings, cut to 100 bytes. -/
def fewS (l : List ByteArray) : List (List UInt8) := (l.take 6).map fun s => s.data.toList.take 100
theorem few_any (la : Option Addr) (n lc : Nat) (l : List ByteArray) (w : World) (hl : l.length = n) (hS : StrsAt w la l) (hb : ∀ s ∈ l, s.size ≤ maxLen) (hn : n ≤ maxLen) :
    Calls Tryz.prog 11 #[.slice la n lc] w fun e w' => ∃ A c, e = .returned (.slice A (fewS l).length c) ∧ w'.ownsRow w.heap.size 9 1 (.slice A (fewS l).length c) (fewS l).length ((fewS l).map strV) ∧ Upd [] w w' := by
  unfold maxLen at hb hn
  have HL := hide hl
  have HS := hide hS
  have HB := hide hb
  clear hl hS hb
  go_enter Tryz.func11, Tryz.ntmps11
  go_wp2_with fail
  go_loopw [3, 4] (fun s3 s4 wr => ∃ (k : Nat) (A : Option Addr) (c : Nat), k ≤ n ∧ k ≤ 6 ∧ s4 = .int .i64 k ∧ s3 = .slice A k c ∧ Hid (wr.ownsRow w.heap.size 9 1 (.slice A k c) k ((fewS (l.take k)).map strV)) ∧ Hid (Upd [] w wr)) (fun _ s4 _ => 6 - (intOf s4).toNat)
  case atStart => exact ⟨0, none, 0, Nat.zero_le _, Nat.zero_le _, rfl, rfl, hide (by rw [List.take_zero]; exact World.ownsRow_nil _ _ _ _), hide (Upd.refl _ _)⟩
  case round =>
    obtain ⟨k, A, c, hk, hk6, rfl, rfl, hO, hU⟩ := hrel
    obtain ⟨wo, rfl⟩ : ∃ x : World, x = wr := ⟨_, rfl⟩
    by_cases hkn : k < n
    case neg =>
      obtain rfl : k = n := by omega
      have hki : ¬ (k : Int) < k := by omega
      have HF := hide (show fewS (l.take k) = fewS l by rw [List.take_of_length_le (by rw [HL.out]; exact Nat.le_refl _)])
      go_wp2_with fail
      go_ret
      rw [HF.out] at hO
      have e : (fewS l).length = k := by unfold fewS; rw [List.length_map, List.length_take, HL.out]; omega
      exact ⟨A, c, by rw [e]; rfl, by rw [e]; exact hO.out, hU.out⟩
    have hki : (k : Int) < n := by omega
    by_cases hk5 : k < 6
    case neg =>
      obtain rfl : k = 6 := by omega
      have hki2 : ¬ (((6 : Nat) : Int)) < 6 := by omega
      have HF := hide (show fewS (l.take 6) = fewS l by unfold fewS; rw [List.take_take]; rfl)
      go_wp2_with fail
      go_ret
      rw [HF.out] at hO
      have e : (fewS l).length = 6 := by unfold fewS; rw [List.length_map, List.length_take, HL.out]; omega
      exact ⟨A, c, by rw [e]; rfl, by rw [e]; exact hO.out, hU.out⟩
    have hki2 : (k : Int) < 6 := by omega
    have hkw : IntKind.i64.wrap ((k : Int) + 1) = (k : Int) + 1 := Go.IntWalk.i64_in _ (by omega)
    obtain ⟨r, hr⟩ : ∃ r, l[k]? = some r := ⟨_, List.getElem?_eq_getElem (by have := HL.out; omega)⟩
    obtain ⟨lb, lo, rfl, hc⟩ := HS.out k r hr
    have hrc : wo.cell? ⟨lb, lo + k, none⟩ = some (.string r) := keepc _ _ _ _ hU.out hc
    have hrs := HB.out r (List.mem_of_getElem? hr)
    obtain ⟨sz, hsz⟩ : ∃ x, r.size = x := ⟨_, rfl⟩
    obtain ⟨q, hq⟩ : ∃ x, min sz 100 = x := ⟨_, rfl⟩
    have hmn : min (sz : Int) 100 = (q : Int) := by omega
    have hsh := fun W => slice_str_h (P := Tryz.prog) W Tryz.underlying9 r (bs := r.data.toList) rfl q (by omega) (q : Int) rfl
    obtain ⟨rb, hrb⟩ : ∃ x : ByteArray, ⟨(r.data.toList.take q).toArray⟩ = x := ⟨_, rfl⟩
    rw [hrb] at hsh
    have HFK := hide (show (fewS (l.take (k + 1))).map strV = (fewS (l.take k)).map strV ++ [.string rb] by
      have e : fewS (l.take (k + 1)) = fewS (l.take k) ++ [r.data.toList.take 100] := by
        unfold fewS
        rw [List.take_take, List.take_take, Nat.min_eq_right (by omega), Nat.min_eq_right (by omega), List.take_add_one, hr]
        simp
      have e2 : r.data.toList.take 100 = r.data.toList.take q := by
        rw [← hq]
        have : r.data.toList.length = sz := by rw [← hsz]; exact Lib.size_eq r ▸ rfl
        rw [← this]
        exact List.take_eq_take_iff.2 (by omega)
      rw [e, List.map_append, List.map_singleton, e2]
      unfold strV
      rw [hrb])
    have HLB := hide (World.block_lt_of_cell? _ _ hc)
    have hs0 : w.heap.size ≤ wo.heap.size := hU.out.size
    have HS0 := hide hs0
    clear hr hc hq hrb hs0
    go_upto_region 5 with fail
    refine wp_region_held_drew (S := (fun w' => w'.cell? ⟨lb, lo + k, none⟩ = some (.string r))) (by kernel_rfl) (by exact hrc) (fun hHeld => ?_)
    clear hrc
    obtain ⟨wd, hw⟩ : ∃ x, wo.drew = x := ⟨_, rfl⟩
    have u : Upd [] wo wd := by rw [← hw]; exact (Upd.refl [] _).drew
    rw [hw] at hHeld ⊢
    have HO1 := hide (own_kept hO.out u (by simp))
    have HU1 := hide (hU.out.trans u (by simp))
    clear hw u
    refine wpAnyH_take (i := 0) (oi := ?oi0M2) (v := ?v0M2) ?oi0_0M2 (by kernel_rfl) ?ff0M2 ?rr0M2 ?hq0M2 (Or.inl ⟨?hw0M2, ?hy0M2⟩) (by assumption) ?rest0M2
    case oi0_0M2 => conv => lhs; whnf; arg 1; whnf
    case hq0M2 => exact fun _ _ _ h => h
    case ff0M2 | rr0M2 => kernel_rfl
    case hw0M2 => rfl
    case hy0M2 => intro w hSw; (try dsimp only at hSw); first | (go_simp; done) | (go_simp; with_reducible rfl)
    try simp only [Act.put, List.setIfInBounds_toArray, List.set_cons_zero, List.set_cons_succ]
    refine wpAnyH_take (i := 1) (oi := ?oi1M2) (v := ?v1M2) ?oi0_1M2 (by kernel_rfl) ?ff1M2 ?rr1M2 ?hq1M2 (Or.inl ⟨?hw1M2, ?hy1M2⟩) (by assumption) ?rest1M2
    case oi0_1M2 => conv => lhs; whnf; arg 1; whnf
    case hq1M2 => exact fun _ _ _ h => h
    case ff1M2 | rr1M2 => kernel_rfl
    case hw1M2 => rfl
    case hy1M2 => intro w hSw; (try dsimp only at hSw); first | (go_simp; done) | (go_simp; with_reducible rfl)
    try simp only [Act.put, List.setIfInBounds_toArray, List.set_cons_zero, List.set_cons_succ]
    refine wpAnyH_take (i := 2) (oi := ?oi2M2) (v := ?v2M2) ?oi0_2M2 (by kernel_rfl) ?ff2M2 ?rr2M2 ?hq2M2 (Or.inl ⟨?hw2M2, ?hy2M2⟩) (by assumption) ?rest2M2
    case oi0_2M2 => conv => lhs; whnf; arg 1; whnf
    case hq2M2 => exact fun _ _ _ h => h
    case ff2M2 | rr2M2 => kernel_rfl
    case hw2M2 => rfl
    case hy2M2 => intro w hSw; (try dsimp only at hSw); first | (go_simp; done) | (go_simp; with_reducible rfl)
    try simp only [Act.put, List.setIfInBounds_toArray, List.set_cons_zero, List.set_cons_succ]
    refine wpAnyH_take (i := 3) (oi := ?oi3M2) (v := ?v3M2) ?oi0_3M2 (by kernel_rfl) ?ff3M2 ?rr3M2 ?hq3M2 (Or.inl ⟨?hw3M2, ?hy3M2⟩) (by assumption) ?rest3M2
    case oi0_3M2 => conv => lhs; whnf; arg 1; whnf
    case hq3M2 => exact fun _ _ _ h => h
    case ff3M2 | rr3M2 => kernel_rfl
    case hw3M2 => rfl
    case hy3M2 => intro w hSw; (try dsimp only at hSw); first | (go_simp; done) | (go_simp; with_reducible rfl)
    try simp only [Act.put, List.setIfInBounds_toArray, List.set_cons_zero, List.set_cons_succ]
    refine wpAnyH_take (i := 4) (oi := ?oi4M2) (v := ?v4M2) ?oi0_4M2 (by kernel_rfl) ?ff4M2 ?rr4M2 ?hq4M2 (Or.inl ⟨?hw4M2, ?hy4M2⟩) (by assumption) ?rest4M2
    case oi0_4M2 => conv => lhs; whnf; arg 1; whnf
    case hq4M2 => exact fun _ _ _ h => h
    case ff4M2 | rr4M2 => kernel_rfl
    case hw4M2 => rfl
    case hy4M2 => intro w hSw; (try dsimp only at hSw); first | (go_simp; done) | (go_simp; with_reducible rfl)
    try simp only [Act.put, List.setIfInBounds_toArray, List.set_cons_zero, List.set_cons_succ]
    refine wpAnyH_take (i := 5) (oi := ?oi5M2) (v := ?v5M2) ?oi0_5M2 (by kernel_rfl) ?ff5M2 ?rr5M2 ?hq5M2 (Or.inl ⟨?hw5M2, ?hy5M2⟩) (by assumption) ?rest5M2
    case oi0_5M2 => conv => lhs; whnf; arg 1; whnf
    case hq5M2 => exact fun _ _ _ h => h
    case ff5M2 | rr5M2 => kernel_rfl
    case hw5M2 => rfl
    case hy5M2 => intro w hSw; (try dsimp only at hSw); first | (go_simp; done) | (go_simp; with_reducible rfl)
    try simp only [Act.put, List.setIfInBounds_toArray, List.set_cons_zero, List.set_cons_succ]
    refine wpAnyH_take (i := 6) (oi := ?oi6M2) (v := ?v6M2) ?oi0_6M2 (by kernel_rfl) ?ff6M2 ?rr6M2 ?hq6M2 (Or.inl ⟨?hw6M2, ?hy6M2⟩) (by assumption) ?rest6M2
    case oi0_6M2 => conv => lhs; whnf; arg 1; whnf
    case hq6M2 => exact fun _ _ _ h => h
    case ff6M2 | rr6M2 => kernel_rfl
    case hw6M2 => rfl
    case hy6M2 => intro w hSw; (try dsimp only at hSw); first | (go_simp; done) | (go_simp; with_reducible rfl)
    try simp only [Act.put, List.setIfInBounds_toArray, List.set_cons_zero, List.set_cons_succ]
    refine wpAnyH_take (i := 7) (oi := ?oi7M2) (v := ?v7M2) ?oi0_7M2 (by kernel_rfl) ?ff7M2 ?rr7M2 ?hq7M2 (Or.inl ⟨?hw7M2, ?hy7M2⟩) (by assumption) ?rest7M2
    case oi0_7M2 => conv => lhs; whnf; arg 1; whnf
    case hq7M2 => exact fun _ _ _ h => h
    case ff7M2 | rr7M2 => kernel_rfl
    case hw7M2 => rfl
    case hy7M2 => intro w hSw; (try dsimp only at hSw); first | (go_simp; done) | (go_simp; with_reducible rfl)
    try simp only [Act.put, List.setIfInBounds_toArray, List.set_cons_zero, List.set_cons_succ]
    refine wpAnyH_take (i := 8) (oi := ?oi8M2) (v := ?v8M2) ?oi0_8M2 (by kernel_rfl) ?ff8M2 ?rr8M2 ?hq8M2 (Or.inl ⟨?hw8M2, ?hy8M2⟩) (by assumption) ?rest8M2
    case oi0_8M2 => conv => lhs; whnf; arg 1; whnf
    case hq8M2 => exact fun _ _ _ h => h
    case ff8M2 | rr8M2 => kernel_rfl
    case hw8M2 => rfl
    case hy8M2 => intro w hSw; (try dsimp only at hSw); first | (go_simp; done) | (go_simp; with_reducible rfl)
    try simp only [Act.put, List.setIfInBounds_toArray, List.set_cons_zero, List.set_cons_succ]
    refine wpAnyH_take (i := 9) (oi := ?oi9M2) (v := ?v9M2) ?oi0_9M2 (by kernel_rfl) ?ff9M2 ?rr9M2 ?hq9M2 (Or.inl ⟨?hw9M2, ?hy9M2⟩) (by assumption) ?rest9M2
    case oi0_9M2 => conv => lhs; whnf; arg 1; whnf
    case hq9M2 => exact fun _ _ _ h => h
    case ff9M2 | rr9M2 => kernel_rfl
    case hw9M2 => rfl
    case hy9M2 => intro w hSw; (try dsimp only at hSw); first | (go_simp; done) | (go_simp; with_reducible rfl)
    try simp only [Act.put, List.setIfInBounds_toArray, List.set_cons_zero, List.set_cons_succ]
    refine wpAnyH_take (i := 10) (oi := ?oi10M2) (v := ?v10M2) ?oi0_10M2 (by kernel_rfl) ?ff10M2 ?rr10M2 ?hq10M2 (Or.inl ⟨?hw10M2, ?hy10M2⟩) (by assumption) ?rest10M2
    case oi0_10M2 => conv => lhs; whnf; arg 1; whnf
    case hq10M2 => exact fun _ _ _ h => h
    case ff10M2 | rr10M2 => kernel_rfl
    case hw10M2 => rfl
    case hy10M2 => intro w hSw; (try dsimp only at hSw); first | (go_simp; done) | (go_simp; with_reducible rfl)
    try simp only [Act.put, List.setIfInBounds_toArray, List.set_cons_zero, List.set_cons_succ]
    refine wpAnyH_take (i := 11) (oi := ?oi11M2) (v := ?v11M2) ?oi0_11M2 (by kernel_rfl) ?ff11M2 ?rr11M2 ?hq11M2 (Or.inl ⟨?hw11M2, ?hy11M2⟩) (by assumption) ?rest11M2
    case oi0_11M2 => conv => lhs; whnf; arg 1; whnf
    case hq11M2 => exact fun _ _ _ h => h
    case ff11M2 | rr11M2 => kernel_rfl
    case hw11M2 => rfl
    case hy11M2 => intro w hSw; (try dsimp only at hSw); first | (go_simp; done) | (go_simp; with_reducible rfl)
    try simp only [Act.put, List.setIfInBounds_toArray, List.set_cons_zero, List.set_cons_succ]
    refine wpAnyH_ready (rs := [12]) (by kernel_rfl) (by simp) (AllReadyH.cons (o := ?oiM3) ?oi0_M3 (fun K hK => ?_) AllReadyH.nil)
    case oi0_M3 => conv => lhs; whnf; arg 1; whnf
    go_simp
    obtain ⟨we, hw⟩ : ∃ x, wd.alloc (.cells #[.string rb] 9) = x := ⟨_, rfl⟩
    have u : Upd [] wd we := by rw [← hw]; exact (Upd.refl [] _).alloc _
    have HN := hide (show Blk we wd.heap.size 9 [.string rb] by rw [← hw]; exact Blk.new wd _ _)
    rw [hw]
    have HO2 := hide (own_kept HO1.out u (by simp))
    have HU2 := hide (HU1.out.trans u (by simp))
    have hc2 := keepc _ _ _ _ u hHeld
    clear hw u
    (try dsimp only)
    refine hK.out _ _ (by exact hc2) (fun hHeld => ?_)
    clear hK K hc2
    try simp only [Act.put, List.setIfInBounds_toArray, List.set_cons_zero, List.set_cons_succ]
    refine wpAnyH_ready (rs := [13]) (by kernel_rfl) (by simp) (AllReadyH.cons (o := ?oiM4) ?oi0_M4 (fun K hK => ?_) AllReadyH.nil)
    case oi0_M4 => conv => lhs; whnf; arg 1; whnf
    refine step_append_base rfl (.tmp 15) (.tmp 27) _ rfl w.heap.size 9 (.string ⟨#[]⟩) 1 16 Tryz.underlying22 info_str rfl (by decide) A k c _ rfl HO2.out ⟨wd.heap.size, 0, none⟩ 1 1 [.string rb] rfl rfl (fun j u hj => by
      match j, hj with
      | 0, hj => cases hj; exact (HN.out.cell 0).trans rfl
      | j + 1, hj => cases hj) (by simp [Value.oneCell']) (by unfold maxLen; omega) (by omega) HU2.out.size ?_
    intro A' c' w5 hO5 u5
    have HO5 := hide hO5
    have HU5 := hide (HU2.out.trans u5 (fun x hx => .inr (it_own_block HO2.out x (by rw [ownBlock_slice]; simpa using hx))))
    have hc5 : w5.cell? ⟨lb, lo + k, none⟩ = some (.string r) := by
      have h8 : lb < w.heap.size := HLB.out
      exact (u5.cell (p := ⟨lb, lo + k, none⟩) (World.block_lt_of_cell? _ _ hHeld) (fun hm => by have := it_own_block HO2.out lb (by rw [ownBlock_slice]; simpa using hm); omega)).trans hHeld
    clear hO5 u5
    (try dsimp only)
    refine hK.out _ _ (by exact hc5) (fun hHeld => ?_)
    clear hK K hc5
    try simp only [Act.put, List.setIfInBounds_toArray, List.set_cons_zero, List.set_cons_succ]
    refine wpAnyH_take (i := 14) (oi := ?oi14M5) (v := ?v14M5) ?oi0_14M5 (by kernel_rfl) ?ff14M5 ?rr14M5 ?hq14M5 (Or.inl ⟨?hw14M5, ?hy14M5⟩) (by assumption) ?rest14M5
    case oi0_14M5 => conv => lhs; whnf; arg 1; whnf
    case hq14M5 => exact fun _ _ _ h => h
    case ff14M5 | rr14M5 => kernel_rfl
    case hw14M5 => rfl
    case hy14M5 => intro w hSw; (try dsimp only at hSw); first | (go_simp; done) | (go_simp; with_reducible rfl)
    try simp only [Act.put, List.setIfInBounds_toArray, List.set_cons_zero, List.set_cons_succ]
    refine wpAnyH_done (by kernel_rfl) ?_ _
    go_wp2_with fail
    go_roundw
    case rel => exact ⟨k + 1, A', c', by omega, by omega, by go_num, rfl, hide (by rw [HFK.out]; exact HO5.out), HU5⟩
    case measure => simp [intOf] <;> omega
/-- Are two rows of strings the same. -/
theorem same_any (aa : Option Addr) (n ac : Nat) (la : List ByteArray) (ba : Option Addr) (m bc : Nat) (lb : List ByteArray) (w : World) (hla : la.length = n) (hlb : lb.length = m) (hn : n ≤ 9223372036854775807) (hm : m ≤ 9223372036854775807) (hA : StrsAt w aa la) (hB : StrsAt w ba lb) :
    Calls Tryz.prog 18 #[.slice aa n ac, .slice ba m bc] w fun e w' => e = .returned (.bool (decide (la = lb))) ∧ Upd [] w w' := by
  have HLA := hide hla
  have HLB := hide hlb
  have HA := hide hA
  have HB := hide hB
  clear hla hlb hA hB
  by_cases hlen : n = m
  case neg =>
    have hb1 : ((n : Int) != (m : Int)) = true := by simp; omega
    have HE := hide (show decide (la = lb) = false by simp; intro h; rw [h] at HLA; exact hlen (HLA.out.symm.trans HLB.out))
    clear hlen
    go_enter Tryz.func18, Tryz.ntmps18
    go_wp2_with fail
    go_ret
    exact ⟨by rw [HE.out]; rfl, Upd.refl _ _⟩
  subst hlen
  have hb1 : ((n : Int) != (n : Int)) = false := by simp
  go_enter Tryz.func18, Tryz.ntmps18
  go_wp2_with fail
  go_loopw [5] (fun s5 wr => ∃ k : Nat, k ≤ n ∧ s5 = .int .i64 k ∧ Hid (la.take k = lb.take k) ∧ Hid (Upd [] w wr)) (fun s5 _ => n - (intOf s5).toNat)
  case atStart => exact ⟨0, Nat.zero_le _, rfl, hide (by rw [List.take_zero, List.take_zero]), hide (Upd.refl _ _)⟩
  case round =>
    obtain ⟨k, hk, rfl, hT, hU⟩ := hrel
    obtain ⟨wo, rfl⟩ : ∃ x : World, x = wr := ⟨_, rfl⟩
    by_cases hkn : k < n
    case neg =>
      obtain rfl : k = n := by omega
      have hki : ¬ (k : Int) < k := by omega
      have HE := hide (show decide (la = lb) = true by simp; have h9 := hT.out; rwa [List.take_of_length_le (by have := HLA.out; omega), List.take_of_length_le (by have := HLB.out; omega)] at h9)
      go_wp2_with fail
      go_ret
      exact ⟨by rw [HE.out]; rfl, hU.out⟩
    have hki : (k : Int) < n := by omega
    have hkw : IntKind.i64.wrap ((k : Int) + 1) = (k : Int) + 1 := Go.IntWalk.i64_in _ (by omega)
    obtain ⟨r, hr⟩ : ∃ r, la[k]? = some r := ⟨_, List.getElem?_eq_getElem (by have := HLA.out; omega)⟩
    obtain ⟨s, hs⟩ : ∃ r, lb[k]? = some r := ⟨_, List.getElem?_eq_getElem (by have := HLB.out; omega)⟩
    obtain ⟨ab, ao, rfl, hc⟩ := HA.out k r hr
    obtain ⟨bb, bo, rfl, hd⟩ := HB.out k s hs
    have hrc : wo.cell? ⟨ab, ao + k, none⟩ = some (.string r) := keepc _ _ _ _ hU.out hc
    have hrd : wo.cell? ⟨bb, bo + k, none⟩ = some (.string s) := keepc _ _ _ _ hU.out hd
    by_cases hrs : r = s
    case neg =>
      have HE := hide (show decide (la = lb) = false by simp; intro h; rw [h, hs] at hr; exact hrs (by simpa using hr.symm))
      have hrs2 : (r.toList == s.toList) = false := by rw [ByteArray.toList_eq, ByteArray.toList_eq]; simp; intro h; exact hrs (by cases r; cases s; simp_all)
      have HRS := hide hrs
      clear hr hs hc hd hrs
      go_upto_region 6 with fail
      refine wp_region_held_drew (S := (fun w' => w'.cell? ⟨ab, ao + k, none⟩ = some (.string r) ∧ w'.cell? ⟨bb, bo + k, none⟩ = some (.string s))) (by kernel_rfl) (by exact ⟨hrc, hrd⟩) (fun hHeld => ?_)
      clear hrc hrd
      obtain ⟨wd, hw⟩ : ∃ x, wo.drew = x := ⟨_, rfl⟩
      have u : Upd [] wo wd := by rw [← hw]; exact (Upd.refl [] _).drew
      rw [hw] at hHeld ⊢
      have HU1 := hide (hU.out.trans u (by simp))
      clear hw u
      refine wpAnyH_take (i := 0) (oi := ?oi0M8) (v := ?v0M8) ?oi0_0M8 (by kernel_rfl) ?ff0M8 ?rr0M8 ?hq0M8 (Or.inl ⟨?hw0M8, ?hy0M8⟩) (by assumption) ?rest0M8
      case oi0_0M8 => conv => lhs; whnf; arg 1; whnf
      case hq0M8 => exact fun _ _ _ h => h
      case ff0M8 | rr0M8 => kernel_rfl
      case hw0M8 => rfl
      case hy0M8 => intro w hSw; (try dsimp only at hSw); first | (go_simp; done) | (go_simp; with_reducible rfl)
      try simp only [Act.put, List.setIfInBounds_toArray, List.set_cons_zero, List.set_cons_succ]
      refine wpAnyH_take (i := 1) (oi := ?oi1M8) (v := ?v1M8) ?oi0_1M8 (by kernel_rfl) ?ff1M8 ?rr1M8 ?hq1M8 (Or.inl ⟨?hw1M8, ?hy1M8⟩) (by assumption) ?rest1M8
      case oi0_1M8 => conv => lhs; whnf; arg 1; whnf
      case hq1M8 => exact fun _ _ _ h => h
      case ff1M8 | rr1M8 => kernel_rfl
      case hw1M8 => rfl
      case hy1M8 => intro w hSw; (try dsimp only at hSw); first | (go_simp; done) | (go_simp; with_reducible rfl)
      try simp only [Act.put, List.setIfInBounds_toArray, List.set_cons_zero, List.set_cons_succ]
      refine wpAnyH_take (i := 2) (oi := ?oi2M8) (v := ?v2M8) ?oi0_2M8 (by kernel_rfl) ?ff2M8 ?rr2M8 ?hq2M8 (Or.inl ⟨?hw2M8, ?hy2M8⟩) (by assumption) ?rest2M8
      case oi0_2M8 => conv => lhs; whnf; arg 1; whnf
      case hq2M8 => exact fun _ _ _ h => h
      case ff2M8 | rr2M8 => kernel_rfl
      case hw2M8 => rfl
      case hy2M8 => intro w hSw; (try dsimp only at hSw); first | (go_simp; done) | (go_simp; with_reducible rfl)
      try simp only [Act.put, List.setIfInBounds_toArray, List.set_cons_zero, List.set_cons_succ]
      refine wpAnyH_take (i := 3) (oi := ?oi3M8) (v := ?v3M8) ?oi0_3M8 (by kernel_rfl) ?ff3M8 ?rr3M8 ?hq3M8 (Or.inl ⟨?hw3M8, ?hy3M8⟩) (by assumption) ?rest3M8
      case oi0_3M8 => conv => lhs; whnf; arg 1; whnf
      case hq3M8 => exact fun _ _ _ h => h
      case ff3M8 | rr3M8 => kernel_rfl
      case hw3M8 => rfl
      case hy3M8 => intro w hSw; (try dsimp only at hSw); first | (go_simp; done) | (go_simp; with_reducible rfl)
      try simp only [Act.put, List.setIfInBounds_toArray, List.set_cons_zero, List.set_cons_succ]
      refine wpAnyH_take (i := 4) (oi := ?oi4M8) (v := ?v4M8) ?oi0_4M8 (by kernel_rfl) ?ff4M8 ?rr4M8 ?hq4M8 (Or.inl ⟨?hw4M8, ?hy4M8⟩) (by assumption) ?rest4M8
      case oi0_4M8 => conv => lhs; whnf; arg 1; whnf
      case hq4M8 => exact fun _ _ _ h => h
      case ff4M8 | rr4M8 => kernel_rfl
      case hw4M8 => rfl
      case hy4M8 => intro w hSw; (try dsimp only at hSw); first | (go_simp; done) | (go_simp; with_reducible rfl)
      try simp only [Act.put, List.setIfInBounds_toArray, List.set_cons_zero, List.set_cons_succ]
      refine wpAnyH_take (i := 5) (oi := ?oi5M8) (v := ?v5M8) ?oi0_5M8 (by kernel_rfl) ?ff5M8 ?rr5M8 ?hq5M8 (Or.inl ⟨?hw5M8, ?hy5M8⟩) (by assumption) ?rest5M8
      case oi0_5M8 => conv => lhs; whnf; arg 1; whnf
      case hq5M8 => exact fun _ _ _ h => h
      case ff5M8 | rr5M8 => kernel_rfl
      case hw5M8 => rfl
      case hy5M8 => intro w hSw; (try dsimp only at hSw); first | (go_simp; done) | (go_simp; with_reducible rfl)
      try simp only [Act.put, List.setIfInBounds_toArray, List.set_cons_zero, List.set_cons_succ]
      refine wpAnyH_take (i := 6) (oi := ?oi6M8) (v := ?v6M8) ?oi0_6M8 (by kernel_rfl) ?ff6M8 ?rr6M8 ?hq6M8 (Or.inl ⟨?hw6M8, ?hy6M8⟩) (by assumption) ?rest6M8
      case oi0_6M8 => conv => lhs; whnf; arg 1; whnf
      case hq6M8 => exact fun _ _ _ h => h
      case ff6M8 | rr6M8 => kernel_rfl
      case hw6M8 => rfl
      case hy6M8 => intro w hSw; (try dsimp only at hSw); first | (go_simp; done) | (go_simp; with_reducible rfl)
      try simp only [Act.put, List.setIfInBounds_toArray, List.set_cons_zero, List.set_cons_succ]
      refine wpAnyH_take (i := 7) (oi := ?oi7M8) (v := ?v7M8) ?oi0_7M8 (by kernel_rfl) ?ff7M8 ?rr7M8 ?hq7M8 (Or.inl ⟨?hw7M8, ?hy7M8⟩) (by assumption) ?rest7M8
      case oi0_7M8 => conv => lhs; whnf; arg 1; whnf
      case hq7M8 => exact fun _ _ _ h => h
      case ff7M8 | rr7M8 => kernel_rfl
      case hw7M8 => rfl
      case hy7M8 => intro w hSw; (try dsimp only at hSw); first | (go_simp; done) | (go_simp; with_reducible rfl)
      try simp only [Act.put, List.setIfInBounds_toArray, List.set_cons_zero, List.set_cons_succ]
      refine wpAnyH_take (i := 8) (oi := ?oi8M9) (v := ?v8M9) ?oi0_8M9 (by kernel_rfl) ?ff8M9 ?rr8M9 ?hq8M9 (Or.inl ⟨?hw8M9, ?hy8M9⟩) (by assumption) ?rest8M9
      case oi0_8M9 => conv => lhs; whnf; arg 1; whnf
      case hq8M9 => exact fun _ _ _ h => h
      case ff8M9 | rr8M9 => kernel_rfl
      case hw8M9 => rfl
      case hy8M9 => intro w hSw; (try dsimp only at hSw); first | (go_simp; done) | (go_simp; with_reducible rfl)
      try simp only [Act.put, List.setIfInBounds_toArray, List.set_cons_zero, List.set_cons_succ]
      refine wpAnyH_done (by kernel_rfl) ?_ _
      go_wp2_with fail
      go_ret
      exact ⟨by rw [HE.out]; rfl, HU1.out⟩
    have HTN := hide (show la.take (k + 1) = lb.take (k + 1) by rw [List.take_add_one, List.take_add_one, hr, hs, hT.out, hrs])
    have hrs2 : (r.toList == s.toList) = true := by rw [hrs]; simp
    clear hr hs hc hd hrs
    go_upto_region 6 with fail
    refine wp_region_held_drew (S := (fun w' => w'.cell? ⟨ab, ao + k, none⟩ = some (.string r) ∧ w'.cell? ⟨bb, bo + k, none⟩ = some (.string s))) (by kernel_rfl) (by exact ⟨hrc, hrd⟩) (fun hHeld => ?_)
    clear hrc hrd
    obtain ⟨wd, hw⟩ : ∃ x, wo.drew = x := ⟨_, rfl⟩
    have u : Upd [] wo wd := by rw [← hw]; exact (Upd.refl [] _).drew
    rw [hw] at hHeld ⊢
    have HU1 := hide (hU.out.trans u (by simp))
    clear hw u
    refine wpAnyH_take (i := 0) (oi := ?oi0M12) (v := ?v0M12) ?oi0_0M12 (by kernel_rfl) ?ff0M12 ?rr0M12 ?hq0M12 (Or.inl ⟨?hw0M12, ?hy0M12⟩) (by assumption) ?rest0M12
    case oi0_0M12 => conv => lhs; whnf; arg 1; whnf
    case hq0M12 => exact fun _ _ _ h => h
    case ff0M12 | rr0M12 => kernel_rfl
    case hw0M12 => rfl
    case hy0M12 => intro w hSw; (try dsimp only at hSw); first | (go_simp; done) | (go_simp; with_reducible rfl)
    try simp only [Act.put, List.setIfInBounds_toArray, List.set_cons_zero, List.set_cons_succ]
    refine wpAnyH_take (i := 1) (oi := ?oi1M12) (v := ?v1M12) ?oi0_1M12 (by kernel_rfl) ?ff1M12 ?rr1M12 ?hq1M12 (Or.inl ⟨?hw1M12, ?hy1M12⟩) (by assumption) ?rest1M12
    case oi0_1M12 => conv => lhs; whnf; arg 1; whnf
    case hq1M12 => exact fun _ _ _ h => h
    case ff1M12 | rr1M12 => kernel_rfl
    case hw1M12 => rfl
    case hy1M12 => intro w hSw; (try dsimp only at hSw); first | (go_simp; done) | (go_simp; with_reducible rfl)
    try simp only [Act.put, List.setIfInBounds_toArray, List.set_cons_zero, List.set_cons_succ]
    refine wpAnyH_take (i := 2) (oi := ?oi2M12) (v := ?v2M12) ?oi0_2M12 (by kernel_rfl) ?ff2M12 ?rr2M12 ?hq2M12 (Or.inl ⟨?hw2M12, ?hy2M12⟩) (by assumption) ?rest2M12
    case oi0_2M12 => conv => lhs; whnf; arg 1; whnf
    case hq2M12 => exact fun _ _ _ h => h
    case ff2M12 | rr2M12 => kernel_rfl
    case hw2M12 => rfl
    case hy2M12 => intro w hSw; (try dsimp only at hSw); first | (go_simp; done) | (go_simp; with_reducible rfl)
    try simp only [Act.put, List.setIfInBounds_toArray, List.set_cons_zero, List.set_cons_succ]
    refine wpAnyH_take (i := 3) (oi := ?oi3M12) (v := ?v3M12) ?oi0_3M12 (by kernel_rfl) ?ff3M12 ?rr3M12 ?hq3M12 (Or.inl ⟨?hw3M12, ?hy3M12⟩) (by assumption) ?rest3M12
    case oi0_3M12 => conv => lhs; whnf; arg 1; whnf
    case hq3M12 => exact fun _ _ _ h => h
    case ff3M12 | rr3M12 => kernel_rfl
    case hw3M12 => rfl
    case hy3M12 => intro w hSw; (try dsimp only at hSw); first | (go_simp; done) | (go_simp; with_reducible rfl)
    try simp only [Act.put, List.setIfInBounds_toArray, List.set_cons_zero, List.set_cons_succ]
    refine wpAnyH_take (i := 4) (oi := ?oi4M12) (v := ?v4M12) ?oi0_4M12 (by kernel_rfl) ?ff4M12 ?rr4M12 ?hq4M12 (Or.inl ⟨?hw4M12, ?hy4M12⟩) (by assumption) ?rest4M12
    case oi0_4M12 => conv => lhs; whnf; arg 1; whnf
    case hq4M12 => exact fun _ _ _ h => h
    case ff4M12 | rr4M12 => kernel_rfl
    case hw4M12 => rfl
    case hy4M12 => intro w hSw; (try dsimp only at hSw); first | (go_simp; done) | (go_simp; with_reducible rfl)
    try simp only [Act.put, List.setIfInBounds_toArray, List.set_cons_zero, List.set_cons_succ]
    refine wpAnyH_take (i := 5) (oi := ?oi5M12) (v := ?v5M12) ?oi0_5M12 (by kernel_rfl) ?ff5M12 ?rr5M12 ?hq5M12 (Or.inl ⟨?hw5M12, ?hy5M12⟩) (by assumption) ?rest5M12
    case oi0_5M12 => conv => lhs; whnf; arg 1; whnf
    case hq5M12 => exact fun _ _ _ h => h
    case ff5M12 | rr5M12 => kernel_rfl
    case hw5M12 => rfl
    case hy5M12 => intro w hSw; (try dsimp only at hSw); first | (go_simp; done) | (go_simp; with_reducible rfl)
    try simp only [Act.put, List.setIfInBounds_toArray, List.set_cons_zero, List.set_cons_succ]
    refine wpAnyH_take (i := 6) (oi := ?oi6M12) (v := ?v6M12) ?oi0_6M12 (by kernel_rfl) ?ff6M12 ?rr6M12 ?hq6M12 (Or.inl ⟨?hw6M12, ?hy6M12⟩) (by assumption) ?rest6M12
    case oi0_6M12 => conv => lhs; whnf; arg 1; whnf
    case hq6M12 => exact fun _ _ _ h => h
    case ff6M12 | rr6M12 => kernel_rfl
    case hw6M12 => rfl
    case hy6M12 => intro w hSw; (try dsimp only at hSw); first | (go_simp; done) | (go_simp; with_reducible rfl)
    try simp only [Act.put, List.setIfInBounds_toArray, List.set_cons_zero, List.set_cons_succ]
    refine wpAnyH_take (i := 7) (oi := ?oi7M12) (v := ?v7M12) ?oi0_7M12 (by kernel_rfl) ?ff7M12 ?rr7M12 ?hq7M12 (Or.inl ⟨?hw7M12, ?hy7M12⟩) (by assumption) ?rest7M12
    case oi0_7M12 => conv => lhs; whnf; arg 1; whnf
    case hq7M12 => exact fun _ _ _ h => h
    case ff7M12 | rr7M12 => kernel_rfl
    case hw7M12 => rfl
    case hy7M12 => intro w hSw; (try dsimp only at hSw); first | (go_simp; done) | (go_simp; with_reducible rfl)
    try simp only [Act.put, List.setIfInBounds_toArray, List.set_cons_zero, List.set_cons_succ]
    refine wpAnyH_take (i := 8) (oi := ?oi8M13) (v := ?v8M13) ?oi0_8M13 (by kernel_rfl) ?ff8M13 ?rr8M13 ?hq8M13 (Or.inl ⟨?hw8M13, ?hy8M13⟩) (by assumption) ?rest8M13
    case oi0_8M13 => conv => lhs; whnf; arg 1; whnf
    case hq8M13 => exact fun _ _ _ h => h
    case ff8M13 | rr8M13 => kernel_rfl
    case hw8M13 => rfl
    case hy8M13 => intro w hSw; (try dsimp only at hSw); first | (go_simp; done) | (go_simp; with_reducible rfl)
    try simp only [Act.put, List.setIfInBounds_toArray, List.set_cons_zero, List.set_cons_succ]
    refine wpAnyH_done (by kernel_rfl) ?_ _
    go_wp2_with fail
    go_roundw
    case rel => exact ⟨k + 1, by omega, by go_num, HTN, HU1⟩
    case measure => simp [intOf] <;> omega

end Go.Proofs.YtafjolibfbccbaaGreatDoor

namespace Go.Proofs.YtafjolibfbccbaaGreatDoor
open Go.RowKit
set_option maxRecDepth 100000
set_option maxHeartbeats 4000000

theorem putStrS_short (r : List UInt8) (h : r.length < 64) : (putStrS r).length = r.length + 1 := by
  unfold putStrS
  rw [List.length_append, putS_length]
  have hz : zigS (r.length : Int) = 2 * r.length := by unfold zigS; rw [if_neg (by omega)]; omega
  rw [hz, groupsS_last (by omega)]
  simp; omega
theorem putStrS_mid (r : List UInt8) (h : 64 ≤ r.length) (h2 : r.length < 8192) : (putStrS r).length = r.length + 2 := by
  unfold putStrS
  rw [List.length_append, putS_length]
  have hz : zigS (r.length : Int) = 2 * r.length := by unfold zigS; rw [if_neg (by omega)]; omega
  rw [hz, groupsS_more (by omega), groupsS_last (by omega)]
  simp; omega
theorem lenL_cons (r : List UInt8) (l : List (List UInt8)) : lenL (r :: l) = 33 + (putStrS r).length + lenL l := by unfold lenL; rw [List.map_cons, List.sum_cons]
theorem lenL_nil : lenL [] = 0 := rfl
/-- The strings of a row of the call's own. -/
theorem strs_own {w : World} {base n c : Nat} {A : Option Addr} {l : List (List UInt8)} (h : w.ownsRow base 9 1 (.slice A n c) n (l.map strV)) : StrsAt w A (l.map fun r => ⟨r.toArray⟩) := by
  intro j s hs
  rw [List.getElem?_map, Option.map_eq_some_iff] at hs
  obtain ⟨r, hr, rfl⟩ := hs
  rcases h.2 with ⟨hv, h0⟩ | ⟨g, cap, cur, hv, _⟩
  · have hl := h.1
    rw [List.length_map] at hl
    have := (List.getElem?_eq_some_iff.1 hr).1
    omega
  · simp only [Value.slice.injEq] at hv
    obtain ⟨rfl, _, rfl⟩ := hv
    have h1 := h.cells (g := g) rfl j (strV r) (by rw [List.getElem?_map, hr]; rfl)
    have e : (⟨g, 0, none⟩ : Addr).add j = ⟨g, 0 + j, none⟩ := by unfold Addr.add; split <;> simp_all
    rw [e] at h1
    exact ⟨g, 0, rfl, h1⟩
/-- A row of strings that was just laid. -/
theorem strs_new (w : World) (l : List ByteArray) : StrsAt (w.alloc (.cells (l.map Value.string).toArray 9)) (some ⟨w.heap.size, 0, none⟩) l := by
  intro j s hs
  refine ⟨_, _, rfl, ?_⟩
  have h := (Blk.new w 9 (l.map Value.string)).cell (0 + j)
  rw [h, Nat.zero_add, List.getElem?_map, hs]
  rfl
theorem content_any {F : List Nat} {g : Nat} {D : DiskS} (w : World) (h : IsDisk w F g D) (ho : D.off = false) :
    Calls Tryz.prog 22 #[.pointer (some ⟨g, 0, none⟩)] w fun e w' => e = .returned (.string ⟨D.vis.toArray⟩) ∧ w = w' := by
  obtain ⟨gd, gv, DA, dc, hDA⟩ := h
  have hD : IsDisk w F g D := ⟨_, _, _, _, hDA⟩
  have hOk := hDA.ok
  have HSZ := hide (size_any w (hDA.head.cell 2))
  have HRD := hide (read_any 0 (D.sure.length : Int) w hD)
  have hrd : D.read 0 (D.sure.length : Int) = (D.vis, 0) := by
    unfold DiskS.read inB
    rw [if_neg (by simp [ho]), if_pos (by simp)]
    simp only [Int.toNat_natCast, List.drop_zero, Int.toNat_zero]
    rw [List.take_of_length_le (by have := hOk.len; omega)]
  rw [hrd] at HRD
  obtain ⟨N, hN⟩ : ∃ N, D.sure.length = N := ⟨_, rfl⟩
  rw [hN] at HSZ HRD
  clear hDA hD hOk ho hrd hN
  go_enter Tryz.func22, Tryz.ntmps22
  go_wp2_with fail
  refine HSZ.out.mono ?_
  rintro e w' ⟨rfl, rfl⟩
  go_wp2_with fail
  refine HRD.out.mono ?_
  rintro e w' ⟨rfl, rfl⟩
  go_wp2_with fail
  go_ret
  exact ⟨rfl, rfl⟩

/-- The records of the example. -/
def R1 : List ByteArray := [⟨#[97, 98]⟩, ⟨#[]⟩]
def zs (n : Nat) : ByteArray := ⟨(List.replicate n 0).toArray⟩
def L1 : List (List UInt8) := bytesL R1
def L2 : List (List UInt8) := L1 ++ bytesL [zs 95]
theorem zs_size (n : Nat) : (zs n).size = n := by show (List.replicate n (0 : UInt8)).toArray.size = n; simp
theorem zs_bytes (n : Nat) : bytesL [zs n] = [List.replicate n 0] := rfl
theorem lenL_1 : lenL L1 = 70 := by
  unfold L1 R1 bytesL
  rw [List.map_cons, List.map_cons, List.map_nil, lenL_cons, lenL_cons, lenL_nil, putStrS_short _ (by decide), putStrS_short _ (by decide)]
  rfl
theorem lenL_zs (n : Nat) (h : 64 ≤ n) (h2 : n < 8192) : lenL (bytesL [zs n]) = n + 35 := by
  rw [zs_bytes, lenL_cons, lenL_nil, putStrS_mid _ (by simp; omega) (by simp; omega)]
  simp; omega
theorem lenL_2 : lenL L2 = 200 := by unfold L2; rw [lenL_append, lenL_1, lenL_zs 95 (by omega) (by omega)]
theorem R1_small : ∀ s ∈ R1, s.size ≤ 65536 := by decide
theorem L2_small : ∀ r ∈ L2, r.length ≤ 65536 := by
  intro r hr
  rcases List.mem_append.1 hr with h | h
  · exact lens_of R1 R1_small r h
  · exact lens_of [zs 95] (by simp [zs_size]) r h
theorem k0 (ks : List Int) : OpenS ks (DiskS.fresh 200) = (some (tapeOf ks []), diskOf 200 (bytesOf ks []), 0) := by
  rw [fresh_of]
  exact open_of ks [] 200 (diskOf 200 []) rfl (by unfold diskOf bytesOf; simp [addL]) (by simp)
theorem k1 (ks : List Int) : appendS ks (tapeOf ks []) (diskOf 200 (bytesOf ks [])) false R1 = (tapeOf ks L1, diskOf 200 (bytesOf ks L1), false, 0) := append_ok ks 200 [] R1 R1_small (by have := lenL_1; unfold L1 at this; rw [this, lenL_nil]; omega)
theorem k2 (ks : List Int) : appendS ks (tapeOf ks L1) (diskOf 200 (bytesOf ks L1)) false [zs 96] = (tapeOf ks L1, diskOf 200 (bytesOf ks L1), false, 341) :=
  append_full ks 200 L1 [zs 96] _ (diskOf_size _ _ (by rw [bytesOf_length, lenL_1]; omega)) (by simp [zs_size]) (by rw [lenL_1]; omega) (by rw [lenL_1, lenL_zs 96 (by omega) (by omega)]; omega)
theorem k3 (ks : List Int) : appendS ks (tapeOf ks L1) (diskOf 200 (bytesOf ks L1)) false [zs 95] = (tapeOf ks L2, diskOf 200 (bytesOf ks L2), false, 0) :=
  append_ok ks 200 L1 [zs 95] (by simp [zs_size]) (by rw [lenL_1, lenL_zs 95 (by omega) (by omega)]; omega)
theorem diskOf_vis (n : Nat) (s : List UInt8) : (diskOf n s).vis = s ++ List.replicate (n - s.length) 0 := rfl
theorem k4 (ks : List Int) : OpenS ks (diskOf 200 (bytesOf ks L2)) = (some (tapeOf ks L2), diskOf 200 (bytesOf ks L2), 0) :=
  open_of ks L2 _ _ rfl (diskOf_vis _ _) L2_small
theorem k5 (ks : List Int) : ∃ D, (diskOf 200 (bytesOf ks L2)).write 0 (⟨#[2]⟩ : ByteArray).data.toList = (D, 0) ∧ OpenS ks D = (none, D, 342) ∧ D.sure.length = 200 ∧ D.pend.length = 1 := by
  have hl := bytesOf_length ks L2
  rw [lenL_2] at hl
  obtain ⟨b, t, hb⟩ : ∃ b t, bytesOf ks L2 = b :: t := by
    cases h : bytesOf ks L2 with
    | nil => rw [h] at hl; simp at hl
    | cons b t => exact ⟨b, t, rfl⟩
  rw [hb] at hl
  have e := write_on (diskOf 200 (b :: t)) [] [b] (t ++ List.replicate (200 - (b :: t).length) 0) [2] 0 rfl rfl rfl (by unfold diskOf; simp) rfl rfl
  rw [hb]
  exact ⟨_, e, open_bad ks _ rfl 2 (t ++ List.replicate (200 - (b :: t).length) 0) (by simp) (by decide) (by decide), diskOf_size _ _ (by omega), rfl⟩
theorem room_of (ks : List Int) (n : Nat) (l : List (List UInt8)) (h : lenL l ≤ n) : (diskOf n (bytesOf ks l)).sure.length - (tapeOf ks l).size = n - lenL l := by
  rw [diskOf_size _ _ (by rw [bytesOf_length]; exact h), tapeOf_size, bytesOf_length]
theorem size_le (ks : List Int) (n : Nat) (l : List (List UInt8)) (h : lenL l ≤ n) : (tapeOf ks l).size ≤ (diskOf n (bytesOf ks l)).sure.length := by
  rw [diskOf_size _ _ (by rw [bytesOf_length]; exact h), tapeOf_size, bytesOf_length]; exact h
theorem recs_le (ks : List Int) (l : List (List UInt8)) (h : l.length ≤ 1000000000) : (tapeOf ks l).recs.length ≤ 1000000000 := by rw [tapeOf_recs]; exact h
theorem conv_zeros (w : World) (n g : Nat) (h : Blk w g 5 (bCells (List.replicate n 0))) : (Go.convert 39 9 (.slice (some ⟨g, 0, none⟩) n n)).run Tryz.prog w = .ok (.string (zs n)) w := by
  have hcv := run_conv_bytes h 39 5 9 Tryz.underlying39 Tryz.underlying5 Tryz.underlying9 0 n n (by simp)
  rw [show (List.drop 0 (List.replicate n (0 : UInt8))).take n = List.replicate n 0 by simp] at hcv
  exact hcv
end Go.Proofs.YtafjolibfbccbaaGreatDoor

namespace Go.Proofs.YtafjolibfbccbaaGreatDoor
open Go.RowKit Go.Shelf
set_option maxRecDepth 100000
set_option maxHeartbeats 20000000

theorem it_own_some {w : World} {base e size n c : Nat} {A : Option Addr} {xs : List Value} (h : w.ownsRow base e size (.slice A n c) n xs) (hn : 0 < n) : ∃ g cur, A = some ⟨g, 0, none⟩ ∧ base ≤ g ∧ w.heap[g]? = some (.cells cur e (0, 0)) := by
  rcases h.2 with ⟨_, h0⟩ | ⟨g, cap, cur, hv, hb, hg, _⟩
  · omega
  · obtain ⟨rfl, rfl⟩ : A = some ⟨g, 0, none⟩ ∧ c = cap := by simpa using hv
    exact ⟨g, cur, rfl, hb, hg⟩
theorem refZig (x : Nat) (w : World) (h : x ≤ 3600) :
    Calls Tryz.prog 86 #[.int .i64 x] w fun e w' => e = .returned (.int .u64 ((2 * x : Nat) : Int)) ∧ w = w' := by
  have h0 : ¬ (x : Int) < 0 := by omega
  have h0d : decide ((x : Int) < 0) = false := decide_eq_false h0
  have a1 : IntKind.u64.wrap (x : Int) = x := by rw [IntKind.wrap_u64]; omega
  obtain ⟨z, hz⟩ : ∃ z : Nat, 2 * x = z := ⟨_, rfl⟩
  have a2 : IntKind.u64.wrap ((x : Int) * 2) = (z : Int) := by rw [IntKind.wrap_u64]; omega
  rw [hz]
  clear hz h
  go_enter Tryz.func86, Tryz.ntmps86
  go_wp2_with fail
  go_ret
  exact ⟨rfl, rfl⟩
theorem put_conv (z : Nat) (base g c : Nat) (W : World) (hrow : W.ownsRow base 5 1 (.slice (some ⟨g, 0, none⟩) (groupsS z).length c) (groupsS z).length ((groupsS z).map gCell)) :
    (convert 39 9 (.slice (some ⟨g, 0, none⟩) (groupsS z).length c)).run Tryz.prog W = .ok (.string ⟨((groupsS z).map fun y => UInt8.ofNat (grpB y)).toArray⟩) W := by
  obtain ⟨bs, hbs⟩ : ∃ bs, ByteArray.mk ((groupsS z).map fun x => UInt8.ofNat (grpB x)).toArray = bs := ⟨_, rfl⟩
  have hsz : bs.size = (groupsS z).length := by rw [← hbs]; simp [ByteArray.size]
  have hby : Lib.Bytes W g 0 bs := fun i hi => by
    have h1 := putS_bytes z i (by rw [hbs]; exact hi)
    have h2 := World.ownsRow.cells hrow (g := g) rfl i _ h1
    have e : (⟨g, 0, none⟩ : Addr).add i = ⟨g, i, none⟩ := by unfold Addr.add; split <;> simp_all
    rw [e] at h2
    rw [Nat.zero_add, h2]
    subst hbs
    rfl
  have hconv := Lib.run_convert_whole (P := Tryz.prog) W 39 5 9 Tryz.underlying39 Tryz.underlying5 Tryz.underlying9 g 0 bs hby c
  rw [hsz] at hconv
  rw [hconv, hbs]
theorem refPutInt (x : Nat) (w : World) (h : x ≤ 3600) :
    Calls Tryz.prog 56 #[.int .i64 x] w fun e w' => e = .returned (.tuple #[.string ⟨(putS x).toArray⟩, .int .i64 0]) ∧ Upd [] w w' := by
  have d1 : ¬ (x : Int) < -4611686018427387903 := by omega
  have d2 : ¬ (4611686018427387903 : Int) < x := by omega
  have d3 : decide ((4611686018427387903 : Int) < x) = false := decide_eq_false d2
  obtain ⟨Z, hZ⟩ : ∃ Z : Nat, 2 * x = Z := ⟨_, rfl⟩
  have hp : putS x = (groupsS Z).map fun y => UInt8.ofNat (grpB y) := by
    unfold putS zigS
    rw [if_neg (by omega)]
    have : (2 * (x : Int)).toNat = Z := by omega
    rw [this]
  have ZG := hide (fun W => refZig x W h)
  rw [hp]
  have hZ9 : Z ≤ 7200 := by omega
  have HZ := hide hZ
  clear hp hZ
  go_enter Tryz.func56, Tryz.ntmps56
  go_wp2_with fail
  refine (ZG.out _).mono ?_
  rintro e w' ⟨rfl, rfl⟩
  rw [HZ.out]
  go_wp2_with fail
  go_loopw [4, 5] (fun s4 s5 wr => ∃ (z : Nat) (A : Option Addr) (n c : Nat) (pre : List (Nat × Bool)), z ≤ 7200 ∧ s4 = .int .u64 z ∧ s5 = .slice A n c ∧ n + z ≤ 7200 ∧ Hid (n = pre.length ∧ groupsS Z = pre ++ groupsS z) ∧ Hid (wr.ownsRow w.heap.size 5 1 (.slice A n c) n (pre.map gCell)) ∧ Hid (Upd [] w wr)) (fun z _ _ => (intOf z).toNat)
  case atStart => exact ⟨Z, none, 0, 0, [], hZ9, rfl, rfl, by omega, hide ⟨rfl, rfl⟩, hide (World.ownsRow_nil _ _ _ _), Upd.refl _ _⟩
  case round =>
    obtain ⟨z, A, n, c, pre, hz9, rfl, rfl, hn, hg, hown, hu⟩ := hrel
    obtain ⟨wo, rfl⟩ : ∃ wo : World, wo = wr := ⟨_, rfl⟩
    by_cases hz : 128 ≤ z
    · have hzi : (128 : Int) ≤ z := by omega
      obtain ⟨a, ha⟩ : ∃ a, z % 128 = a := ⟨_, rfl⟩
      obtain ⟨q, hq⟩ : ∃ q, z / 128 = q := ⟨_, rfl⟩
      obtain ⟨y, hy⟩ : ∃ y, a + 128 = y := ⟨_, rfl⟩
      have b1 : (z : Int).tmod 128 = (a : Int) := by rw [Int.tmod_eq_emod_of_nonneg (by omega)]; omega
      have b2 : (z : Int).tdiv 128 = (q : Int) := by rw [Int.tdiv_eq_ediv_of_nonneg (by omega)]; omega
      have b3 : IntKind.u64.wrap (a : Int) = a := by rw [IntKind.wrap_u64]; omega
      have b4 : IntKind.u64.wrap ((a : Int) + 128) = (y : Int) := by rw [IntKind.wrap_u64]; omega
      have b5 : IntKind.u64.wrap (q : Int) = q := by rw [IntKind.wrap_u64]; omega
      have b6 : IntKind.u8.wrap (y : Int) = y := by rw [IntKind.wrap_u8]; omega
      have hqz : q < z := by omega
      have HG := hide (show n + 1 = (pre ++ [((a, false) : Nat × Bool)]).length ∧ groupsS Z = (pre ++ [(a, false)]) ++ groupsS q by
        refine ⟨by rw [List.length_append, hg.out.1]; rfl, ?_⟩
        rw [hg.out.2, groupsS_more (by omega), ha, hq, List.append_assoc]
        rfl)
      have HE := hide (show pre.map gCell ++ [.int .u8 (y : Int)] = (pre ++ [((a, false) : Nat × Bool)]).map gCell by rw [List.map_append, ← hy]; rfl)
      clear ha hq hy
      have O1 := hide (show ∀ u ∈ [Value.int .u8 (y : Int)], u.oneCell' = true by simp [Value.oneCell'])
      have O3 := hide (show n + 1 ≤ maxLen by unfold maxLen; omega)
      have O4 := hide (show (n + 1) * 1 ≤ 140737488355328 by omega)
      have OB := hide (hown.out.alloc (.cells #[.int .u8 (y : Int)] 5))
      have OS := hide (show w.heap.size ≤ (wo.alloc (.cells #[.int .u8 (y : Int)] 5)).heap.size by have := hu.out.size; rw [World.size_alloc]; omega)
      go_wp2_with (at_builtin; refine wpList_append_base rfl (.tmp 16) (.tmp 21) _ rfl w.heap.size 5 _ 1 1 Tryz.underlying39 it_info_byte rfl (by decide) A n c _ rfl OB.out ⟨wo.heap.size, 0, none⟩ 1 1 [.int .u8 (y : Int)] rfl rfl (cell_one_new _ _ _) O1.out O3.out O4.out OS.out ?_; intro A5 c5 w5 h5 u5 _; have H5 := hide h5; have V5 := hide ((hu.out.alloc _).trans u5 (fun z hz => .inr (it_own_block hown.out z (by rw [ownBlock_slice]; simpa using hz)))); clear h5 u5)
      go_roundw
      case rel => exact ⟨q, A5, n + 1, c5, pre ++ [(a, false)], by omega, rfl, rfl, by omega, HG, hide (by rw [← HE.out]; exact H5.out), V5⟩
      case measure => simp [intOf] <;> omega
    · have hzi : ¬ (128 : Int) ≤ z := by omega
      have hzl : z < 128 := by omega
      have b6 : IntKind.u8.wrap (z : Int) = z := by rw [IntKind.wrap_u8]; omega
      have HG := hide (show n + 1 = (pre ++ [((z, true) : Nat × Bool)]).length ∧ groupsS Z = pre ++ [(z, true)] by
        refine ⟨by rw [List.length_append, hg.out.1]; rfl, ?_⟩
        rw [hg.out.2, groupsS_last hzl])
      have HE := hide (show pre.map gCell ++ [.int .u8 (z : Int)] = (groupsS Z).map gCell by rw [HG.out.2, List.map_append]; rfl)
      have HL := hide (show n + 1 = (groupsS Z).length by rw [HG.out.2]; exact HG.out.1)
      clear hg
      have O1 := hide (show ∀ u ∈ [Value.int .u8 (z : Int)], u.oneCell' = true by simp [Value.oneCell'])
      have O3 := hide (show n + 1 ≤ maxLen by unfold maxLen; omega)
      have O4 := hide (show (n + 1) * 1 ≤ 140737488355328 by omega)
      have OB := hide (hown.out.alloc (.cells #[.int .u8 (z : Int)] 5))
      have OS := hide (show w.heap.size ≤ (wo.alloc (.cells #[.int .u8 (z : Int)] 5)).heap.size by have := hu.out.size; rw [World.size_alloc]; omega)
      have CV := hide (show ∀ (g c5 : Nat) (w5 : World), w5.ownsRow w.heap.size 5 1 (.slice (some ⟨g, 0, none⟩) (n + 1) c5) (n + 1) (pre.map gCell ++ [.int .u8 (z : Int)]) →
          (convert 39 9 (.slice (some ⟨g, 0, none⟩) (n + 1) c5)).run Tryz.prog w5 = .ok (.string ⟨((groupsS Z).map fun y => UInt8.ofNat (grpB y)).toArray⟩) w5 from fun g c5 w5 h => by
        rw [HE.out, HL.out] at h
        rw [HL.out]
        exact put_conv Z _ g c5 w5 h)
      go_wp2_with (at_builtin; refine wpList_append_base rfl (.tmp 25) (.tmp 28) _ rfl w.heap.size 5 _ 1 1 Tryz.underlying39 it_info_byte rfl (by decide) A n c _ rfl OB.out ⟨wo.heap.size, 0, none⟩ 1 1 [.int .u8 (z : Int)] rfl rfl (cell_one_new _ _ _) O1.out O3.out O4.out OS.out ?_; intro A5 c5 w5 h5 u5 _; obtain ⟨g, cur, hA, _, _⟩ := it_own_some h5 (Nat.succ_pos _); subst hA; have hcv := CV.out g c5 w5 h5; have V5 := hide ((hu.out.alloc _).trans u5 (fun z hz => .inr (it_own_block hown.out z (by rw [ownBlock_slice]; simpa using hz)))); clear h5 u5)
      go_ret2
      exact ⟨rfl, V5.out⟩
theorem refPutString (s : ByteArray) (w : World) (h : s.size ≤ 3600) :
    Calls Tryz.prog 73 #[.string s] w fun e w' => e = .returned (.tuple #[.string ⟨(putStrS s.data.toList).toArray⟩, .int .i64 0]) ∧ Upd [] w w' := by
  obtain ⟨n, hn⟩ : ∃ n, s.size = n := ⟨_, rfl⟩
  have hl : s.data.toList.length = n := by rw [← hn]; exact Lib.size_eq s ▸ rfl
  have hpl := putS_len (n : Int) (by omega) (by omega)
  have hg : ¬ (65536 : Int) < (n : Int) := by omega
  obtain ⟨ps, hps⟩ : ∃ ps : ByteArray, ⟨(putS (n : Int)).toArray⟩ = ps := ⟨_, rfl⟩
  have HP := hide (refPutInt n w (by omega))
  rw [hps] at HP
  have hsz : ps.size = (putS (n : Int)).length := by rw [← hps]; simp [ByteArray.size]
  have hcat : (⟨(putStrS s.data.toList).toArray⟩ : ByteArray) = ps ++ s := by
    unfold putStrS
    rw [hl, ← hps]
    apply ByteArray.ext
    apply Array.toList_inj.1
    rw [ByteArray.data_append]
    simp
  have hsum : ¬ 9223372036854775807 < ps.size + n := by omega
  have HC := hide hcat
  clear hps hsz hcat hpl hl h
  go_enter Tryz.func73, Tryz.ntmps73
  go_wp2_with fail
  refine HP.out.mono ?_
  rintro e w1 ⟨rfl, u⟩
  have HU := hide u
  clear u
  go_wp2_with fail
  refine bodyPost_ret (v := .tuple #[.string (ps ++ s), .int .i64 0]) (by simp [results, Tryz.results73, go_sem]) rfl ?_
  exact ⟨by rw [HC.out], HU.out⟩
end Go.Proofs.YtafjolibfbccbaaGreatDoor

namespace Go.Proofs.YtafjolibfbccbaaGreatDoor
open Go.RowKit
set_option maxRecDepth 100000
set_option maxHeartbeats 4000000

theorem sane_any {ks : List Int} {a0 : Addr} (w : World) (hl : Laid w.heap.size ks a0 w) : Calls Tryz.prog 8 #[] w fun e w' => e = .returned (.bool true) ∧ Below w.heap.size w w' := by
  have HL := hide hl
  clear hl
  go_enter Tryz.func8, Tryz.ntmps8
  go_wp2_with fail
  refine (new_in 200 w.heap.size w _ (Below.refl _ _) (Nat.le_refl _) [] (by simp) (by omega) (by omega)).mono ?_
  rintro e w1 ⟨g, rfl, d0, _, _⟩
  have C1 := open_in HL.out d0 (by decide)
  rw [k0] at C1
  have HC := hide C1
  clear d0 C1
  go_wp2_with fail
  refine HC.out.mono ?_
  rintro e w2 ⟨_, hj⟩
  try simp only at hj
  obtain ⟨jb, rfl, hj⟩ := hj
  have HJ := hide hj
  have HRE := hide (records_in hj (by have := recs_le ks [] (by decide); omega))
  rw [tapeOf_recs] at HRE
  clear hj HC
  go_wp2_with fail
  refine HRE.out.mono ?_
  rintro e w3 ⟨A3, c3, rfl, _, u⟩
  replace HJ := hide (HJ.out.step u (by simp))
  clear u HRE
  have HRO := hide (room_in HJ.out (size_le ks 200 [] (by decide)))
  rw [room_of ks 200 [] (by decide)] at HRO
  rw [show ((200 - lenL [] : Nat) : Int) = 200 from rfl] at HRO
  simp only [List.length_nil]
  go_wp2_with fail
  refine HRO.out.mono ?_
  rintro e w4 ⟨rfl, u⟩
  replace HJ := hide (HJ.out.step u (by simp))
  clear u HRO
  go_wp2_with fail
  replace HJ := hide (HJ.out.step ((Upd.refl [] w4).alloc (.cells #[.string ⟨#[97, 98]⟩, .string ⟨#[]⟩] 9)) (by simp))
  have C1 := append_in (some ⟨w4.heap.size, 0, none⟩) 2 2 R1 HL.out HJ.out rfl (by decide) (strs_new w4 R1) (by decide) (by simp [diskOf]) (size_le ks 200 _ (by first | (rw [lenL_1]; decide) | (rw [lenL_nil]; decide))) (by rw [tapeOf_head]; decide) (recs_le ks _ (by decide))
  rw [k1 ks] at C1
  have HC := hide C1
  clear C1
  refine HC.out.mono ?_
  rintro e w5 ⟨rfl, hj, _⟩
  replace HJ := hide hj
  clear hj HC
  obtain ⟨wm, hwm⟩ : ∃ x, w5.alloc (.cells (bCells (List.replicate 96 0)).toArray 5) = x := ⟨_, rfl⟩
  have u : Upd [] w5 wm := by rw [← hwm]; exact (Upd.refl [] _).alloc _
  have hm := make_bytes 96 (by decide) w5
  rw [hwm, show ((96 : Nat) : Int) = 96 from rfl] at hm
  have hcv := conv_zeros wm 96 w5.heap.size (by rw [← hwm]; exact Blk.new w5 _ _)
  replace HJ := hide (HJ.out.step (u.alloc (.cells #[.string (zs 96)] 9)) (by simp))
  clear hwm u
  go_wp2_with fail
  clear hm hcv
  have C1 := append_in (some ⟨wm.heap.size, 0, none⟩) 1 1 [zs 96] HL.out HJ.out rfl (by decide) (strs_new wm [zs 96]) (by simp [zs_size]) (by simp [diskOf]) (size_le ks 200 _ (by first | (rw [lenL_1]; decide) | (rw [lenL_nil]; decide))) (by rw [tapeOf_head]; decide) (recs_le ks _ (by decide))
  rw [k2 ks] at C1
  have HC := hide C1
  clear C1
  refine HC.out.mono ?_
  rintro e w6 ⟨rfl, hj, _⟩
  replace HJ := hide hj
  clear hj HC
  have HRO := hide (room_in HJ.out (size_le ks 200 L1 (by rw [lenL_1]; decide)))
  rw [room_of ks 200 L1 (by rw [lenL_1]; decide), lenL_1] at HRO
  rw [show ((200 - 70 : Nat) : Int) = 130 from rfl] at HRO
  go_wp2_with fail
  refine HRO.out.mono ?_
  rintro e w7 ⟨rfl, u⟩
  replace HJ := hide (HJ.out.step u (by simp))
  clear u HRO
  obtain ⟨wm, hwm⟩ : ∃ x, w7.alloc (.cells (bCells (List.replicate 95 0)).toArray 5) = x := ⟨_, rfl⟩
  have u : Upd [] w7 wm := by rw [← hwm]; exact (Upd.refl [] _).alloc _
  have hm := make_bytes 95 (by decide) w7
  rw [hwm, show ((95 : Nat) : Int) = 95 from rfl] at hm
  have hcv := conv_zeros wm 95 w7.heap.size (by rw [← hwm]; exact Blk.new w7 _ _)
  replace HJ := hide (HJ.out.step (u.alloc (.cells #[.string (zs 95)] 9)) (by simp))
  clear hwm u
  go_wp2_with fail
  clear hm hcv
  have C1 := append_in (some ⟨wm.heap.size, 0, none⟩) 1 1 [zs 95] HL.out HJ.out rfl (by decide) (strs_new wm [zs 95]) (by simp [zs_size]) (by simp [diskOf]) (size_le ks 200 _ (by first | (rw [lenL_1]; decide) | (rw [lenL_nil]; decide))) (by rw [tapeOf_head]; decide) (recs_le ks _ (by decide))
  rw [k3 ks] at C1
  have HC := hide C1
  clear C1
  refine HC.out.mono ?_
  rintro e w8 ⟨rfl, hj, _⟩
  replace HJ := hide hj
  clear hj HC
  have C1 := reopen_in HL.out HJ.out (by simp [diskOf])
  rw [k4] at C1
  have HC := hide C1
  clear C1
  go_wp2_with fail
  refine HC.out.mono ?_
  rintro e w9 ⟨_, _, hj⟩
  try simp only at hj
  obtain ⟨jc, A, c, rfl, ht, hj⟩ := hj
  replace HJ := hide hj
  have HT := hide ht
  clear hj ht HC
  go_wp2_with fail
  obtain ⟨D, hw1, hw2, hw3, hw4⟩ := k5 ks
  have C1 := jwrite_in (0 : Int) ⟨#[2]⟩ HJ.out (by simp [diskOf])
  rw [hw1] at C1
  have HC := hide C1
  have HW2 := hide hw2
  have HW3 := hide hw3
  have HW4 := hide hw4
  clear C1 hw1 hw2 hw3 hw4
  refine HC.out.mono ?_
  rintro e w10 ⟨rfl, hj, hsm⟩
  replace HJ := hide hj
  replace HT := hide (tape_same HT.out (hsm.mono (fun x hx => List.mem_append_left _ hx)))
  clear hj hsm HC
  have C1 := reopen_in HL.out HJ.out (by rw [HW4.out]; decide)
  rw [HW2.out] at C1
  have HC := hide C1
  clear C1
  go_wp2_with fail
  refine HC.out.mono ?_
  rintro e w11 ⟨hsm, hj, rfl⟩
  replace HJ := hide hj
  replace HT := hide (tape_same HT.out (hsm.mono (fun x hx => List.mem_append_left _ hx)))
  clear hj hsm HC
  have HON := hide (open_nil w11)
  go_wp2_with fail
  refine HON.out.mono ?_
  rintro e w' ⟨rfl, rfl⟩
  clear HON
  have HRO := hide (room_in HJ.out (by rw [HW3.out, tapeOf_size, bytesOf_length, lenL_2]; decide))
  rw [HW3.out, tapeOf_size, bytesOf_length, lenL_2] at HRO
  rw [show ((200 - 200 : Nat) : Int) = 0 from rfl] at HRO
  go_wp2_with fail
  refine HRO.out.mono ?_
  rintro e w12 ⟨rfl, u⟩
  replace HJ := hide (HJ.out.step u (by simp))
  replace HT := hide (HT.out.upd0 u)
  clear u HRO
  have HRE := hide (records_any _ _ _ _ _ _ _ w12 HT.out (by have := recs_le ks L2 (by decide); omega))
  rw [tapeOf_recs] at HRE
  go_wp2_with fail
  refine HRE.out.mono ?_
  rintro e w13 ⟨A3, c3, rfl, _, u⟩
  replace HJ := hide (HJ.out.step u (by simp))
  replace HT := hide (HT.out.upd0 u)
  clear u HRE
  simp only [show L2.length = 3 from rfl]
  have HRE := hide (records_any _ _ _ _ _ _ _ w13 HT.out (by have := recs_le ks L2 (by decide); omega))
  rw [tapeOf_recs] at HRE
  go_wp2_with fail
  refine HRE.out.mono ?_
  rintro e w14 ⟨A4, c4, rfl, ho, u⟩
  replace HJ := hide (HJ.out.step u (by simp))
  clear u HRE
  obtain ⟨b, o, rfl, hc⟩ := strs_own ho 0 ⟨#[97, 98]⟩ rfl
  have hc0 : w14.cell? ⟨b, o, none⟩ = some (.string ⟨#[97, 98]⟩) := hc
  clear hc ho
  simp only [show L2.length = 3 from rfl]
  go_wp2_with fail
  go_ret
  exact ⟨rfl, HJ.out.below⟩
end Go.Proofs.YtafjolibfbccbaaGreatDoor

namespace Go.Proofs.YtafjolibfbccbaaGreatDoor
open Go.RowKit Go.Shelf
set_option maxRecDepth 100000
set_option maxHeartbeats 20000000

theorem zig_lt (x : Int) (h : -4611686018427387903 ≤ x ∧ x ≤ 4611686018427387903) : zigS x < 9223372036854775808 := by
  unfold zigS
  split <;> omega
theorem groups_le : ∀ (k z : Nat), z < 128 ^ (k + 1) → (groupsS z).length ≤ k + 1
  | 0, z, h => by rw [groupsS_last (by simpa using h)]; simp
  | k + 1, z, h => by
    by_cases hz : z < 128
    · rw [groupsS_last hz]; simp
    · rw [groupsS_more hz, List.length_cons]
      have := groups_le k (z / 128) (by rw [Nat.div_lt_iff_lt_mul (by decide), ← Nat.pow_succ]; exact h)
      omega
theorem groups_nine (z : Nat) (h : z < 9223372036854775808) : (groupsS z).length ≤ 9 := groups_le 8 z (by have e : (128 : Nat) ^ (8 + 1) = 9223372036854775808 := by decide
                                                                                                          omega)
theorem refZigZ (x : Int) (w : World) (h : -4611686018427387903 ≤ x ∧ x ≤ 4611686018427387903) :
    Calls Tryz.prog 86 #[.int .i64 x] w fun e w' => e = .returned (.int .u64 ((zigS x : Nat) : Int)) ∧ w = w' := by
  by_cases hn : x < 0
  · obtain ⟨m, hm⟩ : ∃ m : Int, -x = m := ⟨_, rfl⟩
    have w1 : IntKind.i64.wrap (-x) = m := by rw [Go.IntWalk.i64_in _ (by omega)]; exact hm
    have a1 : IntKind.u64.wrap m = m := by rw [IntKind.wrap_u64]; omega
    have a2 : IntKind.u64.wrap (m * 2) = m * 2 := by rw [IntKind.wrap_u64]; omega
    obtain ⟨z, hz⟩ : ∃ z : Nat, zigS x = z := ⟨_, rfl⟩
    have a3 : IntKind.u64.wrap (m * 2 - 1) = (z : Int) := by rw [IntKind.wrap_u64, ← hz]; unfold zigS; rw [if_pos hn]; omega
    have w0 : wrap64 (-x) = m := by rw [Go.IntWalk.wrap64_in _ (by omega)]; exact hm
    rw [hz]
    clear hz h hm w1
    go_enter Tryz.func86, Tryz.ntmps86
    go_wp2_with fail
    go_ret
    exact ⟨rfl, rfl⟩
  · have a1 : IntKind.u64.wrap x = x := by rw [IntKind.wrap_u64]; omega
    obtain ⟨z, hz⟩ : ∃ z : Nat, zigS x = z := ⟨_, rfl⟩
    have a2 : IntKind.u64.wrap (x * 2) = (z : Int) := by rw [IntKind.wrap_u64, ← hz]; unfold zigS; rw [if_neg hn]; omega
    rw [hz]
    clear hz h
    go_enter Tryz.func86, Tryz.ntmps86
    go_wp2_with fail
    go_ret
    exact ⟨rfl, rfl⟩
theorem refPutIntZ (x : Int) (w : World) (h : -4611686018427387903 ≤ x ∧ x ≤ 4611686018427387903) :
    Calls Tryz.prog 56 #[.int .i64 x] w fun e w' => e = .returned (.tuple #[.string ⟨(putS x).toArray⟩, .int .i64 0]) ∧ Upd [] w w' := by
  have d1 : ¬ x < -4611686018427387903 := by omega
  have d2 : ¬ (4611686018427387903 : Int) < x := by omega
  have d3 : decide ((4611686018427387903 : Int) < x) = false := decide_eq_false d2
  obtain ⟨Z, hZ⟩ : ∃ Z : Nat, zigS x = Z := ⟨_, rfl⟩
  have hZl := groups_nine Z (by rw [← hZ]; exact zig_lt x h)
  have hZb : Z < 9223372036854775808 := by rw [← hZ]; exact zig_lt x h
  have hp : putS x = (groupsS Z).map fun y => UInt8.ofNat (grpB y) := by
    unfold putS
    rw [hZ]
  have ZG := hide (fun W => refZigZ x W h)
  rw [hp]
  have HZ := hide hZ
  clear hp hZ
  go_enter Tryz.func56, Tryz.ntmps56
  go_wp2_with fail
  refine (ZG.out _).mono ?_
  rintro e w' ⟨rfl, rfl⟩
  rw [HZ.out]
  go_wp2_with fail
  go_loopw [4, 5] (fun s4 s5 wr => ∃ (z : Nat) (A : Option Addr) (n c : Nat) (pre : List (Nat × Bool)), z < 9223372036854775808 ∧ s4 = .int .u64 z ∧ s5 = .slice A n c ∧ n + (groupsS z).length = (groupsS Z).length ∧ Hid (n = pre.length ∧ groupsS Z = pre ++ groupsS z) ∧ Hid (wr.ownsRow w.heap.size 5 1 (.slice A n c) n (pre.map gCell)) ∧ Hid (Upd [] w wr)) (fun z _ _ => (intOf z).toNat)
  case atStart => exact ⟨Z, none, 0, 0, [], hZb, rfl, rfl, Nat.zero_add _, hide ⟨rfl, rfl⟩, hide (World.ownsRow_nil _ _ _ _), Upd.refl _ _⟩
  case round =>
    obtain ⟨z, A, n, c, pre, hz9, rfl, rfl, hn, hg, hown, hu⟩ := hrel
    obtain ⟨wo, rfl⟩ : ∃ wo : World, wo = wr := ⟨_, rfl⟩
    by_cases hz : 128 ≤ z
    · have hzi : (128 : Int) ≤ z := by omega
      obtain ⟨a, ha⟩ : ∃ a, z % 128 = a := ⟨_, rfl⟩
      obtain ⟨q, hq⟩ : ∃ q, z / 128 = q := ⟨_, rfl⟩
      obtain ⟨y, hy⟩ : ∃ y, a + 128 = y := ⟨_, rfl⟩
      have b1 : (z : Int).tmod 128 = (a : Int) := by rw [Int.tmod_eq_emod_of_nonneg (by omega)]; omega
      have b2 : (z : Int).tdiv 128 = (q : Int) := by rw [Int.tdiv_eq_ediv_of_nonneg (by omega)]; omega
      have b3 : IntKind.u64.wrap (a : Int) = a := by rw [IntKind.wrap_u64]; omega
      have b4 : IntKind.u64.wrap ((a : Int) + 128) = (y : Int) := by rw [IntKind.wrap_u64]; omega
      have b5 : IntKind.u64.wrap (q : Int) = q := by rw [IntKind.wrap_u64]; omega
      have b6 : IntKind.u8.wrap (y : Int) = y := by rw [IntKind.wrap_u8]; omega
      have hqz : q < z := by omega
      have HG := hide (show n + 1 = (pre ++ [((a, false) : Nat × Bool)]).length ∧ groupsS Z = (pre ++ [(a, false)]) ++ groupsS q by
        refine ⟨by rw [List.length_append, hg.out.1]; rfl, ?_⟩
        rw [hg.out.2, groupsS_more (by omega), ha, hq, List.append_assoc]
        rfl)
      have HE := hide (show pre.map gCell ++ [.int .u8 (y : Int)] = (pre ++ [((a, false) : Nat × Bool)]).map gCell by rw [List.map_append, ← hy]; rfl)
      have hgl : (groupsS z).length = (groupsS q).length + 1 := by rw [groupsS_more (by omega), hq, List.length_cons]
      clear ha hq hy
      have O1 := hide (show ∀ u ∈ [Value.int .u8 (y : Int)], u.oneCell' = true by simp [Value.oneCell'])
      have O3 := hide (show n + 1 ≤ maxLen by unfold maxLen; omega)
      have O4 := hide (show (n + 1) * 1 ≤ 140737488355328 by omega)
      have OB := hide (hown.out.alloc (.cells #[.int .u8 (y : Int)] 5))
      have OS := hide (show w.heap.size ≤ (wo.alloc (.cells #[.int .u8 (y : Int)] 5)).heap.size by have := hu.out.size; rw [World.size_alloc]; omega)
      go_wp2_with (at_builtin; refine wpList_append_base rfl (.tmp 16) (.tmp 21) _ rfl w.heap.size 5 _ 1 1 Tryz.underlying39 it_info_byte rfl (by decide) A n c _ rfl OB.out ⟨wo.heap.size, 0, none⟩ 1 1 [.int .u8 (y : Int)] rfl rfl (cell_one_new _ _ _) O1.out O3.out O4.out OS.out ?_; intro A5 c5 w5 h5 u5 _; have H5 := hide h5; have V5 := hide ((hu.out.alloc _).trans u5 (fun z hz => .inr (it_own_block hown.out z (by rw [ownBlock_slice]; simpa using hz)))); clear h5 u5)
      go_roundw
      case rel => exact ⟨q, A5, n + 1, c5, pre ++ [(a, false)], by omega, rfl, rfl, by omega, HG, hide (by rw [← HE.out]; exact H5.out), V5⟩
      case measure => simp [intOf] <;> omega
    · have hzi : ¬ (128 : Int) ≤ z := by omega
      have hzl : z < 128 := by omega
      have b6 : IntKind.u8.wrap (z : Int) = z := by rw [IntKind.wrap_u8]; omega
      have HG := hide (show n + 1 = (pre ++ [((z, true) : Nat × Bool)]).length ∧ groupsS Z = pre ++ [(z, true)] by
        refine ⟨by rw [List.length_append, hg.out.1]; rfl, ?_⟩
        rw [hg.out.2, groupsS_last hzl])
      have HE := hide (show pre.map gCell ++ [.int .u8 (z : Int)] = (groupsS Z).map gCell by rw [HG.out.2, List.map_append]; rfl)
      have HL := hide (show n + 1 = (groupsS Z).length by rw [HG.out.2]; exact HG.out.1)
      clear hg
      have O1 := hide (show ∀ u ∈ [Value.int .u8 (z : Int)], u.oneCell' = true by simp [Value.oneCell'])
      have O3 := hide (show n + 1 ≤ maxLen by unfold maxLen; omega)
      have O4 := hide (show (n + 1) * 1 ≤ 140737488355328 by omega)
      have OB := hide (hown.out.alloc (.cells #[.int .u8 (z : Int)] 5))
      have OS := hide (show w.heap.size ≤ (wo.alloc (.cells #[.int .u8 (z : Int)] 5)).heap.size by have := hu.out.size; rw [World.size_alloc]; omega)
      have CV := hide (show ∀ (g c5 : Nat) (w5 : World), w5.ownsRow w.heap.size 5 1 (.slice (some ⟨g, 0, none⟩) (n + 1) c5) (n + 1) (pre.map gCell ++ [.int .u8 (z : Int)]) →
          (convert 39 9 (.slice (some ⟨g, 0, none⟩) (n + 1) c5)).run Tryz.prog w5 = .ok (.string ⟨((groupsS Z).map fun y => UInt8.ofNat (grpB y)).toArray⟩) w5 from fun g c5 w5 h => by
        rw [HE.out, HL.out] at h
        rw [HL.out]
        exact put_conv Z _ g c5 w5 h)
      go_wp2_with (at_builtin; refine wpList_append_base rfl (.tmp 25) (.tmp 28) _ rfl w.heap.size 5 _ 1 1 Tryz.underlying39 it_info_byte rfl (by decide) A n c _ rfl OB.out ⟨wo.heap.size, 0, none⟩ 1 1 [.int .u8 (z : Int)] rfl rfl (cell_one_new _ _ _) O1.out O3.out O4.out OS.out ?_; intro A5 c5 w5 h5 u5 _; obtain ⟨g, cur, hA, _, _⟩ := it_own_some h5 (Nat.succ_pos _); subst hA; have hcv := CV.out g c5 w5 h5; have V5 := hide ((hu.out.alloc _).trans u5 (fun z hz => .inr (it_own_block hown.out z (by rw [ownBlock_slice]; simpa using hz)))); clear h5 u5)
      go_ret2
      exact ⟨rfl, V5.out⟩
end Go.Proofs.YtafjolibfbccbaaGreatDoor

namespace Go.Proofs.YtafjolibfbccbaaGreatDoor
open Go.RowKit Go.Shelf
set_option maxRecDepth 100000
set_option maxHeartbeats 8000000

theorem refPutIntBad (x : Int) (w : World) (h : x < -4611686018427387903) :
    Calls Tryz.prog 56 #[.int .i64 x] w fun e w' => e = .returned (.tuple #[.string ⟨#[]⟩, .int .i64 10]) ∧ w = w' := by
  go_enter Tryz.func56, Tryz.ntmps56
  go_wp2_with fail
  refine bodyPost_ret (v := .tuple #[.string ⟨#[]⟩, .int .i64 10]) (by simp [results, Tryz.results56, go_sem]) rfl ?_
  exact ⟨rfl, rfl⟩
theorem refInt (s : ByteArray) (bs : List UInt8) (a : Nat) (w : World) (hb : s.data.toList = bs) (hl : bs.length ≤ 1000000000) (ha : a ≤ 1000000000) :
    Calls Tryz.prog 97 #[.string s, .int .i64 (a : Int)] w fun e w' => e = .returned (intV (intS bs a)) ∧ Upd [] w w' := by
  have HB := hide hb
  have HL := hide hl
  have hsz : s.size = bs.length := by rw [← hb]; exact (Lib.size_eq s).symm
  obtain ⟨bl, hbl⟩ : ∃ x, bs.length = x := ⟨_, rfl⟩
  rw [hbl] at hsz hl
  have HBL := hide hbl
  clear hb hbl
  by_cases hab : bl < a
  case pos =>
    have g0 : ¬ (a : Int) < 0 := by omega
    have g1 : (bl : Int) < (a : Int) := by omega
    have HE := hide (show intS bs a = (0, 0, 2) by unfold intS; rw [if_pos (by rw [HBL.out]; exact hab)])
    go_enter Tryz.func97, Tryz.ntmps97
    go_wp2_with fail
    refine bodyPost_ret (v := .tuple #[.int .i64 0, .int .i64 0, .int .i64 2]) (by simp [results, Tryz.results97, go_sem]) rfl ?_
    exact ⟨by rw [HE.out]; rfl, Upd.refl _ _⟩
  have g0 : ¬ (a : Int) < 0 := by omega
  have g1 : ¬ (bl : Int) < (a : Int) := by omega
  have HE := hide (show intS bs a = intFrom bs a 9 0 0 by unfold intS; rw [if_neg (by rw [HBL.out]; exact hab)])
  go_enter Tryz.func97, Tryz.ntmps97
  go_wp2_with fail
  clear g0 g1
  go_loopw [7, 8] (fun s7 s8 wr => ∃ (i f z : Nat), i + f = 9 ∧ s8 = .int .i64 i ∧ s7 = .int .u64 z ∧ z < 2 ^ (7 * i) ∧ Hid (intS bs a = intFrom bs a f i z ∧ ∃ pre : List UInt8, pre.length = i ∧ (bs.drop a).take i = pre ∧ (∀ x ∈ pre, 128 ≤ x.toNat) ∧ z = valD (pre.map (fun x => x.toNat % 128))) ∧ wr = w) (fun _ s _ => 9 - (intOf s).toNat)
  case atStart => exact ⟨0, 9, 0, rfl, rfl, rfl, by decide, hide ⟨HE.out, [], rfl, by simp, by simp, rfl⟩, rfl⟩
  case round =>
    obtain ⟨i, f, z, hif, rfl, rfl, hz, hI, rfl⟩ := hrel
    clear HE
    obtain ⟨q, hq⟩ : ∃ x, a + i = x := ⟨_, rfl⟩
    have wq : IntKind.i64.wrap ((a : Int) + (i : Int)) = (q : Int) := by rw [Go.IntWalk.i64_in _ (by omega)]; omega
    have hEnd : (f = 0 ∨ bl ≤ q) → intFrom bs a f i z = (0, 0, 10) := by
      intro h
      cases f with
      | zero => rfl
      | succ f =>
        have hn : bs[a + i]? = none := List.getElem?_eq_none (by have := HBL.out; omega)
        unfold intFrom
        rw [hn]
    by_cases hi9 : i < 9
    case neg =>
      have h9 : ¬ (i : Int) < 9 := by omega
      have HR := hide (hEnd (.inl (by omega)))
      clear hEnd
      go_wp2_with fail
      refine bodyPost_ret (v := .tuple #[.int .i64 0, .int .i64 0, .int .i64 10]) (by simp [results, Tryz.results97, go_sem]) rfl ?_
      exact ⟨by rw [hI.out.1, HR.out]; rfl, Upd.refl _ _⟩
    have h9 : (i : Int) < 9 := by omega
    by_cases hql : q < bl
    case neg =>
      have g2 : ¬ (q : Int) < (bl : Int) := by omega
      have HR := hide (hEnd (.inr (by omega)))
      clear hEnd
      go_wp2_with fail
      refine bodyPost_ret (v := .tuple #[.int .i64 0, .int .i64 0, .int .i64 10]) (by simp [results, Tryz.results97, go_sem]) rfl ?_
      exact ⟨by rw [hI.out.1, HR.out]; rfl, Upd.refl _ _⟩
    clear hEnd
    have g2 : (q : Int) < (bl : Int) := by omega
    obtain ⟨f, rfl⟩ : ∃ g, f = g + 1 := ⟨f - 1, by omega⟩
    obtain ⟨x, hx⟩ : ∃ x, bs[q]? = some x := ⟨_, List.getElem?_eq_getElem (by have := HBL.out; omega)⟩
    have hix := fun W => index_str (P := Tryz.prog) W Tryz.underlying9 s HB.out q x hx
    obtain ⟨y, hy⟩ : ∃ y : Nat, x.toNat = y := ⟨_, rfl⟩
    have hyb : y < 256 := by rw [← hy]; exact x.toNat_lt
    rw [hy] at hix
    obtain ⟨d, hd⟩ : ∃ d : Nat, y % 128 = d := ⟨_, rfl⟩
    obtain ⟨q7, hq7⟩ : ∃ x, 7 * i = x := ⟨_, rfl⟩
    rw [hq7] at hz
    have hq56 : q7 ≤ 56 := by omega
    have hp7 : (2 : Nat) ^ q7 ≤ 2 ^ 56 := Nat.pow_le_pow_right (by decide) hq56
    rw [show (2 : Nat) ^ 56 = 72057594037927936 by decide] at hp7
    obtain ⟨P7, hP7⟩ : ∃ x, (2 : Nat) ^ q7 = x := ⟨_, rfl⟩
    rw [hP7] at hz hp7
    obtain ⟨M, hM⟩ : ∃ x, d * P7 = x := ⟨_, rfl⟩
    have hMb : M ≤ 127 * P7 := by rw [← hM]; exact Nat.mul_le_mul_right _ (by omega)
    have c1 : IntKind.u64.wrap (y : Int) = y := by rw [IntKind.wrap_u64]; omega
    have c2 : (y : Int).tmod 128 = (d : Int) := by rw [Int.tmod_eq_emod_of_nonneg (by omega)]; omega
    have c2b : IntKind.u64.wrap (d : Int) = d := by rw [IntKind.wrap_u64]; omega
    have c3 : IntKind.i64.wrap (7 * (i : Int)) = (q7 : Int) := by rw [Go.IntWalk.i64_in _ (by omega)]; omega
    have c4 : q7 < 64 := by omega
    have c5 : (q7 : Int) < 64 := by omega
    have c6 : ((d : Int) * 2 ^ q7) = (M : Int) := by rw [← hM, ← hP7]; push_cast; rfl
    obtain ⟨Z, hZ⟩ : ∃ x, z + M = x := ⟨_, rfl⟩
    have c7 : IntKind.u64.wrap (M : Int) = M := by rw [IntKind.wrap_u64]; omega
    have c8 : IntKind.u64.wrap ((z : Int) + (M : Int)) = (Z : Int) := by rw [IntKind.wrap_u64]; omega
    go_upto_region 9 with fail
    obtain ⟨hIe, pre, hpl, hpt, hpa, hpv⟩ := hI.out
    have hNX : intFrom bs a (f + 1) i z = if 128 ≤ y then intFrom bs a f (i + 1) Z else if intBad y i Z then (0, 0, 10) else (unzig Z, ((a + i + 1 : Nat) : Int), 0) := by
      have e9 : z + y % 128 * 2 ^ (7 * i) = Z := by rw [hq7, hP7, hd, hM, hZ]
      rw [← hq] at hx
      conv => lhs; unfold intFrom
      rw [hx]
      simp only [hy, e9]
    have htk : (bs.drop a).take (i + 1) = pre ++ [x] := by rw [List.take_add_one, hpt, List.getElem?_drop, hq, hx]; rfl
    have hZv : Z = valD ((pre.map (fun x => x.toNat % 128)) ++ [y % 128]) := by rw [valD_snoc, List.length_map, hpl, hq7, hP7, ← hpv, hd, hM, hZ]
    have hZb : Z < 128 * P7 := by omega
    have hZ63 : Z < 9223372036854775808 := by omega
    have HP8 := hide (show 2 ^ (7 * (i + 1)) = 128 * P7 by rw [show 7 * (i + 1) = 7 * i + 7 by omega, Nat.pow_add, hq7, hP7, show (2 : Nat) ^ 7 = 128 by decide, Nat.mul_comm])
    have HIE := hide hIe
    have HNX := hide hNX
    have HTK := hide htk
    have HZV := hide hZv
    have HPL := hide hpl
    have HPA := hide hpa
    have HY := hide hy
    have HQ := hide hq
    clear hIe hNX htk hZv hpl hpt hpa hpv hI hx hix hy hd hq7 hP7 hM hMb hz hp7 c1 c2 c2b c3 c4 c5 c6 c7 c8 hZ hq wq
    by_cases h128 : 128 ≤ y
    case pos =>
      have g3 : (128 : Int) ≤ (y : Int) := by omega
      have hiw : IntKind.i64.wrap ((i : Int) + 1) = (i : Int) + 1 := Go.IntWalk.i64_in _ (by omega)
      go_wp2_with fail
      go_roundw
      case rel => exact ⟨i + 1, f, Z, by omega, by go_num, rfl, by rw [HP8.out]; exact hZb, hide ⟨by rw [HIE.out, HNX.out, if_pos h128], pre ++ [x], by simp [HPL.out], HTK.out, fun v hv => (List.mem_append.1 hv).elim (HPA.out v) (fun h => by have : v = x := (by simpa using h); rw [this, HY.out]; exact h128), by rw [List.map_append, HZV.out, ← HY.out]; rfl⟩, trivial⟩
      case measure => simp [intOf] <;> omega
    have g3 : ¬ (128 : Int) ≤ (y : Int) := by omega
    have HC := hide (put_canon pre x HPA.out (by rw [HY.out]; omega) Z (by rw [HZV.out, HY.out, Nat.mod_eq_of_lt (by omega)]))
    rw [HY.out, HPL.out] at HC
    obtain ⟨h, hh⟩ : ∃ x, Z / 2 = x := ⟨_, rfl⟩
    obtain ⟨r, hr⟩ : ∃ x, Z % 2 = x := ⟨_, rfl⟩
    have e1 : (Z : Int).tdiv 2 = (h : Int) := by rw [Int.tdiv_eq_ediv_of_nonneg (by omega)]; omega
    have e2 : (Z : Int).tmod 2 = (r : Int) := by rw [Int.tmod_eq_emod_of_nonneg (by omega)]; omega
    have e3 : IntKind.u64.wrap (h : Int) = h := by rw [IntKind.wrap_u64]; omega
    have e4 : IntKind.i64.wrap (h : Int) = h := Go.IntWalk.i64_in _ (by omega)
    have e5 : IntKind.u64.wrap (r : Int) = r := by rw [IntKind.wrap_u64]; omega
    have hu : unzig Z = if r = 0 then (h : Int) else -(h : Int) - 1 := by unfold unzig; rw [hh, hr]
    have hhb : h < 4611686018427387904 := by omega
    have hr2 : r < 2 := by omega
    clear hh hr
    have w5 : IntKind.i64.wrap ((q : Int) + 1) = ((q + 1 : Nat) : Int) := by rw [Go.IntWalk.i64_in _ (by omega)]; omega
    obtain ⟨q1, hq1⟩ : ∃ x, q + 1 = x := ⟨_, rfl⟩
    rw [hq1] at w5
    have hsl := fun W => slice_str (P := Tryz.prog) W Tryz.underlying9 s HB.out a q1 (by have := HQ.out; omega) (by omega) (a : Int) (q1 : Int) rfl rfl
    rw [show q1 - a = i + 1 by have := HQ.out; omega, HTK.out] at hsl
    obtain ⟨u, hu2⟩ : ∃ U : ByteArray, ⟨(pre ++ [x]).toArray⟩ = U := ⟨_, rfl⟩
    rw [hu2] at hsl
    have w6 : IntKind.i64.wrap ((a : Int) + (i : Int)) = (q : Int) := by have := HQ.out; rw [Go.IntWalk.i64_in _ (by omega)]; omega
    obtain ⟨n, hn⟩ : ∃ x, unzig Z = x := ⟨_, rfl⟩
    rw [hn] at hu HC
    have HN := hide hn
    clear hn
    by_cases hr1 : r = 1
    case pos =>
      have e6 : ((r : Int) == 1) = true := by simp; omega
      have hnv : n = -(h : Int) - 1 := by rw [hu, if_neg (by omega)]
      have e7 : wrap64 (-(h : Int)) = -(h : Int) := Go.IntWalk.wrap64_in _ (by omega)
      have e8 : IntKind.i64.wrap (-(h : Int) - 1) = n := by rw [Go.IntWalk.i64_in _ (by omega)]; exact hnv.symm
      have hnb : n ≤ 4611686018427387903 ∧ -4611686018427387904 ≤ n := by omega
      have HNV := hide hnv
      clear hu hnv
      go_wp2_with fail
      by_cases hbad : n < -4611686018427387903
      case pos =>
        refine (refPutIntBad n wr hbad).mono ?_
        rintro e w' ⟨rfl, rfl⟩
        go_wp2_with fail
        refine bodyPost_ret (v := .tuple #[.int .i64 0, .int .i64 0, .int .i64 10]) (by simp [results, Tryz.results97, go_sem]) rfl ?_
        exact ⟨by rw [HIE.out, HNX.out, if_neg h128, if_pos (.inr (by rw [HN.out]; exact hbad))]; rfl, Upd.refl _ _⟩
      refine (refPutIntZ n wr ⟨by omega, by omega⟩).mono ?_
      rintro e w5 ⟨rfl, uu⟩
      have HU := hide uu
      clear uu
      obtain ⟨t, ht⟩ : ∃ T : ByteArray, ⟨(putS n).toArray⟩ = T := ⟨_, rfl⟩
      rw [ht]
      by_cases hc : y = 0 ∧ 0 < i
      case pos =>
        have hne : (t.toList == u.toList) = false := by
          rw [ByteArray.toList_eq, ByteArray.toList_eq]
          refine beq_eq_false_iff_ne.2 (fun e => ?_)
          rw [← ht, ← hu2] at e
          exact (HC.out.1 (show putS n = pre ++ [x] from e)) hc
        clear ht hu2
        go_wp2_with fail
        refine bodyPost_ret (v := .tuple #[.int .i64 0, .int .i64 0, .int .i64 10]) (by simp [results, Tryz.results97, go_sem]) rfl ?_
        exact ⟨by rw [HIE.out, HNX.out, if_neg h128, if_pos (.inl hc)]; rfl, HU.out⟩
      have hne : (t.toList == u.toList) = true := by
        rw [ByteArray.toList_eq, ByteArray.toList_eq]
        rw [← ht, ← hu2, HC.out.2 hc]
        simp
      have HR := hide (show intFrom bs a (f + 1) i z = (n, (q1 : Int), 0) by
        rw [HNX.out, if_neg h128, if_neg (by unfold intBad; rw [HN.out]; rintro (h | h); exact hc h; exact hbad h), HN.out]
        congr 2
        have := HQ.out
        omega)
      clear ht hu2
      go_wp2_with fail
      refine bodyPost_ret (v := .tuple #[.int .i64 n, .int .i64 q1, .int .i64 0]) (by simp [results, Tryz.results97, go_sem]) rfl ?_
      exact ⟨by rw [HIE.out, HR.out]; rfl, HU.out⟩
    have e6 : ((r : Int) == 1) = false := by simp; omega
    have hnv : n = (h : Int) := by rw [hu, if_pos (by omega)]
    have e9 : IntKind.i64.wrap (h : Int) = n := e4.trans hnv.symm
    clear e4
    have hnb : n ≤ 4611686018427387903 ∧ -4611686018427387904 ≤ n := by omega
    have HNV := hide hnv
    clear hu hnv
    go_wp2_with fail
    by_cases hbad : n < -4611686018427387903
    case pos =>
      refine (refPutIntBad n wr hbad).mono ?_
      rintro e w' ⟨rfl, rfl⟩
      go_wp2_with fail
      refine bodyPost_ret (v := .tuple #[.int .i64 0, .int .i64 0, .int .i64 10]) (by simp [results, Tryz.results97, go_sem]) rfl ?_
      exact ⟨by rw [HIE.out, HNX.out, if_neg h128, if_pos (.inr (by rw [HN.out]; exact hbad))]; rfl, Upd.refl _ _⟩
    refine (refPutIntZ n wr ⟨by omega, by omega⟩).mono ?_
    rintro e w5 ⟨rfl, uu⟩
    have HU := hide uu
    clear uu
    obtain ⟨t, ht⟩ : ∃ T : ByteArray, ⟨(putS n).toArray⟩ = T := ⟨_, rfl⟩
    rw [ht]
    by_cases hc : y = 0 ∧ 0 < i
    case pos =>
      have hne : (t.toList == u.toList) = false := by
        rw [ByteArray.toList_eq, ByteArray.toList_eq]
        refine beq_eq_false_iff_ne.2 (fun e => ?_)
        rw [← ht, ← hu2] at e
        exact (HC.out.1 (show putS n = pre ++ [x] from e)) hc
      clear ht hu2
      go_wp2_with fail
      refine bodyPost_ret (v := .tuple #[.int .i64 0, .int .i64 0, .int .i64 10]) (by simp [results, Tryz.results97, go_sem]) rfl ?_
      exact ⟨by rw [HIE.out, HNX.out, if_neg h128, if_pos (.inl hc)]; rfl, HU.out⟩
    have hne : (t.toList == u.toList) = true := by
      rw [ByteArray.toList_eq, ByteArray.toList_eq]
      rw [← ht, ← hu2, HC.out.2 hc]
      simp
    have HR := hide (show intFrom bs a (f + 1) i z = (n, (q1 : Int), 0) by
      rw [HNX.out, if_neg h128, if_neg (by unfold intBad; rw [HN.out]; rintro (h | h); exact hc h; exact hbad h), HN.out]
      congr 2
      have := HQ.out
      omega)
    clear ht hu2
    go_wp2_with fail
    refine bodyPost_ret (v := .tuple #[.int .i64 n, .int .i64 q1, .int .i64 0]) (by simp [results, Tryz.results97, go_sem]) rfl ?_
    exact ⟨by rw [HIE.out, HR.out]; rfl, HU.out⟩
end Go.Proofs.YtafjolibfbccbaaGreatDoor

namespace Go.Proofs.YtafjolibfbccbaaGreatDoor
open Go.RowKit Go.Shelf
set_option maxRecDepth 100000
set_option maxHeartbeats 8000000

theorem intFrom_err (bs : List UInt8) (a : Nat) : ∀ (f i z : Nat), i + f ≤ 9 → z < 2 ^ (7 * i) → (intFrom bs a f i z).2.2 = 0 → ∃ k : Nat, (intFrom bs a f i z).2.1 = (k : Int) ∧ a < k ∧ k ≤ bs.length ∧ -4611686018427387904 ≤ (intFrom bs a f i z).1 ∧ (intFrom bs a f i z).1 ≤ 4611686018427387903
  | 0, _, _, _, _, h => by simp [intFrom] at h
  | f + 1, i, z, hi, hz, h => by
    unfold intFrom at h ⊢
    cases hb : bs[a + i]? with
    | none => rw [hb] at h; simp at h
    | some b =>
      rw [hb] at h
      simp only at h ⊢
      have hlt := (List.getElem?_eq_some_iff.1 hb).1
      have hP : (2 : Nat) ^ (7 * (i + 1)) = 128 * 2 ^ (7 * i) := by rw [show 7 * (i + 1) = 7 * i + 7 by omega, Nat.pow_add, Nat.mul_comm]
      have hd : b.toNat % 128 * 2 ^ (7 * i) ≤ 127 * 2 ^ (7 * i) := Nat.mul_le_mul_right _ (by omega)
      obtain ⟨P, hPe⟩ : ∃ P, (2 : Nat) ^ (7 * i) = P := ⟨_, rfl⟩
      obtain ⟨M, hM⟩ : ∃ M, b.toNat % 128 * 2 ^ (7 * i) = M := ⟨_, rfl⟩
      rw [hM] at h hd ⊢
      rw [hPe] at hz hP hd
      by_cases h1 : 128 ≤ b.toNat
      · rw [if_pos h1] at h ⊢
        exact intFrom_err bs a f (i + 1) _ (by omega) (by omega) h
      · rw [if_neg h1] at h ⊢
        by_cases h2 : intBad b.toNat i (z + M)
        · rw [if_pos h2] at h; simp at h
        · rw [if_neg h2]
          have h56 : (2 : Nat) ^ (7 * i) ≤ 2 ^ 56 := Nat.pow_le_pow_right (by decide) (by omega)
          rw [hPe, show (2 : Nat) ^ 56 = 72057594037927936 by decide] at h56
          refine ⟨a + i + 1, rfl, by omega, by omega, ?_, ?_⟩
          · show -4611686018427387904 ≤ unzig (z + M)
            unfold unzig; split <;> omega
          · show unzig (z + M) ≤ 4611686018427387903
            unfold unzig; split <;> omega
theorem refString (s : ByteArray) (bs : List UInt8) (a : Nat) (w : World) (hb : s.data.toList = bs) (hl : bs.length ≤ 1000000000) (ha : a ≤ 1000000000) :
    Calls Tryz.prog 75 #[.string s, .int .i64 (a : Int)] w fun e w' => e = .returned (stringV (stringS bs a)) ∧ Upd [] w w' := by
  have HI := hide (refInt s bs a w hb hl ha)
  have hsz : s.size = bs.length := by rw [← hb]; exact (Lib.size_eq s).symm
  obtain ⟨bl, hbl⟩ : ∃ x, bs.length = x := ⟨_, rfl⟩
  rw [hbl] at hsz hl
  obtain ⟨n, x, er, hi⟩ : ∃ n x er, intS bs a = (n, x, er) := ⟨_, _, _, rfl⟩
  rw [hi] at HI
  by_cases he : er = 0
  case neg =>
    have HS := hide (show stringS bs a = ([], 0, er) by unfold stringS; rw [hi]; simp only; rw [if_pos he])
    have e1 : (er == 0) = false := by simp [he]
    clear he hi
    go_enter Tryz.func75, Tryz.ntmps75
    go_wp2_with fail
    refine HI.out.mono ?_
    rintro e w1 ⟨rfl, u⟩
    have HU := hide u
    clear u
    unfold intV
    go_wp2_with fail
    refine bodyPost_ret (v := .tuple #[.string ⟨#[]⟩, .int .i64 0, .int .i64 er]) (by simp [results, Tryz.results75, go_sem]) rfl ?_
    exact ⟨by rw [HS.out]; rfl, HU.out⟩
  subst he
  have hk : ∃ k : Nat, x = (k : Int) ∧ a < k ∧ k ≤ bl ∧ -4611686018427387904 ≤ n ∧ n ≤ 4611686018427387903 := by
    unfold intS at hi
    split at hi
    · cases hi
    · have := intFrom_err bs a 9 0 0 (by decide) (by decide) (by rw [hi])
      rw [hi, hbl] at this
      exact this
  obtain ⟨k, rfl, hak, hkb, hn1, hn2⟩ := hk
  have hsub : IntKind.i64.wrap ((bl : Int) - (k : Int)) = (bl : Int) - (k : Int) := Go.IntWalk.i64_in _ (by omega)
  have HS := hide (show stringS bs a = if strBad n bl k then ([], 0, 10) else ((bs.drop k).take n.toNat, (k : Int) + n, 0) by unfold stringS; rw [hi, hbl]; simp)
  clear hi
  go_enter Tryz.func75, Tryz.ntmps75
  go_wp2_with fail
  refine HI.out.mono ?_
  rintro e w1 ⟨rfl, u⟩
  have HU := hide u
  clear u HI
  unfold intV
  by_cases g1 : n < 0
  case pos =>
    have HB := hide (show stringS bs a = ([], 0, 10) by rw [HS.out, if_pos (by unfold strBad; exact .inl g1)])
    go_wp2_with fail
    refine bodyPost_ret (v := .tuple #[.string ⟨#[]⟩, .int .i64 0, .int .i64 10]) (by simp [results, Tryz.results75, go_sem]) rfl ?_
    exact ⟨by rw [HB.out]; rfl, HU.out⟩
  by_cases g2 : 65536 < n
  case pos =>
    have HB := hide (show stringS bs a = ([], 0, 10) by rw [HS.out, if_pos (by unfold strBad; exact .inr (.inl g2))])
    go_wp2_with fail
    refine bodyPost_ret (v := .tuple #[.string ⟨#[]⟩, .int .i64 0, .int .i64 10]) (by simp [results, Tryz.results75, go_sem]) rfl ?_
    exact ⟨by rw [HB.out]; rfl, HU.out⟩
  by_cases g3 : (bl : Int) - (k : Int) < n
  case pos =>
    have HB := hide (show stringS bs a = ([], 0, 10) by rw [HS.out, if_pos (by unfold strBad; exact .inr (.inr g3))])
    go_wp2_with fail
    refine bodyPost_ret (v := .tuple #[.string ⟨#[]⟩, .int .i64 0, .int .i64 10]) (by simp [results, Tryz.results75, go_sem]) rfl ?_
    exact ⟨by rw [HB.out]; rfl, HU.out⟩
  obtain ⟨m, rfl⟩ : ∃ m : Nat, n = (m : Int) := ⟨n.toNat, by omega⟩
  obtain ⟨j, hj⟩ : ∃ j, k + m = j := ⟨_, rfl⟩
  have w1j : IntKind.i64.wrap ((k : Int) + (m : Int)) = (j : Int) := by rw [Go.IntWalk.i64_in _ (by omega)]; omega
  have hsl := fun W => slice_str (P := Tryz.prog) W Tryz.underlying9 s hb k j (by omega) (by omega) (k : Int) (j : Int) rfl rfl
  rw [show j - k = m by omega] at hsl
  have HG := hide (show stringS bs a = ((bs.drop k).take m, (j : Int), 0) by rw [HS.out, if_neg (by unfold strBad; omega), Int.toNat_natCast, show (k : Int) + (m : Int) = (j : Int) by omega])
  obtain ⟨U, hU⟩ : ∃ U : ByteArray, ⟨((bs.drop k).take m).toArray⟩ = U := ⟨_, rfl⟩
  rw [hU] at hsl
  have HUU := hide hU
  clear hU hb hbl hj
  go_wp2_with fail
  refine bodyPost_ret (v := .tuple #[.string U, .int .i64 j, .int .i64 0]) (by simp [results, Tryz.results75, go_sem]) rfl ?_
  exact ⟨by rw [HG.out]; unfold stringV; rw [← HUU.out], HU.out⟩
end Go.Proofs.YtafjolibfbccbaaGreatDoor
