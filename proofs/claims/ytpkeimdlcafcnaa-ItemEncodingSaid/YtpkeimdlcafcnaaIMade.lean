/-
  The reference's cuts by bits; the items that integers determine.
-/
import Derived.Test.YtpkeimdlcafcnaaIRef
import Derived.Deep.CutBlock
namespace Go.Proofs.Ytpkeimdlcafcnaa
open Go.RowKit
set_option maxRecDepth 100000
set_option maxHeartbeats 20000000

def OwnsBits (w : World) (v : Value) (zs : List Int) : Prop := w.ownsRow 0 3 1 v zs.length (zs.map (Value.int .i64))
theorem refBits (i : It) (ta : Option Addr) (tn tc : Nat) (ka : Option Addr) (kn kc : Nat) (set : Nat) (w : World) (htn : tn ≤ 4) (hs : set < 4611686018427387904) :
    Calls Try.prog 49 #[.agg #[.int .i64 i.id, .int .i64 i.kind, .int .i64 i.len, .slice ta tn tc, .slice ka kn kc, .int .i64 i.artist, .int .i64 i.tempo, .int .i64 i.lang], .int .i64 set] w fun e w' => ∃ A c, e = .returned (.slice A (bitsS set tn).length c) ∧ OwnsBits w' (.slice A (bitsS set tn).length c) (bitsS set tn) ∧ Upd [] w w' := by
  have L1 := Blk.new w 24 [.int .i64 i.id, .int .i64 i.kind, .int .i64 i.len, .slice ta tn tc, .slice ka kn kc, .int .i64 i.artist, .int .i64 i.tempo, .int .i64 i.lang]
  have u1 := (Upd.refl [] w).alloc (.cells #[.int .i64 i.id, .int .i64 i.kind, .int .i64 i.len, .slice ta tn tc, .slice ka kn kc, .int .i64 i.artist, .int .i64 i.tempo, .int .i64 i.lang] 24)
  obtain ⟨wa, hwa⟩ : ∃ wa, w.alloc (.cells #[.int .i64 i.id, .int .i64 i.kind, .int .i64 i.len, .slice ta tn tc, .slice ka kn kc, .int .i64 i.artist, .int .i64 i.tempo, .int .i64 i.lang] 24) = wa := ⟨_, rfl⟩
  have hsz : wa.heap.size = w.heap.size + 1 := by rw [← hwa]; simp
  have u1' : Upd [] w wa := by rw [← hwa]; exact u1
  have L1' : Blk wa w.heap.size 24 [.int .i64 i.id, .int .i64 i.kind, .int .i64 i.len, .slice ta tn tc, .slice ka kn kc, .int .i64 i.artist, .int .i64 i.tempo, .int .i64 i.lang] := by rw [← hwa]; exact L1
  have BL := hide L1'
  have U1 := hide u1'
  have HZ := hide hsz
  have HWA := hide hwa
  clear L1 u1 u1' L1' hsz hwa
  go_enter Try.func49, Try.ntmps49
  go_wp2_with fail
  rw [HWA.out]
  go_loopw [5, 6] (fun s5 s6 wr => ∃ (k : Nat) (A : Option Addr) (n c : Nat) (zs : List Int), k ≤ tn ∧ s6 = .int .i64 k ∧ s5 = .slice A n c ∧ n ≤ k ∧ Hid (zs = bitsS set k) ∧ Hid (n = zs.length) ∧ Hid (wr.ownsRow wa.heap.size 3 1 (.slice A n c) n (zs.map (Value.int .i64))) ∧ Hid (Upd [] wa wr)) (fun _ k _ => tn - (intOf k).toNat)
  case atStart => exact ⟨0, none, 0, 0, [], Nat.zero_le _, rfl, rfl, Nat.le_refl _, rfl, rfl, World.ownsRow_nil _ _ _ _, Upd.refl _ _⟩
  case round =>
    obtain ⟨k, A, n, c, zs, hk, rfl, rfl, hnk, hzs, hnz, hown, hu⟩ := hrel
    obtain ⟨wo, rfl⟩ : ∃ wo : World, wo = wr := ⟨_, rfl⟩
    have d3 := (BL.out.upd hu.out (by simp)).cell 3
    by_cases hkl : k < tn
    · have hki : (k : Int) < tn := by omega
      have HST := hide (show bitsS set (k + 1) = if set.testBit k then zs ++ [(k : Int)] else zs by rw [hzs.out]; rfl)
      have hq0 : 0 ≤ (set : Int) / 2 ^ k := by
        have := Int.ediv_nonneg (a := (set : Int)) (b := 2 ^ k) (by omega) (Int.le_of_lt (Int.pow_pos (by omega)))
        exact this
      obtain ⟨z, hz⟩ : ∃ z, set / 2 ^ k = z := ⟨_, rfl⟩
      have hzi : (set : Int) / 2 ^ k = (z : Int) := by rw [← hz]; norm_cast
      have hzb : z ≤ set := by rw [← hz]; exact Nat.div_le_self _ _
      have HB := hide (show set.testBit k = decide (z % 2 = 1) by rw [Nat.testBit_eq_decide_div_mod_eq, hz])
      have hzt : ((z : Int).tmod 2) = (z : Int) % 2 := Int.tmod_eq_emod_of_nonneg (by omega)
      clear hq0 hz
      have O1 := hide (show ∀ u ∈ [Value.int .i64 (k : Int)], u.oneCell' = true by simp [Value.oneCell'])
      have O3 := hide (show n + 1 ≤ maxLen by unfold maxLen; omega)
      have O4 := hide (show (n + 1) * 8 ≤ 140737488355328 by omega)
      have OB := hide (hown.out.alloc (.cells #[.int .i64 (k : Int)] 3))
      have OS := hide (show wa.heap.size ≤ (wo.alloc (.cells #[.int .i64 (k : Int)] 3)).heap.size by have := hu.out.size; rw [World.size_alloc]; omega)
      by_cases hodd : z % 2 = 1
      · have hob : ((z : Int) % 2 == 1) = true := by simp; omega
        have HE := hide (show bitsS set (k + 1) = zs ++ [(k : Int)] by rw [HST.out, HB.out, decide_eq_true hodd]; rfl)
        clear hodd
        go_wp2_with (at_builtin; refine wpList_append_base rfl (.tmp 19) (.tmp 21) _ rfl wa.heap.size 3 _ 1 8 Try.underlying26 it_info_int rfl (by decide) A n c _ rfl OB.out ⟨wo.heap.size, 0, none⟩ 1 1 [.int .i64 (k : Int)] rfl rfl (cell_one_new _ _ _) O1.out O3.out O4.out OS.out ?_; intro A5 c5 w5 h5 u5 _; have H5 := hide h5; have V5 := hide ((hu.out.alloc _).trans u5 (fun z hz => .inr (it_own_block hown.out z (by rw [ownBlock_slice]; simpa using hz)))); clear h5 u5)
        go_roundw
        case rel => exact ⟨k + 1, A5, n + 1, c5, zs ++ [(k : Int)], by omega, by go_num, rfl, by omega, hide HE.out.symm, hide (by rw [List.length_append, ← hnz.out]; rfl), hide (by rw [List.map_append]; exact H5.out), V5⟩
        case measure => simp [intOf] <;> omega
      · have hob : ((z : Int) % 2 == 1) = false := by simp; omega
        have HE := hide (show bitsS set (k + 1) = zs by rw [HST.out, HB.out, decide_eq_false hodd]; rfl)
        clear hodd
        go_wp2_with fail
        go_roundw
        case rel => exact ⟨k + 1, A, n, c, zs, by omega, by go_num, rfl, by omega, hide HE.out.symm, hnz, hown, hu⟩
        case measure => simp [intOf] <;> omega
    · obtain rfl : k = tn := by omega
      have hki : ¬ (k : Int) < k := by omega
      have UF := hide (U1.out.trans hu.out (by simp))
      go_wp2_with fail
      go_ret
      have e := hzs.out
      rw [← e, ← hnz.out]
      refine ⟨A, c, rfl, ?_, UF.out⟩
      have := it_own_less hown.out (Nat.zero_le _)
      unfold OwnsBits
      rw [← hnz.out]
      exact this

/-- cutOf -/
theorem cutOf_any (i : It) (ta : Option Addr) (tn tc : Nat) (ka : Option Addr) (kn kc : Nat) (set : Int) (w : World) (htn : tn ≤ 4) (h1 : -9223372036854775808 ≤ set) (h2 : set ≤ 9223372036854775807) :
    Calls Try.prog 22 #[.agg #[.int .i64 i.id, .int .i64 i.kind, .int .i64 i.len, .slice ta tn tc, .slice ka kn kc, .int .i64 i.artist, .int .i64 i.tempo, .int .i64 i.lang], .int .i64 set] w fun e w' => ∃ A c, e = .returned (.slice A (bitsS (pickS set 16).toNat tn).length c) ∧ OwnsBits w' (.slice A (bitsS (pickS set 16).toNat tn).length c) (bitsS (pickS set 16).toNat tn) ∧ Upd [] w w' := by
  obtain ⟨s, hs⟩ : ∃ s : Nat, pickS set 16 = (s : Int) := ⟨(pickS set 16).toNat, by have := pickS_bounds set 16 (by omega); omega⟩
  have hsb : s < 16 := by have := pickS_bounds set 16 (by omega); omega
  have PK := fun W => lawPick set 16 W h1 h2 (by omega) (by omega)
  rw [hs] at PK ⊢
  rw [Int.toNat_natCast]
  obtain ⟨wa, hwa⟩ : ∃ wa, w.alloc (.cells #[.int .i64 i.id, .int .i64 i.kind, .int .i64 i.len, .slice ta tn tc, .slice ka kn kc, .int .i64 i.artist, .int .i64 i.tempo, .int .i64 i.lang] 24) = wa := ⟨_, rfl⟩
  have L1 : Blk wa w.heap.size 24 [.int .i64 i.id, .int .i64 i.kind, .int .i64 i.len, .slice ta tn tc, .slice ka kn kc, .int .i64 i.artist, .int .i64 i.tempo, .int .i64 i.lang] := by rw [← hwa]; exact Blk.new w _ _
  have u1 : Upd [] w wa := by rw [← hwa]; exact (Upd.refl [] w).alloc _
  have SX := hide (show ∀ W, Upd [] wa W → W.cell? ⟨w.heap.size, 0, none⟩ = some (.int .i64 i.id) ∧ W.cell? ⟨w.heap.size, 1, none⟩ = some (.int .i64 i.kind) ∧ W.cell? ⟨w.heap.size, 2, none⟩ = some (.int .i64 i.len) ∧ W.cell? ⟨w.heap.size, 3, none⟩ = some (.slice ta tn tc) ∧ W.cell? ⟨w.heap.size, 4, none⟩ = some (.slice ka kn kc) ∧ W.cell? ⟨w.heap.size, 5, none⟩ = some (.int .i64 i.artist) ∧ W.cell? ⟨w.heap.size, 6, none⟩ = some (.int .i64 i.tempo) ∧ W.cell? ⟨w.heap.size, 7, none⟩ = some (.int .i64 i.lang) from fun W hW => ⟨keepc _ _ _ _ hW (L1.cell 0), keepc _ _ _ _ hW (L1.cell 1), keepc _ _ _ _ hW (L1.cell 2), keepc _ _ _ _ hW (L1.cell 3), keepc _ _ _ _ hW (L1.cell 4), keepc _ _ _ _ hW (L1.cell 5), keepc _ _ _ _ hW (L1.cell 6), keepc _ _ _ _ hW (L1.cell 7)⟩)
  have PK' := hide PK
  have BT := hide (show ∀ W : World, Calls Try.prog 49 _ W _ from fun W => refBits i ta tn tc ka kn kc s W htn (by omega))
  have U1 := hide u1
  have HWA := hide hwa
  have U0 := hide ((Upd.refl [] wa).drew)
  clear PK L1 u1 hwa hs h1 h2
  go_enter Try.func22, Try.ntmps22
  go_wp2_with fail
  rw [HWA.out]
  refine wp_region_held_drew (S := (fun w' => w'.cell? ⟨w.heap.size, 0, none⟩ = some (.int .i64 i.id) ∧ w'.cell? ⟨w.heap.size, 1, none⟩ = some (.int .i64 i.kind) ∧ w'.cell? ⟨w.heap.size, 2, none⟩ = some (.int .i64 i.len) ∧ w'.cell? ⟨w.heap.size, 3, none⟩ = some (.slice ta tn tc) ∧ w'.cell? ⟨w.heap.size, 4, none⟩ = some (.slice ka kn kc) ∧ w'.cell? ⟨w.heap.size, 5, none⟩ = some (.int .i64 i.artist) ∧ w'.cell? ⟨w.heap.size, 6, none⟩ = some (.int .i64 i.tempo) ∧ w'.cell? ⟨w.heap.size, 7, none⟩ = some (.int .i64 i.lang))) (by kernel_rfl) (SX.out _ U0.out) (fun hHeld => ?_)
  refine wpAnyH_take (i := 0) (oi := ?oi0T1) (v := ?v0T1) ?oi0_0T1 (by kernel_rfl) ?ff0T1 ?rr0T1 ?hq0T1 (Or.inl ⟨?hw0T1, ?hy0T1⟩) (by assumption) ?rest0T1
  case oi0_0T1 =>
    conv =>
      lhs
      whnf
      arg 1
      whnf
  case hq0T1 => exact fun _ _ _ h => h
  case ff0T1 => kernel_rfl
  case rr0T1 => kernel_rfl
  case hw0T1 => rfl
  case hy0T1 =>
    intro w hSw
    (try dsimp only at hSw)
    first
    | (go_simp; done)
    | (go_simp; with_reducible rfl)
  try simp only [Act.put, List.setIfInBounds_toArray, List.set_cons_zero, List.set_cons_succ]
  refine wpAnyH_take (i := 1) (oi := ?oi1T1) (v := ?v1T1) ?oi0_1T1 (by kernel_rfl) ?ff1T1 ?rr1T1 ?hq1T1 (Or.inl ⟨?hw1T1, ?hy1T1⟩) (by assumption) ?rest1T1
  case oi0_1T1 =>
    conv =>
      lhs
      whnf
      arg 1
      whnf
  case hq1T1 => exact fun _ _ _ h => h
  case ff1T1 => kernel_rfl
  case rr1T1 => kernel_rfl
  case hw1T1 => rfl
  case hy1T1 =>
    intro w hSw
    (try dsimp only at hSw)
    first
    | (go_simp; done)
    | (go_simp; with_reducible rfl)
  try simp only [Act.put, List.setIfInBounds_toArray, List.set_cons_zero, List.set_cons_succ]
  refine wpAnyH_ready (rs := [2]) (by kernel_rfl) (by simp) (AllReadyH.cons (o := ?oi2T1) ?oi0_2T1 (fun K hK => ?_) AllReadyH.nil)
  case oi0_2T1 =>
    conv =>
      lhs
      whnf
      arg 1
      whnf
  go_simp
  go_at_call 19
  have TT := PK'.out wa.drew
  with_reducible (refine TT.mono ?_)
  clear TT
  rintro e w9 ⟨rfl, rfl⟩
  (try dsimp only)
  refine hK.out _ _ (SX.out _ U0.out) (fun hHeld => ?_)
  clear hK K
  try simp only [Act.put, List.setIfInBounds_toArray, List.set_cons_zero, List.set_cons_succ]
  refine wpAnyH_ready (rs := [3]) (by kernel_rfl) (by simp) (AllReadyH.cons (o := ?oi3T1) ?oi0_3T1 (fun K hK => ?_) AllReadyH.nil)
  case oi0_3T1 =>
    conv =>
      lhs
      whnf
      arg 1
      whnf
  go_simp
  go_at_call 49
  have TT := BT.out wa.drew
  with_reducible (refine TT.mono ?_)
  clear TT
  rintro e w9 ⟨A9, c9, rfl, h9, u9⟩
  have H9 := hide h9
  have V9 := hide u9
  clear h9 u9
  (try dsimp only)
  refine hK.out _ _ (SX.out _ (U0.out.trans V9.out (by simp))) (fun hHeld => ?_)
  clear hK K
  try simp only [Act.put, List.setIfInBounds_toArray, List.set_cons_zero, List.set_cons_succ]
  refine wpAnyH_take (i := 4) (oi := ?oi4T1) (v := ?v4T1) ?oi0_4T1 (by kernel_rfl) ?ff4T1 ?rr4T1 ?hq4T1 (Or.inl ⟨?hw4T1, ?hy4T1⟩) (by assumption) ?rest4T1
  case oi0_4T1 =>
    conv =>
      lhs
      whnf
      arg 1
      whnf
  case hq4T1 => exact fun _ _ _ h => h
  case ff4T1 => kernel_rfl
  case rr4T1 => kernel_rfl
  case hw4T1 => rfl
  case hy4T1 =>
    intro w hSw
    (try dsimp only at hSw)
    first
    | (go_simp; done)
    | (go_simp; with_reducible rfl)
  try simp only [Act.put, List.setIfInBounds_toArray, List.set_cons_zero, List.set_cons_succ]
  refine wpAnyH_done (by kernel_rfl) ?_ _
  go_wp2_with fail
  go_ret
  exact ⟨A9, c9, rfl, H9.out, U1.out.trans (U0.out.trans V9.out (by simp)) (by simp)⟩
end Go.Proofs.Ytpkeimdlcafcnaa
