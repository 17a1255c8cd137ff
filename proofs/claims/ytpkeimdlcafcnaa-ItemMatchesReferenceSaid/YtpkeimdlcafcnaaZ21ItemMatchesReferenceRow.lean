/-
  aircheckref07.Encode.
-/
import Derived.Test.YtpkeimdlcafcnaaZ20ItemMatchesReferenceRow
import Derived.Test.YtpkeimdlcafcnaaZ19ItemMatchesReferenceRow
import Derived.Test.YtpkeimdlcafcnaaZ14ItemMatchesReferenceRow
import Derived.Test.YtpkeimdlcafcnaaZ7ItemMatchesReferenceRow

namespace Go.Proofs.Ytpkeimdlcafcnaa
open Go.RowKit
set_option maxRecDepth 100000
set_option maxHeartbeats 40000000

def sevenS (i : It) : List Int := [i.id, i.kind, i.len, i.artist, i.tempo, i.lang, (i.trims.length : Int)]
def eightS (i : It) : List Int := (sevenS i ++ flatSp i.trims) ++ [(i.talks.length : Int)]
theorem eight_all (i : It) : eightS i ++ flatSp i.talks = allS i := by
  rw [allS_form]
  unfold eightS sevenS
  simp
theorem refEncode (i : It) (ta : Option Addr) (tc : Nat) (ka : Option Addr) (kc : Nat) (w : World) (it : ItAt w i ta ka) (h1 : i.trims.length ≤ maxLen) (h2 : i.talks.length ≤ maxLen) :
    Calls Try.prog 17 #[.agg #[.int .i64 i.id, .int .i64 i.kind, .int .i64 i.len, .slice ta i.trims.length tc, .slice ka i.talks.length kc, .int .i64 i.artist, .int .i64 i.tempo, .int .i64 i.lang]] w (EncodePost i w) := by
  have HI := hide it
  clear it
  go_enter Try.func17, Try.ntmps17
  go_upto_region 1 with fail
  obtain ⟨w1, hw1⟩ : ∃ x, w.alloc (.cells #[.int .i64 i.id, .int .i64 i.kind, .int .i64 i.len, .slice ta i.trims.length tc, .slice ka i.talks.length kc, .int .i64 i.artist, .int .i64 i.tempo, .int .i64 i.lang] 24) = x := ⟨_, rfl⟩
  have B1 := hide (show Blk w1 w.heap.size 24 [.int .i64 i.id, .int .i64 i.kind, .int .i64 i.len, .slice ta i.trims.length tc, .slice ka i.talks.length kc, .int .i64 i.artist, .int .i64 i.tempo, .int .i64 i.lang] by rw [← hw1]; exact Blk.new w _ _)
  have U1 := hide (show Upd [] w w1 by rw [← hw1]; exact (Upd.refl [] _).alloc _)
  rw [hw1]
  clear hw1
  have I1 := hide (HI.out.upd U1.out)
  have m0 := B1.out.cell 0
  have m1 := B1.out.cell 1
  have m2 := B1.out.cell 2
  have m3 := B1.out.cell 3
  have m4 := B1.out.cell 4
  have m5 := B1.out.cell 5
  have m6 := B1.out.cell 6
  have m7 := B1.out.cell 7
  go_wp2_with fail
  refine (refValid i ta tc ka kc w1 I1.out h1 h2).mono ?_
  rintro e w2 ⟨rfl, u⟩
  have B2 := hide (B1.out.upd u (by simp))
  have U2 := hide (U1.out.trans u (by simp))
  clear u
  clear m0 m1 m2 m3 m4 m5 m6 m7
  by_cases hv : ItOk i
  case neg =>
    rw [decide_eq_false hv]
    have HP := hide (show ∀ w', Upd [] w w' → EncodePost i w (.returned (.tuple #[.string ⟨#[]⟩, .int .i64 70])) w' from fun w' h => by
      unfold EncodePost
      rw [if_neg hv]
      exact ⟨rfl, h⟩)
    clear hv
    go_wp2_with fail
    go_ret2
    exact HP.out _ U2.out
  rw [decide_eq_true hv]
  have HV := hide hv
  have HP := hide (show ∀ w', Upd [] w w' → EncodePost i w (.returned (.tuple #[.string ⟨(encS i).toArray⟩, .int .i64 0])) w' from fun w' h => by
    unfold EncodePost
    rw [if_pos hv]
    exact ⟨rfl, h⟩)
  clear hv
  have ht4 := HV.out.2.1.1.2
  have hk4 := HV.out.2.1.2.2
  have O7 := hide (own_news w2.heap.size w2 ((sevenS i).map (Value.int .i64)) 3 7 rfl (Nat.le_refl _) (by unfold maxLen; omega))
  have U7 := hide ((Upd.refl [] w2).alloc (.cells #[.int .i64 i.id, .int .i64 i.kind, .int .i64 i.len, .int .i64 i.artist, .int .i64 i.tempo, .int .i64 i.lang, .int .i64 (i.trims.length : Int)] 3))
  have m0 := B2.out.cell 0
  have m1 := B2.out.cell 1
  have m2 := B2.out.cell 2
  have m3 := B2.out.cell 3
  have m4 := B2.out.cell 4
  have m5 := B2.out.cell 5
  have m6 := B2.out.cell 6
  have m7 := B2.out.cell 7
  go_wp2_with fail
  clear m0 m1 m2 m3 m4 m5 m6 m7
  go_loopw [4, 5] (fun s4 s5 wr => ∃ (k : Nat) (A : Option Addr) (n c : Nat) (L : List Int), k ≤ i.trims.length ∧ s5 = .int .i64 k ∧ s4 = .slice A n c ∧ n ≤ 7 + 2 * k ∧ Hid (L = sevenS i ++ flatSp (i.trims.take k)) ∧ Hid (n = L.length) ∧ Hid (wr.ownsRow w2.heap.size 3 1 (.slice A n c) n (L.map (Value.int .i64))) ∧ Hid (Upd [] w2 wr)) (fun _ k _ => i.trims.length - (intOf k).toNat)
  case atStart => exact ⟨0, some ⟨w2.heap.size, 0, none⟩, 7, 7, sevenS i, Nat.zero_le _, rfl, rfl, by omega, hide (by rw [List.take_zero]; simp [flatSp]), hide rfl, O7, U7⟩
  case round =>
    obtain ⟨k, A, n, c, L, hk, rfl, rfl, hnk, hL, hnL, hown, hu⟩ := hrel
    obtain ⟨wo, rfl⟩ : ∃ wo : World, wo = wr := ⟨_, rfl⟩
    have m3 := keepc _ _ _ _ hu.out (B2.out.cell 3)
    by_cases hkl : k < i.trims.length
    case neg =>
      have hke : k = i.trims.length := by omega
      have hki : ¬ (k : Int) < i.trims.length := by omega
      have HL := hide (show L = sevenS i ++ flatSp i.trims by rw [hL.out, List.take_of_length_le (by omega)])
      clear hL hke
      have O1 := hide (show ∀ u ∈ [Value.int .i64 (i.talks.length : Int)], u.oneCell' = true by simp [Value.oneCell'])
      have O3 := hide (show n + 1 ≤ maxLen by unfold maxLen; omega)
      have O4 := hide (show (n + 1) * 8 ≤ 140737488355328 by omega)
      have OB := hide (hown.out.alloc (.cells #[.int .i64 (i.talks.length : Int)] 3))
      have OS := hide (show w2.heap.size ≤ (wo.alloc (.cells #[.int .i64 (i.talks.length : Int)] 3)).heap.size by have := hu.out.size; rw [World.size_alloc]; omega)
      have HL8 := hide (show n + 1 = (eightS i).length by have := hnL.out; rw [HL.out] at this; unfold eightS; rw [List.length_append, ← this]; rfl)
      have AP := hide (show ∀ A5 c5 w5, w5.ownsRow w2.heap.size 3 1 (.slice A5 (n + 1) c5) (n + 1) (L.map (Value.int .i64) ++ [.int .i64 (i.talks.length : Int)]) → Upd (A.map (·.block)).toList (wo.alloc (.cells #[.int .i64 (i.talks.length : Int)] 3)) w5 → w5.ownsRow w2.heap.size 3 1 (.slice A5 (n + 1) c5) (n + 1) ((eightS i).map (Value.int .i64)) ∧ Upd [] w2 w5 from fun A5 c5 w5 h5 u5 => ⟨by unfold eightS; rw [← HL.out, List.map_append]; exact h5, (hu.out.alloc _).trans u5 (fun z hz => .inr (it_own_block hown.out z (by rw [ownBlock_slice]; simpa using hz)))⟩)
      have m4 := keepc _ _ _ _ hu.out (B2.out.cell 4)
      have hbx := World.block_lt_of_cell? _ _ m4
      go_wp2_with (at_builtin; refine wpList_append_base rfl (.tmp 52) (.tmp 56) _ rfl w2.heap.size 3 _ 1 8 Try.underlying26 it_info_int rfl (by decide) A n c _ rfl OB.out ⟨_, 0, none⟩ 1 1 [.int .i64 (i.talks.length : Int)] rfl rfl (cell_one_new _ _ _) O1.out O3.out O4.out OS.out ?_; intro A6 c6 w6 h5 u5 _; have H6 := hide (AP.out A6 c6 w6 h5 u5); clear h5 u5)
      clear m3 m4 hbx
      go_loopw [4, 6] (fun s4 s5 wr => ∃ (k : Nat) (A : Option Addr) (n c : Nat) (L : List Int), k ≤ i.talks.length ∧ s5 = .int .i64 k ∧ s4 = .slice A n c ∧ n ≤ 16 + 2 * k ∧ Hid (L = eightS i ++ flatSp (i.talks.take k)) ∧ Hid (n = L.length) ∧ Hid (wr.ownsRow w2.heap.size 3 1 (.slice A n c) n (L.map (Value.int .i64))) ∧ Hid (Upd [] w2 wr)) (fun _ k _ => i.talks.length - (intOf k).toNat)
      case atStart => exact ⟨0, A6, n + 1, c6, eightS i, Nat.zero_le _, rfl, rfl, by omega, hide (by rw [List.take_zero]; simp [flatSp]), HL8, hide H6.out.1, hide H6.out.2⟩
      case round =>
        obtain ⟨k, A, n, c, L, hk, rfl, rfl, hnk, hL, hnL, hown, hu⟩ := hrel
        obtain ⟨wo, rfl⟩ : ∃ wo : World, wo = wr := ⟨_, rfl⟩
        have m4 := keepc _ _ _ _ hu.out (B2.out.cell 4)
        by_cases hkl : k < i.talks.length
        case neg =>
          have hke : k = i.talks.length := by omega
          have hki : ¬ (k : Int) < i.talks.length := by omega
          have HL := hide (show L = eightS i ++ flatSp i.talks by rw [hL.out, List.take_of_length_le (by omega)])
          clear hL hke
          have HA := hide (show L = allS i by rw [HL.out]; exact eight_all i)
          have HAL := hide (show n = (allS i).length by rw [← HA.out]; exact hnL.out)
          have HII := hide (it_own_ints2 (show wo.ownsRow w2.heap.size 3 1 (.slice A n c) n ((allS i).map (Value.int .i64)) by rw [← HA.out]; exact hown.out) HAL.out)
          have UW := hide (U2.out.trans hu.out (by simp))
          clear hown hnL HL
          go_wp2_with fail
          go_loopw [7, 8] (fun s7 s8 wr => ∃ (k : Nat) (S : ByteArray), k ≤ n ∧ s8 = .int .i64 k ∧ s7 = .string S ∧ S.size ≤ 10 * k ∧ Hid (S = ⟨(((allS i).take k).flatMap putS).toArray⟩) ∧ Hid (Upd [] wo wr)) (fun _ k _ => n - (intOf k).toNat)
          case atStart => exact ⟨0, ⟨#[]⟩, Nat.zero_le _, rfl, rfl, Nat.le_refl _, hide (by rw [List.take_zero]; rfl), Upd.refl _ _⟩
          case round =>
            obtain ⟨q, S, hq, rfl, rfl, hS, hSe, hv⟩ := hrel
            obtain ⟨wx, rfl⟩ : ∃ wx : World, wx = wr := ⟨_, rfl⟩
            by_cases hql : q < n
            case neg =>
              obtain rfl : q = n := by omega
              have hqi : ¬ (q : Int) < q := by omega
              have HE := hide (show S = ⟨(encS i).toArray⟩ by rw [hSe.out, List.take_of_length_le (by have := HAL.out; omega)]; rfl)
              go_wp2_with fail
              go_ret2
              rw [HE.out]
              exact HP.out _ (UW.out.trans hv.out (by simp))
            have hqi : (q : Int) < n := by omega
            have hqw : IntKind.i64.wrap ((q : Int) + 1) = (q : Int) + 1 := Go.IntWalk.i64_in _ (by omega)
            obtain ⟨z, hz⟩ : ∃ z, (allS i)[q]? = some z := ⟨_, List.getElem?_eq_getElem (by have := HAL.out; omega)⟩
            obtain ⟨b, o, ea, hb, cz⟩ := HII.out.form.2 q z hz
            have hzb := allS_bounds HV.out z (List.mem_of_getElem? hz)
            obtain ⟨y, hy⟩ : ∃ y : Nat, z = y := ⟨z.toNat, by omega⟩
            subst hy
            subst ea
            have cq := keepc _ _ _ _ hv.out cz
            have hy9 : y ≤ 3600 := by omega
            have HT := hide (show ((allS i).take (q + 1)).flatMap putS = ((allS i).take q).flatMap putS ++ putS (y : Int) by rw [List.take_add_one, hz, Option.toList_some, List.flatMap_append]; simp)
            have hTl := putS_length (y : Int) (by omega) (by omega)
            clear hz hb cz hzb
            go_wp2_with fail
            refine (refPutInt y wx hy9).mono ?_
            rintro e wy ⟨rfl, u⟩
            have VY := hide (hv.out.trans u (by simp))
            clear u cq
            obtain ⟨T, hT⟩ : ∃ T : ByteArray, (⟨(putS (y : Int)).toArray⟩ : ByteArray) = T := ⟨_, rfl⟩
            have hTs : T.size ≤ 10 := by rw [← hT]; simpa [ByteArray.size] using hTl
            have HST := hide (show S ++ T = ⟨(((allS i).take (q + 1)).flatMap putS).toArray⟩ by rw [hSe.out, ← hT, HT.out, ByteArray.mk_append_mk])
            rw [hT]
            clear hT hTl
            obtain ⟨S2, hS2⟩ : ∃ S2 : ByteArray, S ++ T = S2 := ⟨_, rfl⟩
            have hS2s : S2.size ≤ 10 * (q + 1) := by rw [← hS2, ByteArray.size_append]; omega
            have hadd : ∀ W : World, (Op.stringOp .add S T).run Try.prog W = .ok (.string S2) W := fun W => by rw [run_string_add_sum W S T (by omega), hS2]
            rw [hS2] at HST
            clear hS2
            go_wp2_with fail
            go_roundw
            case rel => exact ⟨q + 1, S2, by omega, by go_num, rfl, hS2s, HST, VY⟩
            case measure => simp [intOf] <;> omega
        have hki : (k : Int) < i.talks.length := by omega
        have hkw : IntKind.i64.wrap ((k : Int) + 1) = (k : Int) + 1 := Go.IntWalk.i64_in _ (by omega)
        obtain ⟨t, ht⟩ : ∃ t, i.talks[k]? = some t := ⟨_, List.getElem?_eq_getElem hkl⟩
        obtain ⟨b, o, ea, hb, c0, c1⟩ := (HI.out.upd U2.out).talks k t ht
        have HLN := hide (show L ++ [t.fr, t.to_] = eightS i ++ flatSp (i.talks.take (k + 1)) by rw [hL.out, List.append_assoc, List.take_add_one, ht, Option.toList_some, flatSp_snoc])
        clear ht hb
        have C3 := hide (B2.out.cell 4)
        subst ea
        have C0 := hide c0
        have C1 := hide c1
        clear c0 c1
        have SX := hide (show ∀ W, Upd [] w2 W → W.cell? ⟨w.heap.size, 4, none⟩ = some (.slice (some ⟨b, o, none⟩) i.talks.length kc) ∧ W.cell? ⟨b, o + k * 2, none⟩ = some (.int .i64 t.fr) ∧ W.cell? ⟨b, o + k * 2 + 1, none⟩ = some (.int .i64 t.to_) from fun W hW => ⟨keepc _ _ _ _ hW C3.out, keepc _ _ _ _ hW C0.out, keepc _ _ _ _ hW C1.out⟩)
        have O1 := hide (show ∀ u ∈ [Value.int .i64 t.fr, Value.int .i64 t.to_], u.oneCell' = true by simp [Value.oneCell'])
        have O3 := hide (show n + 2 ≤ maxLen by unfold maxLen; omega)
        have O4 := hide (show (n + 2) * 8 ≤ 140737488355328 by omega)
        have OB := hide (show ∀ W, Upd [] wo W → (W.alloc (.cells #[.int .i64 t.fr, .int .i64 t.to_] 3)).ownsRow w2.heap.size 3 1 (.slice A n c) n (L.map (Value.int .i64)) from fun W hW => (own_kept hown.out hW (by simp)).alloc _)
        have OS := hide (show ∀ W, Upd [] wo W → w2.heap.size ≤ (W.alloc (.cells #[.int .i64 t.fr, .int .i64 t.to_] 3)).heap.size from fun W hW => by have := hu.out.size; have := hW.size; rw [World.size_alloc]; omega)
        have AP := hide (show ∀ W, Upd [] wo W → ∀ A5 c5 w5, w5.ownsRow w2.heap.size 3 1 (.slice A5 (n + 2) c5) (n + 2) (L.map (Value.int .i64) ++ [.int .i64 t.fr, .int .i64 t.to_]) → Upd (A.map (·.block)).toList (W.alloc (.cells #[.int .i64 t.fr, .int .i64 t.to_] 3)) w5 → w5.ownsRow w2.heap.size 3 1 (.slice A5 (n + 2) c5) (n + 2) ((L ++ [t.fr, t.to_]).map (Value.int .i64)) ∧ Upd [] w2 w5 from fun W hW A5 c5 w5 h5 u5 => ⟨by rw [List.map_append]; exact h5, ((hu.out.trans hW (by simp)).alloc _).trans u5 (fun z hz => .inr (it_own_block hown.out z (by rw [ownBlock_slice]; simpa using hz)))⟩)
        go_wp2_with fail
        refine wp_region_held_drew (S := (fun w' => w'.cell? ⟨w.heap.size, 4, none⟩ = some (.slice (some ⟨b, o, none⟩) i.talks.length kc) ∧ w'.cell? ⟨b, o + k * 2, none⟩ = some (.int .i64 t.fr) ∧ w'.cell? ⟨b, o + k * 2 + 1, none⟩ = some (.int .i64 t.to_))) (by kernel_rfl) (SX.out _ hu.out.drew) (fun hHeld => ?_)
        obtain ⟨wD, hwD⟩ : ∃ wD, wo.drew = wD := ⟨_, rfl⟩
        have VD := hide (show Upd [] wo wD by rw [← hwD]; exact (Upd.refl _ _).drew)
        rw [hwD] at hHeld ⊢
        clear hwD
        refine wpAnyH_take (i := 0) (oi := ?oi0B) (v := ?v0B) ?oi0_0B (by kernel_rfl) ?ff0B ?rr0B ?hq0B (Or.inl ⟨?hw0B, ?hy0B⟩) (by assumption) ?rest0B
        case oi0_0B =>
          conv =>
            lhs
            whnf
            arg 1
            whnf
        case hq0B => exact fun _ _ _ h => h
        case ff0B => kernel_rfl
        case rr0B => kernel_rfl
        case hw0B => rfl
        case hy0B =>
          intro w hSw
          (try dsimp only at hSw)
          first
          | (go_simp; done)
          | (go_simp; with_reducible rfl)
        try simp only [Act.put, List.setIfInBounds_toArray, List.set_cons_zero, List.set_cons_succ]
        refine wpAnyH_take (i := 1) (oi := ?oi1B) (v := ?v1B) ?oi0_1B (by kernel_rfl) ?ff1B ?rr1B ?hq1B (Or.inl ⟨?hw1B, ?hy1B⟩) (by assumption) ?rest1B
        case oi0_1B =>
          conv =>
            lhs
            whnf
            arg 1
            whnf
        case hq1B => exact fun _ _ _ h => h
        case ff1B => kernel_rfl
        case rr1B => kernel_rfl
        case hw1B => rfl
        case hy1B =>
          intro w hSw
          (try dsimp only at hSw)
          first
          | (go_simp; done)
          | (go_simp; with_reducible rfl)
        try simp only [Act.put, List.setIfInBounds_toArray, List.set_cons_zero, List.set_cons_succ]
        refine wpAnyH_take (i := 2) (oi := ?oi2B) (v := ?v2B) ?oi0_2B (by kernel_rfl) ?ff2B ?rr2B ?hq2B (Or.inl ⟨?hw2B, ?hy2B⟩) (by assumption) ?rest2B
        case oi0_2B =>
          conv =>
            lhs
            whnf
            arg 1
            whnf
        case hq2B => exact fun _ _ _ h => h
        case ff2B => kernel_rfl
        case rr2B => kernel_rfl
        case hw2B => rfl
        case hy2B =>
          intro w hSw
          (try dsimp only at hSw)
          first
          | (go_simp; done)
          | (go_simp; with_reducible rfl)
        try simp only [Act.put, List.setIfInBounds_toArray, List.set_cons_zero, List.set_cons_succ]
        refine wpAnyH_take (i := 3) (oi := ?oi3B) (v := ?v3B) ?oi0_3B (by kernel_rfl) ?ff3B ?rr3B ?hq3B (Or.inl ⟨?hw3B, ?hy3B⟩) (by assumption) ?rest3B
        case oi0_3B =>
          conv =>
            lhs
            whnf
            arg 1
            whnf
        case hq3B => exact fun _ _ _ h => h
        case ff3B => kernel_rfl
        case rr3B => kernel_rfl
        case hw3B => rfl
        case hy3B =>
          intro w hSw
          (try dsimp only at hSw)
          first
          | (go_simp; done)
          | (go_simp; with_reducible rfl)
        try simp only [Act.put, List.setIfInBounds_toArray, List.set_cons_zero, List.set_cons_succ]
        refine wpAnyH_take (i := 4) (oi := ?oi4B) (v := ?v4B) ?oi0_4B (by kernel_rfl) ?ff4B ?rr4B ?hq4B (Or.inl ⟨?hw4B, ?hy4B⟩) (by assumption) ?rest4B
        case oi0_4B =>
          conv =>
            lhs
            whnf
            arg 1
            whnf
        case hq4B => exact fun _ _ _ h => h
        case ff4B => kernel_rfl
        case rr4B => kernel_rfl
        case hw4B => rfl
        case hy4B =>
          intro w hSw
          (try dsimp only at hSw)
          first
          | (go_simp; done)
          | (go_simp; with_reducible rfl)
        try simp only [Act.put, List.setIfInBounds_toArray, List.set_cons_zero, List.set_cons_succ]
        refine wpAnyH_take (i := 5) (oi := ?oi5B) (v := ?v5B) ?oi0_5B (by kernel_rfl) ?ff5B ?rr5B ?hq5B (Or.inl ⟨?hw5B, ?hy5B⟩) (by assumption) ?rest5B
        case oi0_5B =>
          conv =>
            lhs
            whnf
            arg 1
            whnf
        case hq5B => exact fun _ _ _ h => h
        case ff5B => kernel_rfl
        case rr5B => kernel_rfl
        case hw5B => rfl
        case hy5B =>
          intro w hSw
          (try dsimp only at hSw)
          first
          | (go_simp; done)
          | (go_simp; with_reducible rfl)
        try simp only [Act.put, List.setIfInBounds_toArray, List.set_cons_zero, List.set_cons_succ]
        refine wpAnyH_take (i := 6) (oi := ?oi6B) (v := ?v6B) ?oi0_6B (by kernel_rfl) ?ff6B ?rr6B ?hq6B (Or.inl ⟨?hw6B, ?hy6B⟩) (by assumption) ?rest6B
        case oi0_6B =>
          conv =>
            lhs
            whnf
            arg 1
            whnf
        case hq6B => exact fun _ _ _ h => h
        case ff6B => kernel_rfl
        case rr6B => kernel_rfl
        case hw6B => rfl
        case hy6B =>
          intro w hSw
          (try dsimp only at hSw)
          first
          | (go_simp; done)
          | (go_simp; with_reducible rfl)
        try simp only [Act.put, List.setIfInBounds_toArray, List.set_cons_zero, List.set_cons_succ]
        refine wpAnyH_take (i := 7) (oi := ?oi7B) (v := ?v7B) ?oi0_7B (by kernel_rfl) ?ff7B ?rr7B ?hq7B (Or.inl ⟨?hw7B, ?hy7B⟩) (by assumption) ?rest7B
        case oi0_7B =>
          conv =>
            lhs
            whnf
            arg 1
            whnf
        case hq7B => exact fun _ _ _ h => h
        case ff7B => kernel_rfl
        case rr7B => kernel_rfl
        case hw7B => rfl
        case hy7B =>
          intro w hSw
          (try dsimp only at hSw)
          first
          | (go_simp; done)
          | (go_simp; with_reducible rfl)
        try simp only [Act.put, List.setIfInBounds_toArray, List.set_cons_zero, List.set_cons_succ]
        refine wpAnyH_take (i := 8) (oi := ?oi8B) (v := ?v8B) ?oi0_8B (by kernel_rfl) ?ff8B ?rr8B ?hq8B (Or.inl ⟨?hw8B, ?hy8B⟩) (by assumption) ?rest8B
        case oi0_8B =>
          conv =>
            lhs
            whnf
            arg 1
            whnf
        case hq8B => exact fun _ _ _ h => h
        case ff8B => kernel_rfl
        case rr8B => kernel_rfl
        case hw8B => rfl
        case hy8B =>
          intro w hSw
          (try dsimp only at hSw)
          first
          | (go_simp; done)
          | (go_simp; with_reducible rfl)
        try simp only [Act.put, List.setIfInBounds_toArray, List.set_cons_zero, List.set_cons_succ]
        refine wpAnyH_take (i := 9) (oi := ?oi9B) (v := ?v9B) ?oi0_9B (by kernel_rfl) ?ff9B ?rr9B ?hq9B (Or.inl ⟨?hw9B, ?hy9B⟩) (by assumption) ?rest9B
        case oi0_9B =>
          conv =>
            lhs
            whnf
            arg 1
            whnf
        case hq9B => exact fun _ _ _ h => h
        case ff9B => kernel_rfl
        case rr9B => kernel_rfl
        case hw9B => rfl
        case hy9B =>
          intro w hSw
          (try dsimp only at hSw)
          first
          | (go_simp; done)
          | (go_simp; with_reducible rfl)
        try simp only [Act.put, List.setIfInBounds_toArray, List.set_cons_zero, List.set_cons_succ]
        refine wpAnyH_take (i := 10) (oi := ?oi10B) (v := ?v10B) ?oi0_10B (by kernel_rfl) ?ff10B ?rr10B ?hq10B (Or.inl ⟨?hw10B, ?hy10B⟩) (by assumption) ?rest10B
        case oi0_10B =>
          conv =>
            lhs
            whnf
            arg 1
            whnf
        case hq10B => exact fun _ _ _ h => h
        case ff10B => kernel_rfl
        case rr10B => kernel_rfl
        case hw10B => rfl
        case hy10B =>
          intro w hSw
          (try dsimp only at hSw)
          first
          | (go_simp; done)
          | (go_simp; with_reducible rfl)
        try simp only [Act.put, List.setIfInBounds_toArray, List.set_cons_zero, List.set_cons_succ]
        refine wpAnyH_take (i := 11) (oi := ?oi11B) (v := ?v11B) ?oi0_11B (by kernel_rfl) ?ff11B ?rr11B ?hq11B (Or.inl ⟨?hw11B, ?hy11B⟩) (by assumption) ?rest11B
        case oi0_11B =>
          conv =>
            lhs
            whnf
            arg 1
            whnf
        case hq11B => exact fun _ _ _ h => h
        case ff11B => kernel_rfl
        case rr11B => kernel_rfl
        case hw11B => rfl
        case hy11B =>
          intro w hSw
          (try dsimp only at hSw)
          first
          | (go_simp; done)
          | (go_simp; with_reducible rfl)
        try simp only [Act.put, List.setIfInBounds_toArray, List.set_cons_zero, List.set_cons_succ]
        refine wpAnyH_take (i := 12) (oi := ?oi12B) (v := ?v12B) ?oi0_12B (by kernel_rfl) ?ff12B ?rr12B ?hq12B (Or.inl ⟨?hw12B, ?hy12B⟩) (by assumption) ?rest12B
        case oi0_12B =>
          conv =>
            lhs
            whnf
            arg 1
            whnf
        case hq12B => exact fun _ _ _ h => h
        case ff12B => kernel_rfl
        case rr12B => kernel_rfl
        case hw12B => rfl
        case hy12B =>
          intro w hSw
          (try dsimp only at hSw)
          first
          | (go_simp; done)
          | (go_simp; with_reducible rfl)
        try simp only [Act.put, List.setIfInBounds_toArray, List.set_cons_zero, List.set_cons_succ]
        refine wpAnyH_ready (rs := [13]) (by kernel_rfl) (by simp) (AllReadyH.cons (o := ?oi13B) ?oi0_13B (fun K hK => ?_) AllReadyH.nil)
        case oi0_13B =>
          conv =>
            lhs
            whnf
            arg 1
            whnf
        go_simp
        (try dsimp only)
        refine hK.out _ _ (SX.out _ ((hu.out.trans VD.out (by simp)).alloc _)) (fun hHeld => ?_)
        clear hK K
        try simp only [Act.put, List.setIfInBounds_toArray, List.set_cons_zero, List.set_cons_succ]
        refine wpAnyH_ready (rs := [14]) (by kernel_rfl) (by simp) (AllReadyH.cons (o := ?oi14B) ?oi0_14B (fun K hK => ?_) AllReadyH.nil)
        case oi0_14B =>
          conv =>
            lhs
            whnf
            arg 1
            whnf
        refine step_append_base rfl (.tmp 65) (.tmp 78) _ rfl w2.heap.size 3 _ 1 8 Try.underlying26 it_info_int rfl (by decide) A n c _ rfl (OB.out _ VD.out) ⟨wD.heap.size, 0, none⟩ 2 2 [.int .i64 t.fr, .int .i64 t.to_] rfl rfl (cell_two_new _ _ _ _) O1.out O3.out O4.out (OS.out _ VD.out) ?_
        intro A5 c5 w5 h5 u5
        have H5 := hide (AP.out _ VD.out A5 c5 w5 h5 u5)
        clear h5 u5
        (try dsimp only)
        refine hK.out _ _ (SX.out _ H5.out.2) (fun hHeld => ?_)
        clear hK K
        try simp only [Act.put, List.setIfInBounds_toArray, List.set_cons_zero, List.set_cons_succ]
        refine wpAnyH_take (i := 15) (oi := ?oi15B) (v := ?v15B) ?oi0_15B (by kernel_rfl) ?ff15B ?rr15B ?hq15B (Or.inl ⟨?hw15B, ?hy15B⟩) (by assumption) ?rest15B
        case oi0_15B =>
          conv =>
            lhs
            whnf
            arg 1
            whnf
        case hq15B => exact fun _ _ _ h => h
        case ff15B => kernel_rfl
        case rr15B => kernel_rfl
        case hw15B => rfl
        case hy15B =>
          intro w hSw
          (try dsimp only at hSw)
          first
          | (go_simp; done)
          | (go_simp; with_reducible rfl)
        try simp only [Act.put, List.setIfInBounds_toArray, List.set_cons_zero, List.set_cons_succ]
        refine wpAnyH_done (by kernel_rfl) ?_ _
        go_wp2_with fail
        go_roundw
        case rel => exact ⟨k + 1, A5, n + 2, c5, L ++ [t.fr, t.to_], by omega, by go_num, rfl, by omega, HLN, hide (by rw [List.length_append, ← hnL.out]; rfl), hide H5.out.1, hide H5.out.2⟩
        case measure => simp [intOf] <;> omega
    have hki : (k : Int) < i.trims.length := by omega
    have hkw : IntKind.i64.wrap ((k : Int) + 1) = (k : Int) + 1 := Go.IntWalk.i64_in _ (by omega)
    obtain ⟨t, ht⟩ : ∃ t, i.trims[k]? = some t := ⟨_, List.getElem?_eq_getElem hkl⟩
    obtain ⟨b, o, ea, hb, c0, c1⟩ := (HI.out.upd U2.out).trims k t ht
    have HLN := hide (show L ++ [t.fr, t.to_] = sevenS i ++ flatSp (i.trims.take (k + 1)) by rw [hL.out, List.append_assoc, List.take_add_one, ht, Option.toList_some, flatSp_snoc])
    clear ht hb
    have C3 := hide (B2.out.cell 3)
    subst ea
    have C0 := hide c0
    have C1 := hide c1
    clear c0 c1
    have SX := hide (show ∀ W, Upd [] w2 W → W.cell? ⟨w.heap.size, 3, none⟩ = some (.slice (some ⟨b, o, none⟩) i.trims.length tc) ∧ W.cell? ⟨b, o + k * 2, none⟩ = some (.int .i64 t.fr) ∧ W.cell? ⟨b, o + k * 2 + 1, none⟩ = some (.int .i64 t.to_) from fun W hW => ⟨keepc _ _ _ _ hW C3.out, keepc _ _ _ _ hW C0.out, keepc _ _ _ _ hW C1.out⟩)
    have O1 := hide (show ∀ u ∈ [Value.int .i64 t.fr, Value.int .i64 t.to_], u.oneCell' = true by simp [Value.oneCell'])
    have O3 := hide (show n + 2 ≤ maxLen by unfold maxLen; omega)
    have O4 := hide (show (n + 2) * 8 ≤ 140737488355328 by omega)
    have OB := hide (show ∀ W, Upd [] wo W → (W.alloc (.cells #[.int .i64 t.fr, .int .i64 t.to_] 3)).ownsRow w2.heap.size 3 1 (.slice A n c) n (L.map (Value.int .i64)) from fun W hW => (own_kept hown.out hW (by simp)).alloc _)
    have OS := hide (show ∀ W, Upd [] wo W → w2.heap.size ≤ (W.alloc (.cells #[.int .i64 t.fr, .int .i64 t.to_] 3)).heap.size from fun W hW => by have := hu.out.size; have := hW.size; rw [World.size_alloc]; omega)
    have AP := hide (show ∀ W, Upd [] wo W → ∀ A5 c5 w5, w5.ownsRow w2.heap.size 3 1 (.slice A5 (n + 2) c5) (n + 2) (L.map (Value.int .i64) ++ [.int .i64 t.fr, .int .i64 t.to_]) → Upd (A.map (·.block)).toList (W.alloc (.cells #[.int .i64 t.fr, .int .i64 t.to_] 3)) w5 → w5.ownsRow w2.heap.size 3 1 (.slice A5 (n + 2) c5) (n + 2) ((L ++ [t.fr, t.to_]).map (Value.int .i64)) ∧ Upd [] w2 w5 from fun W hW A5 c5 w5 h5 u5 => ⟨by rw [List.map_append]; exact h5, ((hu.out.trans hW (by simp)).alloc _).trans u5 (fun z hz => .inr (it_own_block hown.out z (by rw [ownBlock_slice]; simpa using hz)))⟩)
    go_wp2_with fail
    refine wp_region_held_drew (S := (fun w' => w'.cell? ⟨w.heap.size, 3, none⟩ = some (.slice (some ⟨b, o, none⟩) i.trims.length tc) ∧ w'.cell? ⟨b, o + k * 2, none⟩ = some (.int .i64 t.fr) ∧ w'.cell? ⟨b, o + k * 2 + 1, none⟩ = some (.int .i64 t.to_))) (by kernel_rfl) (SX.out _ hu.out.drew) (fun hHeld => ?_)
    obtain ⟨wD, hwD⟩ : ∃ wD, wo.drew = wD := ⟨_, rfl⟩
    have VD := hide (show Upd [] wo wD by rw [← hwD]; exact (Upd.refl _ _).drew)
    rw [hwD] at hHeld ⊢
    clear hwD
    refine wpAnyH_take (i := 0) (oi := ?oi0A) (v := ?v0A) ?oi0_0A (by kernel_rfl) ?ff0A ?rr0A ?hq0A (Or.inl ⟨?hw0A, ?hy0A⟩) (by assumption) ?rest0A
    case oi0_0A =>
      conv =>
        lhs
        whnf
        arg 1
        whnf
    case hq0A => exact fun _ _ _ h => h
    case ff0A => kernel_rfl
    case rr0A => kernel_rfl
    case hw0A => rfl
    case hy0A =>
      intro w hSw
      (try dsimp only at hSw)
      first
      | (go_simp; done)
      | (go_simp; with_reducible rfl)
    try simp only [Act.put, List.setIfInBounds_toArray, List.set_cons_zero, List.set_cons_succ]
    refine wpAnyH_take (i := 1) (oi := ?oi1A) (v := ?v1A) ?oi0_1A (by kernel_rfl) ?ff1A ?rr1A ?hq1A (Or.inl ⟨?hw1A, ?hy1A⟩) (by assumption) ?rest1A
    case oi0_1A =>
      conv =>
        lhs
        whnf
        arg 1
        whnf
    case hq1A => exact fun _ _ _ h => h
    case ff1A => kernel_rfl
    case rr1A => kernel_rfl
    case hw1A => rfl
    case hy1A =>
      intro w hSw
      (try dsimp only at hSw)
      first
      | (go_simp; done)
      | (go_simp; with_reducible rfl)
    try simp only [Act.put, List.setIfInBounds_toArray, List.set_cons_zero, List.set_cons_succ]
    refine wpAnyH_take (i := 2) (oi := ?oi2A) (v := ?v2A) ?oi0_2A (by kernel_rfl) ?ff2A ?rr2A ?hq2A (Or.inl ⟨?hw2A, ?hy2A⟩) (by assumption) ?rest2A
    case oi0_2A =>
      conv =>
        lhs
        whnf
        arg 1
        whnf
    case hq2A => exact fun _ _ _ h => h
    case ff2A => kernel_rfl
    case rr2A => kernel_rfl
    case hw2A => rfl
    case hy2A =>
      intro w hSw
      (try dsimp only at hSw)
      first
      | (go_simp; done)
      | (go_simp; with_reducible rfl)
    try simp only [Act.put, List.setIfInBounds_toArray, List.set_cons_zero, List.set_cons_succ]
    refine wpAnyH_take (i := 3) (oi := ?oi3A) (v := ?v3A) ?oi0_3A (by kernel_rfl) ?ff3A ?rr3A ?hq3A (Or.inl ⟨?hw3A, ?hy3A⟩) (by assumption) ?rest3A
    case oi0_3A =>
      conv =>
        lhs
        whnf
        arg 1
        whnf
    case hq3A => exact fun _ _ _ h => h
    case ff3A => kernel_rfl
    case rr3A => kernel_rfl
    case hw3A => rfl
    case hy3A =>
      intro w hSw
      (try dsimp only at hSw)
      first
      | (go_simp; done)
      | (go_simp; with_reducible rfl)
    try simp only [Act.put, List.setIfInBounds_toArray, List.set_cons_zero, List.set_cons_succ]
    refine wpAnyH_take (i := 4) (oi := ?oi4A) (v := ?v4A) ?oi0_4A (by kernel_rfl) ?ff4A ?rr4A ?hq4A (Or.inl ⟨?hw4A, ?hy4A⟩) (by assumption) ?rest4A
    case oi0_4A =>
      conv =>
        lhs
        whnf
        arg 1
        whnf
    case hq4A => exact fun _ _ _ h => h
    case ff4A => kernel_rfl
    case rr4A => kernel_rfl
    case hw4A => rfl
    case hy4A =>
      intro w hSw
      (try dsimp only at hSw)
      first
      | (go_simp; done)
      | (go_simp; with_reducible rfl)
    try simp only [Act.put, List.setIfInBounds_toArray, List.set_cons_zero, List.set_cons_succ]
    refine wpAnyH_take (i := 5) (oi := ?oi5A) (v := ?v5A) ?oi0_5A (by kernel_rfl) ?ff5A ?rr5A ?hq5A (Or.inl ⟨?hw5A, ?hy5A⟩) (by assumption) ?rest5A
    case oi0_5A =>
      conv =>
        lhs
        whnf
        arg 1
        whnf
    case hq5A => exact fun _ _ _ h => h
    case ff5A => kernel_rfl
    case rr5A => kernel_rfl
    case hw5A => rfl
    case hy5A =>
      intro w hSw
      (try dsimp only at hSw)
      first
      | (go_simp; done)
      | (go_simp; with_reducible rfl)
    try simp only [Act.put, List.setIfInBounds_toArray, List.set_cons_zero, List.set_cons_succ]
    refine wpAnyH_take (i := 6) (oi := ?oi6A) (v := ?v6A) ?oi0_6A (by kernel_rfl) ?ff6A ?rr6A ?hq6A (Or.inl ⟨?hw6A, ?hy6A⟩) (by assumption) ?rest6A
    case oi0_6A =>
      conv =>
        lhs
        whnf
        arg 1
        whnf
    case hq6A => exact fun _ _ _ h => h
    case ff6A => kernel_rfl
    case rr6A => kernel_rfl
    case hw6A => rfl
    case hy6A =>
      intro w hSw
      (try dsimp only at hSw)
      first
      | (go_simp; done)
      | (go_simp; with_reducible rfl)
    try simp only [Act.put, List.setIfInBounds_toArray, List.set_cons_zero, List.set_cons_succ]
    refine wpAnyH_take (i := 7) (oi := ?oi7A) (v := ?v7A) ?oi0_7A (by kernel_rfl) ?ff7A ?rr7A ?hq7A (Or.inl ⟨?hw7A, ?hy7A⟩) (by assumption) ?rest7A
    case oi0_7A =>
      conv =>
        lhs
        whnf
        arg 1
        whnf
    case hq7A => exact fun _ _ _ h => h
    case ff7A => kernel_rfl
    case rr7A => kernel_rfl
    case hw7A => rfl
    case hy7A =>
      intro w hSw
      (try dsimp only at hSw)
      first
      | (go_simp; done)
      | (go_simp; with_reducible rfl)
    try simp only [Act.put, List.setIfInBounds_toArray, List.set_cons_zero, List.set_cons_succ]
    refine wpAnyH_take (i := 8) (oi := ?oi8A) (v := ?v8A) ?oi0_8A (by kernel_rfl) ?ff8A ?rr8A ?hq8A (Or.inl ⟨?hw8A, ?hy8A⟩) (by assumption) ?rest8A
    case oi0_8A =>
      conv =>
        lhs
        whnf
        arg 1
        whnf
    case hq8A => exact fun _ _ _ h => h
    case ff8A => kernel_rfl
    case rr8A => kernel_rfl
    case hw8A => rfl
    case hy8A =>
      intro w hSw
      (try dsimp only at hSw)
      first
      | (go_simp; done)
      | (go_simp; with_reducible rfl)
    try simp only [Act.put, List.setIfInBounds_toArray, List.set_cons_zero, List.set_cons_succ]
    refine wpAnyH_take (i := 9) (oi := ?oi9A) (v := ?v9A) ?oi0_9A (by kernel_rfl) ?ff9A ?rr9A ?hq9A (Or.inl ⟨?hw9A, ?hy9A⟩) (by assumption) ?rest9A
    case oi0_9A =>
      conv =>
        lhs
        whnf
        arg 1
        whnf
    case hq9A => exact fun _ _ _ h => h
    case ff9A => kernel_rfl
    case rr9A => kernel_rfl
    case hw9A => rfl
    case hy9A =>
      intro w hSw
      (try dsimp only at hSw)
      first
      | (go_simp; done)
      | (go_simp; with_reducible rfl)
    try simp only [Act.put, List.setIfInBounds_toArray, List.set_cons_zero, List.set_cons_succ]
    refine wpAnyH_take (i := 10) (oi := ?oi10A) (v := ?v10A) ?oi0_10A (by kernel_rfl) ?ff10A ?rr10A ?hq10A (Or.inl ⟨?hw10A, ?hy10A⟩) (by assumption) ?rest10A
    case oi0_10A =>
      conv =>
        lhs
        whnf
        arg 1
        whnf
    case hq10A => exact fun _ _ _ h => h
    case ff10A => kernel_rfl
    case rr10A => kernel_rfl
    case hw10A => rfl
    case hy10A =>
      intro w hSw
      (try dsimp only at hSw)
      first
      | (go_simp; done)
      | (go_simp; with_reducible rfl)
    try simp only [Act.put, List.setIfInBounds_toArray, List.set_cons_zero, List.set_cons_succ]
    refine wpAnyH_take (i := 11) (oi := ?oi11A) (v := ?v11A) ?oi0_11A (by kernel_rfl) ?ff11A ?rr11A ?hq11A (Or.inl ⟨?hw11A, ?hy11A⟩) (by assumption) ?rest11A
    case oi0_11A =>
      conv =>
        lhs
        whnf
        arg 1
        whnf
    case hq11A => exact fun _ _ _ h => h
    case ff11A => kernel_rfl
    case rr11A => kernel_rfl
    case hw11A => rfl
    case hy11A =>
      intro w hSw
      (try dsimp only at hSw)
      first
      | (go_simp; done)
      | (go_simp; with_reducible rfl)
    try simp only [Act.put, List.setIfInBounds_toArray, List.set_cons_zero, List.set_cons_succ]
    refine wpAnyH_take (i := 12) (oi := ?oi12A) (v := ?v12A) ?oi0_12A (by kernel_rfl) ?ff12A ?rr12A ?hq12A (Or.inl ⟨?hw12A, ?hy12A⟩) (by assumption) ?rest12A
    case oi0_12A =>
      conv =>
        lhs
        whnf
        arg 1
        whnf
    case hq12A => exact fun _ _ _ h => h
    case ff12A => kernel_rfl
    case rr12A => kernel_rfl
    case hw12A => rfl
    case hy12A =>
      intro w hSw
      (try dsimp only at hSw)
      first
      | (go_simp; done)
      | (go_simp; with_reducible rfl)
    try simp only [Act.put, List.setIfInBounds_toArray, List.set_cons_zero, List.set_cons_succ]
    refine wpAnyH_ready (rs := [13]) (by kernel_rfl) (by simp) (AllReadyH.cons (o := ?oi13A) ?oi0_13A (fun K hK => ?_) AllReadyH.nil)
    case oi0_13A =>
      conv =>
        lhs
        whnf
        arg 1
        whnf
    go_simp
    (try dsimp only)
    refine hK.out _ _ (SX.out _ ((hu.out.trans VD.out (by simp)).alloc _)) (fun hHeld => ?_)
    clear hK K
    try simp only [Act.put, List.setIfInBounds_toArray, List.set_cons_zero, List.set_cons_succ]
    refine wpAnyH_ready (rs := [14]) (by kernel_rfl) (by simp) (AllReadyH.cons (o := ?oi14A) ?oi0_14A (fun K hK => ?_) AllReadyH.nil)
    case oi0_14A =>
      conv =>
        lhs
        whnf
        arg 1
        whnf
    refine step_append_base rfl (.tmp 37) (.tmp 50) _ rfl w2.heap.size 3 _ 1 8 Try.underlying26 it_info_int rfl (by decide) A n c _ rfl (OB.out _ VD.out) ⟨wD.heap.size, 0, none⟩ 2 2 [.int .i64 t.fr, .int .i64 t.to_] rfl rfl (cell_two_new _ _ _ _) O1.out O3.out O4.out (OS.out _ VD.out) ?_
    intro A5 c5 w5 h5 u5
    have H5 := hide (AP.out _ VD.out A5 c5 w5 h5 u5)
    clear h5 u5
    (try dsimp only)
    refine hK.out _ _ (SX.out _ H5.out.2) (fun hHeld => ?_)
    clear hK K
    try simp only [Act.put, List.setIfInBounds_toArray, List.set_cons_zero, List.set_cons_succ]
    refine wpAnyH_take (i := 15) (oi := ?oi15A) (v := ?v15A) ?oi0_15A (by kernel_rfl) ?ff15A ?rr15A ?hq15A (Or.inl ⟨?hw15A, ?hy15A⟩) (by assumption) ?rest15A
    case oi0_15A =>
      conv =>
        lhs
        whnf
        arg 1
        whnf
    case hq15A => exact fun _ _ _ h => h
    case ff15A => kernel_rfl
    case rr15A => kernel_rfl
    case hw15A => rfl
    case hy15A =>
      intro w hSw
      (try dsimp only at hSw)
      first
      | (go_simp; done)
      | (go_simp; with_reducible rfl)
    try simp only [Act.put, List.setIfInBounds_toArray, List.set_cons_zero, List.set_cons_succ]
    refine wpAnyH_done (by kernel_rfl) ?_ _
    go_wp2_with fail
    go_roundw
    case rel => exact ⟨k + 1, A5, n + 2, c5, L ++ [t.fr, t.to_], by omega, by go_num, rfl, by omega, HLN, hide (by rw [List.length_append, ← hnL.out]; rfl), hide H5.out.1, hide H5.out.2⟩
    case measure => simp [intOf] <;> omega
end Go.Proofs.Ytpkeimdlcafcnaa
