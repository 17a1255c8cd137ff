/-
  The walk of the statement that a crash in which all writes survive changes nothing.
-/
import Derived.Test.YthjcgaahnpbcdaaLawSy
namespace Go.Proofs.Ythjcgaahnpbcdaa
open Go.RowKit
set_option maxRecDepth 100000
set_option maxHeartbeats 1000000

theorem order_all (n : Nat) : order n ((List.range n).map fun i : Nat => (i : Int)) = List.range n := by
  unfold order
  rw [List.filter_eq_self]
  intro i hi
  simp only [List.mem_range] at hi
  simp only [List.mem_map, List.mem_range, decide_eq_true_eq]
  exact ⟨i, hi, rfl⟩
theorem kept_all (D : DiskS) : D.kept ((List.range D.pend.length).map fun i : Nat => (i : Int)) = D.pend := by
  unfold DiskS.kept
  rw [order_all]
  apply List.ext_getElem
  · simp
  · intro i h1 h2
    simp [h2]
theorem lastTorn_neg (l : List (Nat × List UInt8)) {torn : Int} (h : torn < 0) : lastTorn torn l = l := by
  unfold lastTorn
  apply List.ext_getElem
  · simp
  · intro i h1 h2
    rw [List.getElem_mapIdx, if_neg (fun hh => by omega)]
theorem crash_all (D : DiskS) : D.crash ((List.range D.pend.length).map fun i : Nat => (i : Int)) (-1) = { D.settled (puts D.sure D.pend) with off := false, left := 0 } := by
  unfold DiskS.crash
  rw [kept_all, lastTorn_neg _ (by omega)]
/-- What is visible is what the pending writes make of what is durable. -/
def Shown (D : DiskS) : Prop := D.vis = puts D.sure D.pend
theorem shown_write {D : DiskS} (h : Shown D) (off : Nat) (s : List UInt8) : Shown { D with pend := D.pend ++ [(off, s)], vis := put D.vis off s } := by
  unfold Shown at h ⊢
  simp only [puts, List.foldl_append, List.foldl_cons, List.foldl_nil]
  rw [h]
  rfl
theorem shown_sync (D : DiskS) : Shown (D.settled D.vis) := rfl

theorem ints_own {w : World} {base j c : Nat} {A : Option Addr} {zs : List Int} (h : w.ownsRow base 3 1 (.slice A j c) j (zs.map (Value.int .i64))) (hz : zs.length = j) : Ints w.heap.size w (.slice A j c) zs := by
  subst hz
  rcases h.2 with ⟨hv, h0⟩ | ⟨g, cap, cur, hv, _, hg, h1, h2, h3, h4⟩
  · exact .inl ⟨A, c, by rw [h0], List.eq_nil_of_length_eq_zero h0⟩
  · obtain ⟨rfl, rfl⟩ : A = some ⟨g, 0, none⟩ ∧ c = cap := by simpa using hv
    refine .inr ⟨g, 0, c, rfl, (Array.getElem?_eq_some_iff.1 hg).1, fun k hk => ?_⟩
    have := World.ownsRow.cells h (g := g) rfl k (.int .i64 (zs[k]?.getD 0)) (by simp [hk])
    have e : (⟨g, 0, none⟩ : Addr).add k = ⟨g, k, none⟩ := by unfold Addr.add; split <;> simp_all
    rw [e] at this
    rw [Nat.zero_add]
    exact this
theorem upto_int_succ (k : Nat) : ((List.range (k + 1)).map fun i : Nat => (i : Int)) = ((List.range k).map fun i : Nat => (i : Int)) ++ [(k : Int)] := by
  rw [List.range_succ, List.map_append]
  rfl

theorem diskAllSurvive_walk (a0 : Int) (a1 : Option Addr) (len1 cap1 : Nat) (z1 : List WriteP) (w : World) (w0 : (Lit.int .i64 a0).wf = true) (w1 : WritesArg w a1 len1 cap1 z1) :
    Calls Try.prog 9 #[.int .i64 a0, .slice a1 len1 cap1] w fun e w' => e = .returned (.bool true) ∧ Below w.heap.size w w' := by
  have hl : len1 ≤ 9223372036854775807 := by have := w1.2.1; have := w1.2.2.1; unfold maxLen at this; omega
  obtain ⟨n, hn, hn1, hn2⟩ := size_of_pick a0 300 (by omega) (by omega)
  have HN := hide hn
  have HL := hide hl
  have W0 := hide w0
  have W1 := hide w1
  clear hn hl w0 w1
  go_enter Try.func9, Try.ntmps9
  go_wp2_with fail
  refine (sane_any w).mono ?_
  rintro e w1 ⟨rfl, b1⟩
  have B1 := hide b1
  clear b1
  go_wp2_with fail
  refine (pick_any a0 300 w1 W0.out (by omega) (by omega)).mono ?_
  rintro e w' ⟨rfl, rfl⟩
  have hpk := pickN_lt a0 (n := 300) (by omega)
  obtain ⟨q1, q2⟩ := hpk
  go_wp2_with fail
  rw [show 1 + pickN a0 300 = (n : Int) from HN.out]
  clear q1 q2
  refine (new_in n w.heap.size w w1 B1.out B1.out.size [] (by simp) hn1 hn2).mono ?_
  rintro e w2 ⟨g, rfl, d2, _, _⟩
  have H3 := hide d2
  clear d2
  go_wp2_with fail
  go_loopw [8] (fun i wr => ∃ (k : Nat) (D : DiskS), k ≤ len1 ∧ k ≤ 60 ∧ i = .int .i64 k ∧ DiskIn w.heap.size [] w wr g D ∧ Calm n k D ∧ Shown D)
    (fun i _ => 60 - (intOf i).toNat)
  case atStart => exact ⟨0, DiskS.fresh n, Nat.zero_le _, by omega, rfl, H3.out, calm_fresh n, rfl⟩
  case round =>
    obtain ⟨k, D, hk, hk6, rfl, hd, hcm, hsh⟩ := hrel
    have HD := hide hd
    have HC := hide hcm
    have HS := hide hsh
    clear hd hcm hsh
    have HLo := HL.out
    by_cases hlt : k < len1
    · by_cases h60 : k < 60
      · skip
        obtain ⟨b, off, x, rfl, hbW, hxi, hx0, hx1, c0, c1, c2⟩ := W1.out.at_ HD.out.below hlt
        obtain ⟨x0, x1, x2⟩ := x
        have HX0 := hide hx0
        have HX1 := hide hx1
        have HXI := hide hxi
        have ltb := World.block_lt_of_cell? _ _ c0
        clear hxi hx0 hx1
        simp only at c0 c1 c2
        go_wp2_with fail
        refine (fits_any n (x0, x1, x2) _ HX0.out HX1.out hn2).mono ?_
        rintro e w4 ⟨rfl, u4⟩
        have H4 := hide (HD.out.step u4 (by simp) (by simp))
        have hfo := fitS_le n (x0, x1, x2)
        have HF := hide hfo
        clear u4 hfo
        obtain ⟨fo, Efo⟩ : ∃ fo, Hid (fitOff n (x0, x1, x2) = fo) := ⟨_, rfl⟩
        obtain ⟨fs, Efs⟩ : ∃ fs, Hid (fitS n (x0, x1, x2) = fs) := ⟨_, rfl⟩
        rw [Efo.out, Efs.out] at HF ⊢
        have HV := hide (show D.vis.length = n by rw [HD.out.ok.len, HC.out.size])
        have H5 := hide (H4.out.more ((Upd.refl [] w4).alloc (.cells #[.int .i64 (fo : Int), .string ⟨fs.toArray⟩, .bool x2] 53)) w4.heap.size (Nat.le_refl _) (by simp))
        have L5 := hide (Blk.new w4 53 [.int .i64 (fo : Int), .string ⟨fs.toArray⟩, .bool x2])
        have C1 := write_in (fo : Int) ⟨fs.toArray⟩ H5.out (by have := HC.out.pend; omega)
        rw [show (⟨fs.toArray⟩ : ByteArray).data.toList = fs from rfl, write_calm HC.out HF.out] at C1
        have WI := hide C1
        clear C1
        go_wp2_with fail
        refine WI.out.mono ?_
        rintro e w7 ⟨rfl, d7, s7⟩
        have H7 := hide d7
        clear d7 WI
        have C7 := hide (calm_write HC.out fo fs)
        have S7 := hide (shown_write HS.out fo fs)
        have j3 := (s7.blk (by simp) L5.out).cell 2
        clear s7
        cases x2 with
        | false =>
          go_wp2_with fail
          go_roundw
          case rel => exact ⟨k + 1, _, by omega, by omega, by go_num, H7.out.mono (by simp), C7.out, S7.out⟩
          case measure => simp [intOf] <;> omega
        | true =>
          have C1 := sync_in H7.out
          rw [sync_calm C7.out] at C1
          have SI := hide C1
          clear C1
          go_wp2_with fail
          refine SI.out.mono ?_
          rintro e w8 ⟨rfl, d8, s8⟩
          have H8 := hide d8
          have C8 := hide (calm_sync C7.out H7.out.ok)
          clear d8 s8 SI
          go_wp2_with fail
          go_roundw
          case rel => exact ⟨k + 1, _, by omega, by omega, by go_num, H8.out.mono (by simp), C8.out, shown_sync _⟩
          case measure => simp [intOf] <;> omega
      · obtain rfl : k = 60 := by omega
        obtain ⟨wo, rfl⟩ : ∃ wo : World, wo = wr := ⟨_, rfl⟩
        go_wp2_with fail
        have C1 := read_in 0 (n : Int) HD.out
        rw [read_calm_to HC.out HD.out.ok (v := D.vis) rfl] at C1
        refine C1.mono ?_
        clear C1
        rintro e w' ⟨rfl, rfl⟩
        go_wp2_with fail
        obtain ⟨m, Em⟩ : ∃ m, Hid (D.pend.length = m) := ⟨_, rfl⟩
        have hm60 : m ≤ 60 := by have := Em.out; have := HC.out.pend; omega
        go_loopw [12, 13] (fun v i wr => ∃ (j : Nat) (A : Option Addr) (c : Nat), j ≤ m ∧ i = .int .i64 j ∧ v = .slice A j c ∧ DiskIn w.heap.size (A.map (·.block)).toList w wr g D ∧ wr.ownsRow w.heap.size 3 1 (.slice A j c) j (((List.range j).map fun i : Nat => (i : Int)).map (Value.int .i64)))
          (fun _ i _ => m - (intOf i).toNat)
        case atStart => exact ⟨0, none, 0, Nat.zero_le _, rfl, rfl, HD.out, World.ownsRow_nil _ _ _ _⟩
        case round =>
          obtain ⟨j, A, c, hj, rfl, rfl, hd2, hrow⟩ := hrel
          have HQ := hide hd2
          have HR := hide hrow
          clear hd2 hrow
          have PD0 : Calls Try.prog 17 #[.pointer (some ⟨g, 0, none⟩)] wr fun e w' => e = .returned (.int .i64 (m : Int)) ∧ wr = w' := by rw [← Em.out]; exact pending_in HQ.out
          have PD := hide PD0
          clear PD0
          by_cases hjm : j < m
          · have O1 := hide (show ∀ u ∈ [Value.int .i64 (j : Int)], u.oneCell' = true by simp [Value.oneCell'])
            have O3 := hide (show j + 1 ≤ maxLen by unfold maxLen; omega)
            have O4 := hide (show (j + 1) * 8 ≤ 140737488355328 by omega)
            have OB := hide (HR.out.alloc (.cells #[.int .i64 (j : Int)] 3))
            go_wp2_with (first
              | (go_at_call 17; refine PD.out.mono ?_; rintro e w' ⟨rfl, rfl⟩)
              | (at_builtin; refine wpList_append_base rfl (.tmp 75) (.tmp 77) _ rfl w.heap.size 3 _ 1 8 Try.underlying37 info_int rfl (by decide) A j c _ rfl OB.out ⟨wr.heap.size, 0, none⟩ 1 1 [.int .i64 (j : Int)] rfl rfl (cell_one_new _ _ _) O1.out O3.out O4.out (by have := HQ.out.room; simp; omega) ?_; intro A' c' w5 h5 u5 a5; have H5 := hide h5; have U5 := hide u5; have A5 := hide a5; clear h5 u5 a5))
            go_roundw
            case rel => exact ⟨j + 1, A', c', by omega, by go_num, rfl, HQ.out.append [] HR.out U5.out A5.out H5.out, by rw [upto_int_succ, List.map_append]; exact H5.out⟩
            case measure => simp [intOf] <;> omega
          · obtain rfl : j = m := by omega
            go_wp2_with (go_at_call 17; refine PD.out.mono ?_; rintro e w' ⟨rfl, rfl⟩)
            have C1 := crash_in (.slice A j c) ((List.range j).map fun i : Nat => (i : Int)) (-1) HQ.out (by have := Em.out; omega) (by simp; omega) (ints_own HR.out (by simp))
            rw [← Em.out, crash_all] at C1
            have CI := hide C1
            clear C1
            rw [← Em.out]
            refine CI.out.mono ?_
            rintro e w5 ⟨rfl, d5, _⟩
            have C5 := hide (show Calm n 0 { D.settled (puts D.sure D.pend) with off := false, left := 0 } from ⟨rfl, rfl, by
              have h1 := HC.out.size
              have h2 := HD.out.ok.len
              have h3 : D.vis = puts D.sure D.pend := HS.out
              show (puts D.sure D.pend).length = n
              rw [← h3, h2, h1], Nat.le_refl _⟩)
            have H5 := hide (d5.mono (X' := []) (by simp))
            clear d5 CI
            go_wp2_with fail
            have C1 := read_in 0 (n : Int) H5.out
            rw [read_calm_to C5.out H5.out.ok (v := D.vis) HS.out.symm] at C1
            refine C1.mono ?_
            clear C1
            rintro e w' ⟨rfl, rfl⟩
            go_wp2_with fail
            have C1 := crash_in (.slice none 0 0) [] 0 H5.out (by show 0 ≤ _; omega) (by decide) (.inl ⟨none, 0, rfl, rfl⟩)
            rw [crash_none] at C1
            refine C1.mono ?_
            clear C1
            rintro e w6 ⟨rfl, d6, _⟩
            have C6 := hide (show Calm n 0 { ({ D.settled (puts D.sure D.pend) with off := false, left := 0 } : DiskS).settled ({ D.settled (puts D.sure D.pend) with off := false, left := 0 } : DiskS).sure with off := false, left := 0 } from ⟨rfl, rfl, C5.out.size, Nat.le_refl _⟩)
            have H6 := hide d6
            clear d6
            go_wp2_with fail
            have C1 := read_in 0 (n : Int) H6.out
            rw [read_calm_to C6.out H6.out.ok (v := D.vis) HS.out.symm] at C1
            refine C1.mono ?_
            clear C1
            rintro e w' ⟨rfl, rfl⟩
            go_wp2_with fail
            go_ret
            exact ⟨rfl, H6.out.below⟩
    · obtain rfl : k = len1 := by omega
      obtain ⟨wo, rfl⟩ : ∃ wo : World, wo = wr := ⟨_, rfl⟩
      go_wp2_with fail
      have C1 := read_in 0 (n : Int) HD.out
      rw [read_calm_to HC.out HD.out.ok (v := D.vis) rfl] at C1
      refine C1.mono ?_
      clear C1
      rintro e w' ⟨rfl, rfl⟩
      go_wp2_with fail
      obtain ⟨m, Em⟩ : ∃ m, Hid (D.pend.length = m) := ⟨_, rfl⟩
      have hm60 : m ≤ 60 := by have := Em.out; have := HC.out.pend; omega
      go_loopw [12, 13] (fun v i wr => ∃ (j : Nat) (A : Option Addr) (c : Nat), j ≤ m ∧ i = .int .i64 j ∧ v = .slice A j c ∧ DiskIn w.heap.size (A.map (·.block)).toList w wr g D ∧ wr.ownsRow w.heap.size 3 1 (.slice A j c) j (((List.range j).map fun i : Nat => (i : Int)).map (Value.int .i64)))
        (fun _ i _ => m - (intOf i).toNat)
      case atStart => exact ⟨0, none, 0, Nat.zero_le _, rfl, rfl, HD.out, World.ownsRow_nil _ _ _ _⟩
      case round =>
        obtain ⟨j, A, c, hj, rfl, rfl, hd2, hrow⟩ := hrel
        have HQ := hide hd2
        have HR := hide hrow
        clear hd2 hrow
        have PD0 : Calls Try.prog 17 #[.pointer (some ⟨g, 0, none⟩)] wr fun e w' => e = .returned (.int .i64 (m : Int)) ∧ wr = w' := by rw [← Em.out]; exact pending_in HQ.out
        have PD := hide PD0
        clear PD0
        by_cases hjm : j < m
        · have O1 := hide (show ∀ u ∈ [Value.int .i64 (j : Int)], u.oneCell' = true by simp [Value.oneCell'])
          have O3 := hide (show j + 1 ≤ maxLen by unfold maxLen; omega)
          have O4 := hide (show (j + 1) * 8 ≤ 140737488355328 by omega)
          have OB := hide (HR.out.alloc (.cells #[.int .i64 (j : Int)] 3))
          go_wp2_with (first
            | (go_at_call 17; refine PD.out.mono ?_; rintro e w' ⟨rfl, rfl⟩)
            | (at_builtin; refine wpList_append_base rfl (.tmp 75) (.tmp 77) _ rfl w.heap.size 3 _ 1 8 Try.underlying37 info_int rfl (by decide) A j c _ rfl OB.out ⟨wr.heap.size, 0, none⟩ 1 1 [.int .i64 (j : Int)] rfl rfl (cell_one_new _ _ _) O1.out O3.out O4.out (by have := HQ.out.room; simp; omega) ?_; intro A' c' w5 h5 u5 a5; have H5 := hide h5; have U5 := hide u5; have A5 := hide a5; clear h5 u5 a5))
          go_roundw
          case rel => exact ⟨j + 1, A', c', by omega, by go_num, rfl, HQ.out.append [] HR.out U5.out A5.out H5.out, by rw [upto_int_succ, List.map_append]; exact H5.out⟩
          case measure => simp [intOf] <;> omega
        · obtain rfl : j = m := by omega
          go_wp2_with (go_at_call 17; refine PD.out.mono ?_; rintro e w' ⟨rfl, rfl⟩)
          have C1 := crash_in (.slice A j c) ((List.range j).map fun i : Nat => (i : Int)) (-1) HQ.out (by have := Em.out; omega) (by simp; omega) (ints_own HR.out (by simp))
          rw [← Em.out, crash_all] at C1
          have CI := hide C1
          clear C1
          rw [← Em.out]
          refine CI.out.mono ?_
          rintro e w5 ⟨rfl, d5, _⟩
          have C5 := hide (show Calm n 0 { D.settled (puts D.sure D.pend) with off := false, left := 0 } from ⟨rfl, rfl, by
            have h1 := HC.out.size
            have h2 := HD.out.ok.len
            have h3 : D.vis = puts D.sure D.pend := HS.out
            show (puts D.sure D.pend).length = n
            rw [← h3, h2, h1], Nat.le_refl _⟩)
          have H5 := hide (d5.mono (X' := []) (by simp))
          clear d5 CI
          go_wp2_with fail
          have C1 := read_in 0 (n : Int) H5.out
          rw [read_calm_to C5.out H5.out.ok (v := D.vis) HS.out.symm] at C1
          refine C1.mono ?_
          clear C1
          rintro e w' ⟨rfl, rfl⟩
          go_wp2_with fail
          have C1 := crash_in (.slice none 0 0) [] 0 H5.out (by show 0 ≤ _; omega) (by decide) (.inl ⟨none, 0, rfl, rfl⟩)
          rw [crash_none] at C1
          refine C1.mono ?_
          clear C1
          rintro e w6 ⟨rfl, d6, _⟩
          have C6 := hide (show Calm n 0 { ({ D.settled (puts D.sure D.pend) with off := false, left := 0 } : DiskS).settled ({ D.settled (puts D.sure D.pend) with off := false, left := 0 } : DiskS).sure with off := false, left := 0 } from ⟨rfl, rfl, C5.out.size, Nat.le_refl _⟩)
          have H6 := hide d6
          clear d6
          go_wp2_with fail
          have C1 := read_in 0 (n : Int) H6.out
          rw [read_calm_to C6.out H6.out.ok (v := D.vis) HS.out.symm] at C1
          refine C1.mono ?_
          clear C1
          rintro e w' ⟨rfl, rfl⟩
          go_wp2_with fail
          go_ret
          exact ⟨rfl, H6.out.below⟩
end Go.Proofs.Ythjcgaahnpbcdaa
