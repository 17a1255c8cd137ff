/-
  slices.Chunk on a row of bytes that holds a whole number of blocks.
-/
import Derived.Test.YtafjolibfbccbaaGreatDoorHRow
namespace Go.Proofs.YtafjolibfbccbaaGreatDoor
open Go.RowKit Go.Shelf
set_option maxRecDepth 100000
attribute [local go_sem] Oper.semAt_some

theorem boxed_upd {w w' : World} {b t : Nat} {v : Value} {l : List Nat} (h : Boxed w b t v) (hu : Upd l w w') (hn : b ∉ l := by simp) : Boxed w' b t v := (hu.block b h.lt hn).trans h
set_option maxHeartbeats 4000000 in
theorem chunk1_in (n : Nat) (hn : 2 ≤ n) (l g cap m b1 b2 B : Nat) (hm : 64 * m ≤ 1000000000000) (hcap : 64 * m ≤ cap) (hcm : cap ≤ maxLen) (out : List Nat) (J : List Nat → World → Prop)
    (hJ : ∀ pre A C, J pre A → Upd [] A C → J pre C)
    (hY : ∀ pre x W, J pre W → x < m → pre.length < m → YieldAt Fence.wide (n - 1) Tryz.prog l #[.slice (some ⟨g, 64 * x, none⟩) 64 64] W fun e W' => e = .returned (.bool true) ∧ J (pre ++ [x]) W' ∧ KeepX B out W W')
    (W : World) (h1 : Boxed W b1 39 (.slice (some ⟨g, 0, none⟩) (64 * m) cap)) (h2 : Boxed W b2 3 (.int .i64 64)) (hb1 : b1 < B) (hb2 : b2 < B) (ho1 : b1 ∉ out) (ho2 : b2 ∉ out) (hB : B ≤ W.heap.size) (h0 : J [] W) :
    CallsIn Fence.wide n Tryz.prog 143 #[.func (.yield l) #[] #[], .pointer (some ⟨b1, 0, none⟩), .pointer (some ⟨b2, 0, none⟩)] W fun e W' => (∃ v, e = .returned v) ∧ ∃ ys, ys = List.range m ∧ J ys W' := by
  refine callsIn_of_wp Tryz.func143 rfl trivial ?_ rfl
  simp only [Tryz.ntmps143, List.size_toArray, List.length_cons, List.length_nil, Nat.reduceAdd, Nat.reduceSub, Array.replicate_succ, Array.replicate_zero, List.push_toArray, List.append_toArray, List.nil_append, List.cons_append]
  have HY := hide hY
  have HJ := hide hJ
  have HM := hide hm
  have HCAP := hide hcap
  have HCM := hide hcm
  have hn1 : 1 ≤ n := by omega
  obtain ⟨N, hN⟩ : ∃ N, 64 * m = N := ⟨_, rfl⟩
  rw [hN] at h1 HM HCAP
  have HN := hide hN
  clear hY hJ hm hcap hcm hN
  gi_wp2
  gi_loopw [4] (fun s4 wr => ∃ k q : Nat, Hid (64 * k = q) ∧ k ≤ m ∧ s4 = .int .i64 q ∧ Hid (J (List.range k) wr) ∧ Hid (Boxed wr b1 39 (.slice (some ⟨g, 0, none⟩) N cap)) ∧ Hid (Boxed wr b2 3 (.int .i64 64)) ∧ Hid (B ≤ wr.heap.size)) (fun s _ => 64 * m - (intOf s).toNat)
  case atStart => exact ⟨0, 0, rfl, Nat.zero_le _, rfl, hide h0, hide h1, hide h2, hide hB⟩
  case round =>
    obtain ⟨k, q, hq, hk, rfl, hj, hB1, hB2, hBB⟩ := hrel
    have c1 := hB1.out.cell
    have c2 := hB2.out.cell
    have HK := hide hk
    have HQ := hide (show 64 * m = N from HN.out)
    by_cases hkm : k < m
    case neg =>
      obtain rfl : k = m := by omega
      have hqN : ¬ (q : Int) < (N : Int) := by have := hq.out; have := HN.out; omega
      clear hk
      gi_wp2
      go_end0
      exact ⟨⟨_, rfl⟩, hj.out⟩
    have hqN : (q : Int) < (N : Int) := by have := hq.out; have := HN.out; omega
    have hqN' : q < N := by have := hq.out; have := HN.out; omega
    have hle : (q : Int) + 64 ≤ (N : Int) := by have := hq.out; have := HN.out; omega
    have hNc : (N : Int) ≤ (cap : Int) := by have := HCAP.out; omega
    have hNc' : N ≤ cap := HCAP.out
    have hcq : ¬ cap = q := by have := HCAP.out; omega
    have hcm : cap ≤ 9223372036854775807 := by have := HCM.out; unfold maxLen at this; omega
    have hmin : min 64 ((N - q : Nat) : Int) = 64 := by omega
    have hw64 : IntKind.i64.wrap ((q : Int) + 64) = (q : Int) + 64 := Go.IntWalk.i64_in _ (by omega)
    gi_wp2
    gi_region
    obtain ⟨wd, hwd⟩ : ∃ x, wr.drew = x := ⟨_, rfl⟩
    have u : Upd [] wr wd := by rw [← hwd]; exact (Upd.refl [] _).drew
    rw [hwd]
    clear hwd hmin
    have hJd := HJ.out _ _ _ hj.out u
    have hB1d := hide (show Boxed wd b1 _ _ from boxed_upd hB1.out u)
    have hB2d := hide (show Boxed wd b2 _ _ from boxed_upd hB2.out u)
    have hBd := hide (Nat.le_trans hBB.out u.size)
    obtain ⟨fn, tmps, assign, body, hy, hR⟩ := HY.out (List.range k) k wd hJd hkm (by simpa using hkm)
    have HR := hide hR
    rw [hq.out] at hy
    replace c1 := hB1d.out.cell
    replace c2 := hB2d.out.cell
    have hw1 : (q : Int) + 64 ≤ (cap : Int) := by omega
    have hcq2 : ¬ q = q + 64 := by omega
    clear hR u hJd hj hB1 hB2 hBB
    gi_wp2
    refine HR.out.mono ?_
    rintro e W3 ⟨rfl, hJ3, hk3⟩
    have HJ3 := hide hJ3
    have hB13 := hide (show Boxed W3 b1 _ _ from (hk3.2 b1 hb1 ho1).trans hB1d.out)
    have hB23 := hide (show Boxed W3 b2 _ _ from (hk3.2 b2 hb2 ho2).trans hB2d.out)
    have hB3 := hide (Nat.le_trans hBd.out hk3.1)
    replace c1 := hB13.out.cell
    replace c2 := hB23.out.cell
    clear hJ3 hk3
    gi_wp2
    go_roundw
    case rel => exact ⟨k + 1, q + 64, hide (by have := hq.out; omega), by omega, by go_num, hide (by rw [List.range_succ]; exact HJ3.out), hB13, hB23, hB3⟩
    case measure => have := hq.out; simp [intOf] <;> omega
theorem chunk_told (n : Nat) (hn : 2 ≤ n) (g cap m b1 b2 B : Nat) (hm : 64 * m ≤ 1000000000000) (hcap : 64 * m ≤ cap) (hcm : cap ≤ maxLen) (out : List Nat) (w : World)
    (h1 : Boxed w b1 39 (.slice (some ⟨g, 0, none⟩) (64 * m) cap)) (h2 : Boxed w b2 3 (.int .i64 64)) (hb1 : b1 < B) (hb2 : b2 < B) (ho1 : b1 ∉ out) (ho2 : b2 ∉ out) (hB : B ≤ w.heap.size) :
    SeqTold Fence.wide n Tryz.prog 143 #[.pointer (some ⟨b1, 0, none⟩), .pointer (some ⟨b2, 0, none⟩)] (fun x : Nat => #[.slice (some ⟨g, 64 * x, none⟩) 64 64]) (fun x _ => x < m) [] (KeepX B out) (fun ys => ys = List.range m) m w := fun l J W hW hJ hY h0 =>
  chunk1_in n hn l g cap m b1 b2 B hm hcap hcm out J hJ hY W ((hW.block b1 h1.lt).trans h1) ((hW.block b2 h2.lt).trans h2) hb1 hb2 ho1 ho2 (Nat.le_trans hB hW.size) h0
theorem chunk_any (a : Option Addr) (k cap : Nat) (w : World) :
    Calls Tryz.prog 128 #[.slice a k cap, .int .i64 64] w fun e w' => e = .returned (.func (.func 143) #[] #[.pointer (some ⟨w.heap.size, 0, none⟩), .pointer (some ⟨w.heap.size + 1, 0, none⟩)]) ∧
      (w.alloc (.cells #[.slice a k cap] 39)).alloc (.cells #[.int .i64 64] 3) = w' := by
  have hmf : ∀ (fn : Fn) (first cap : Array Value) (w : World), (Instr.makeFunc fn first cap).run Tryz.prog w = .ok (.func fn first cap) w := fun _ _ _ _ => rfl
  go_enter Tryz.func128, Tryz.ntmps128
  go_wp2
  go_ret
  exact ⟨rfl, rfl⟩
end Go.Proofs.YtafjolibfbccbaaGreatDoor
