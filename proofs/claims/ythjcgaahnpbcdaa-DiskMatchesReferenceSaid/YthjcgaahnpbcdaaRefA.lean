/-
  The reference's small functions.
-/
import Derived.Test.YthjcgaahnpbcdaaThree
import Derived.Test.YthjcgaahnpbcdaaLawFits
namespace Go.Proofs.Ythjcgaahnpbcdaa
open Go.RowKit
set_option maxHeartbeats 1000000

/-- has -/
theorem has_any (a : Option Addr) (n c : Nat) (zs : List Int) (x : Int) (w : World) (hz : zs.length = n) (hm : n ≤ 1000000000) (hI : ∀ j v, zs[j]? = some v → ∃ b o, a = some ⟨b, o, none⟩ ∧ w.cell? ⟨b, o + j, none⟩ = some (.int .i64 v)) :
    Calls Try.prog 43 #[.slice a n c, .int .i64 x] w fun e w' => e = .returned (.bool (decide (x ∈ zs))) ∧ w = w' := by
  have HI := hide hI
  have HZ := hide hz
  clear hI hz
  go_enter Try.func43, Try.ntmps43
  go_wp2_with fail
  go_loopw [5] (fun i wr => ∃ k : Nat, k ≤ n ∧ i = .int .i64 k ∧ wr = w ∧ Hid (∀ j v, j < k → zs[j]? = some v → v ≠ x))
    (fun i _ => n - (intOf i).toNat)
  case atStart => exact ⟨0, Nat.zero_le _, rfl, rfl, fun j v hj => by omega⟩
  case round =>
    obtain ⟨k, hk, rfl, rfl, hno⟩ := hrel
    by_cases hlt : k < n
    · obtain ⟨v, hv⟩ : ∃ v, zs[k]? = some v := ⟨_, List.getElem?_eq_getElem (by rw [HZ.out]; exact hlt)⟩
      obtain ⟨b, o, rfl, hc⟩ := HI.out k v hv
      have HV := hide hv
      clear hv
      by_cases hx : v = x
      · have HX := hide hx
        have e : decide (x ∈ zs) = true := decide_eq_true (by rw [← HX.out]; exact List.mem_of_getElem? HV.out)
        have HE := hide e
        rw [HX.out] at hc
        clear hx e
        go_wp2_with fail
        go_ret
        exact ⟨by rw [HE.out]; rfl, rfl⟩
      · have HX := hide hx
        go_wp2_with fail
        go_roundw
        case rel => exact ⟨k + 1, by omega, by go_num, by first | rfl | trivial, fun j u hj hu => by
          rcases Nat.lt_or_ge j k with h | h
          · exact hno.out j u h hu
          · obtain rfl : j = k := by omega
            have := HV.out
            rw [hu] at this
            obtain rfl : u = v := by simpa using this
            exact HX.out⟩
        case measure => simp [intOf] <;> omega
    · obtain rfl : k = n := by omega
      have e : decide (x ∈ zs) = false := decide_eq_false (fun hm => by
        obtain ⟨j, hj⟩ := List.getElem?_of_mem hm
        have hjl := (List.getElem?_eq_some_iff.1 hj).1
        exact hno.out j x (by have := HZ.out; omega) hj rfl)
      have HE := hide e
      clear e
      go_wp2_with fail
      go_ret
      exact ⟨by rw [HE.out]; rfl, rfl⟩

/-- A row of the call's own, opened; and back. -/
theorem own_open {w : World} {base e n c : Nat} {A : Option Addr} {xs : List Value} (h : w.ownsRow base e 1 (.slice A n c) n xs) (hn : 0 < n) : ∃ g r, A = some ⟨g, 0, none⟩ ∧ base ≤ g ∧ Blk w g e (xs ++ r) ∧ xs.length = n ∧ n + r.length = c ∧ c ≤ maxLen := by
  rcases h.2 with ⟨hv, h0⟩ | ⟨g, cap, cur, hv, hb, hg, h1, h2, h3, h4⟩
  · omega
  · obtain ⟨rfl, rfl⟩ : A = some ⟨g, 0, none⟩ ∧ c = cap := by simpa using hv
    have hl := h.1
    rw [Nat.mul_one] at h4 hl
    refine ⟨g, cur.toList.drop n, rfl, hb, ?_, hl, ?_, h2⟩
    · show w.heap[g]? = _
      rw [hg, ← h4, List.take_append_drop]
    · simp
      omega
theorem own_close {w : World} {base e n c g : Nat} {xs r : List Value} (hb : base ≤ g) (hg : Blk w g e (xs ++ r)) (hl : xs.length = n) (hr : n + r.length = c) (hc : c ≤ maxLen) : w.ownsRow base e 1 (.slice (some ⟨g, 0, none⟩) n c) n xs :=
  ⟨by omega, .inr ⟨g, c, (xs ++ r).toArray, rfl, hb, hg, by omega, hc, by simp; omega, by subst hl; simp⟩⟩

/-- apply -/
theorem apply_any {g off n c : Nat} (s : ByteArray) (b : List UInt8) (r : List Value) (w : World) (hb : Blk w g 5 (bCells b ++ r)) (hn : b.length = n) (hf : off + s.size ≤ n) (hx : n ≤ 4194304) :
    Calls Try.prog 44 #[.slice (some ⟨g, 0, none⟩) n c, .int .i64 (off : Int), .string s] w fun e w' => e = .returned (.tuple #[]) ∧ Blk w' g 5 (bCells (put b off s.data.toList) ++ r) ∧ Upd [g] w w' := by
  have Hb := hide hb
  have Hn := hide hn
  have hsl : s.data.toList.length = s.size := by rw [← Lib.size_eq]
  have Hsl := hide hsl
  clear hb hn hsl
  go_enter Try.func44, Try.ntmps44
  go_wp2_with fail
  go_loopw [6] (fun i wr => ∃ k : Nat, k ≤ s.size ∧ i = .int .i64 k ∧ Upd [g] w wr ∧ Blk wr g 5 (bCells (put b off (s.data.toList.take k)) ++ r))
    (fun i _ => s.size - (intOf i).toNat)
  case atStart => exact ⟨0, Nat.zero_le _, rfl, Upd.refl _ _, by
    have := Hb.out
    have e : put b off (s.data.toList.take 0) = b := by simp [put]
    rw [e]; exact this⟩
  case round =>
    obtain ⟨k, hk, rfl, uk, bk⟩ := hrel
    have UK := hide uk
    have BK := hide bk
    clear uk bk
    by_cases hlt : k < s.size
    · have hl : (put b off (s.data.toList.take k)).length = n := by
        rw [put_length _ _ _ (by rw [Hn.out]; have := List.length_take_le k s.data.toList; have := Hsl.out; simp; omega), Hn.out]
      obtain ⟨u, hu⟩ : ∃ u, wr.cell? ⟨g, off + k, none⟩ = some u := by
        rw [BK.out.cell, List.getElem?_eq_getElem (by simp [bCells]; omega)]
        exact ⟨_, rfl⟩
      have HLn := hide hl
      clear hl
      have hfr : wr.frozen? ⟨g, off + k, none⟩ = false := BK.out.frozen _
      go_wp2_with fail
      go_roundw
      case rel =>
        refine ⟨k + 1, by omega, by go_num, UK.out.setCell (.inl (by simp)) _, ?_⟩
        have h := BK.out.set_ (off + k) (.int .u8 (s[k].toNat : Int))
        have e : (bCells (put b off (s.data.toList.take k)) ++ r).set (off + k) (.int .u8 (s[k].toNat : Int)) = bCells (put b off (s.data.toList.take (k + 1))) ++ r := by
          rw [List.set_append_left _ _ (by rw [bCells_length, HLn.out]; omega), ← put_step b off k s.data.toList (by rw [Hn.out, Hsl.out]; exact hf) (by rw [Hsl.out]; exact hlt), bCells, bCells, List.map_set]
          rfl
        rw [e] at h
        exact h
      case measure => simp [intOf]; omega
    · obtain rfl : k = s.size := by omega
      go_wp2_with fail
      go_end0
      refine ⟨rfl, ?_, UK.out⟩
      have h := BK.out
      rwa [List.take_of_length_le (by rw [Hsl.out]; exact Nat.le_refl _)] at h
end Go.Proofs.Ythjcgaahnpbcdaa
