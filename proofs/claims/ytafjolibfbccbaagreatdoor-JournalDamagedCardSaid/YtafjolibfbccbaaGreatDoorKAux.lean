/-
  The small functions of a journal: is a record too long, Room, Records.
-/
import Derived.Test.YtafjolibfbccbaaGreatDoorKOpenJ
import Derived.Test.YtafjolibfbccbaaGreatDoorKBld
import Derived.Deep.QuietTactic
import Derived.BigQuiet
namespace Go.Proofs.YtafjolibfbccbaaGreatDoor
open Go.RowKit
set_option maxRecDepth 100000
set_option maxHeartbeats 4000000

/-- A slice of strings. -/
def StrsAt (w : World) (a : Option Addr) (l : List ByteArray) : Prop := ∀ j s, l[j]? = some s → ∃ b o, a = some ⟨b, o, none⟩ ∧ w.cell? ⟨b, o + j, none⟩ = some (.string s)
theorem StrsAt.upd {w w' : World} {a : Option Addr} {l : List ByteArray} {F : List Nat} (h : StrsAt w a l) (hu : Upd F w w') (hn : ∀ k, a.map (·.block) = some k → k ∉ F) : StrsAt w' a l := by
  intro j s hs
  obtain ⟨b, o, rfl, hc⟩ := h j s hs
  exact ⟨b, o, rfl, (hu.cell (p := ⟨b, o + j, none⟩) (World.block_lt_of_cell? _ _ hc) (hn b rfl)).trans hc⟩
theorem isLong_any (s : ByteArray) (n : Nat) (w : World) (hn : s.size = n) (_hb : n ≤ 9223372036854775807) :
    Calls Tryz.prog 34 #[.string s] w fun e w' => e = .returned (.bool (decide ((65536 : Int) < (n : Int)))) ∧ w = w' := by
  go_enter Tryz.func34, Tryz.ntmps34
  go_wp2_with fail
  go_ret
  exact ⟨rfl, rfl⟩
def longIdx (l : List ByteArray) : Int := match l.findIdx? (fun s => decide (65536 < s.size)) with | some k => (k : Int) | none => -1
def anyLong (l : List ByteArray) : Bool := l.any (fun s => decide (65536 < s.size))
theorem longIdx_any (l : List ByteArray) : decide (0 ≤ longIdx l) = anyLong l := by
  unfold longIdx anyLong
  cases h : l.findIdx? (fun s => decide (65536 < s.size)) with
  | none =>
    have := List.findIdx?_eq_none_iff.1 h
    simp
    intro x hx
    have := this x hx
    simpa using this
  | some k =>
    have h1 := List.findIdx?_eq_some_iff_getElem.1 h
    obtain ⟨h2, h3, _⟩ := h1
    symm
    simp
    exact ⟨_, List.getElem_mem h2, by simpa using h3⟩
theorem index_long (a : Option Addr) (n c : Nat) (l : List ByteArray) (w : World) (hl : l.length = n) (hn : n ≤ 1000000000000) (hS : StrsAt w a l) (hb : ∀ s ∈ l, s.size ≤ 1000000000000) :
    Calls Tryz.prog 68 #[.slice a n c, .func (.func 34) #[] #[]] w fun e w' => e = .returned (.int .i64 (longIdx l)) ∧ w = w' := by
  have HS := hide hS
  have HL := hide hl
  have HB := hide hb
  clear hS hl hb
  go_enter Tryz.func68, Tryz.ntmps68
  go_wp2_with fail
  go_loop [8] (fun s8 => ∃ k : Nat, k ≤ n ∧ s8 = .int .i64 k ∧ Hid (∀ j s, j < k → l[j]? = some s → ¬ 65536 < s.size)) (fun s => n - (intOf s).toNat)
  case atStart => exact ⟨0, Nat.zero_le _, rfl, hide (fun j s hj => by omega)⟩
  case round =>
    obtain ⟨k, hk, rfl, hN⟩ := hrel
    by_cases hkn : k < n
    case neg =>
      obtain rfl : k = n := by omega
      have hki : ¬ (k : Int) < k := by omega
      have HE := hide (show longIdx l = -1 by
        unfold longIdx
        rw [List.findIdx?_eq_none_iff.2 (fun x hx => by
          obtain ⟨j, hj⟩ := List.getElem?_of_mem hx
          have := hN.out j x (by have := (List.getElem?_eq_some_iff.1 hj).1; have := HL.out; omega) hj
          simpa using this)])
      go_wp2_with fail
      go_ret
      exact ⟨by rw [HE.out]; rfl, rfl⟩
    have hki : (k : Int) < n := by omega
    have hkw : IntKind.i64.wrap ((k : Int) + 1) = (k : Int) + 1 := Go.IntWalk.i64_in _ (by omega)
    obtain ⟨s, hs⟩ : ∃ s, l[k]? = some s := ⟨_, List.getElem?_eq_getElem (by have := HL.out; omega)⟩
    obtain ⟨b, o, rfl, hc⟩ := HS.out k s hs
    obtain ⟨m, hm⟩ : ∃ m, s.size = m := ⟨_, rfl⟩
    have hmb : m ≤ 1000000000000 := by rw [← hm]; exact HB.out s (List.mem_of_getElem? hs)
    have HI := hide (isLong_any s m w hm (by omega))
    have HSS := hide hs
    have HM := hide hm
    clear hs hm
    by_cases hlg : 65536 < m
    · have hd : decide ((65536 : Int) < (m : Int)) = true := decide_eq_true (by omega)
      have HE := hide (show longIdx l = (k : Int) by
        have hf : l.findIdx? (fun s => decide (65536 < s.size)) = some k := List.findIdx?_eq_some_iff_getElem.2 ⟨by have := HL.out; omega, by
          have h1 := (List.getElem?_eq_some_iff.1 HSS.out).2
          rw [h1, HM.out]; simpa using hlg, fun j hj => by
          have h2 : j < l.length := by have := HL.out; omega
          have := hN.out j l[j] hj (List.getElem?_eq_getElem h2)
          simpa using this⟩
        unfold longIdx
        rw [hf])
      rw [hd] at HI
      clear hlg hd
      go_wp2_with fail
      refine HI.out.mono ?_
      rintro e w' ⟨rfl, rfl⟩
      go_wp2_with fail
      go_ret
      exact ⟨by rw [HE.out]; rfl, rfl⟩
    · have hd : decide ((65536 : Int) < (m : Int)) = false := decide_eq_false (by omega)
      have HN2 := hide (show ∀ j s, j < k + 1 → l[j]? = some s → ¬ 65536 < s.size from fun j x hj hx => by
        by_cases hjk : j < k
        · exact hN.out j x hjk hx
        · obtain rfl : j = k := by omega
          rw [HSS.out] at hx
          obtain rfl := Option.some.inj hx
          rw [HM.out]; exact hlg)
      rw [hd] at HI
      clear hlg hd
      go_wp2_with fail
      refine HI.out.mono ?_
      rintro e w' ⟨rfl, rfl⟩
      go_wp2_with fail
      go_round
      case rel => exact ⟨k + 1, by omega, by go_num, HN2⟩
      case measure => simp [intOf] <;> omega
theorem contains_long (a : Option Addr) (n c : Nat) (l : List ByteArray) (w : World) (hl : l.length = n) (hn : n ≤ 1000000000000) (hS : StrsAt w a l) (hb : ∀ s ∈ l, s.size ≤ 1000000000000) :
    Calls Tryz.prog 35 #[.slice a n c, .func (.func 34) #[] #[]] w fun e w' => e = .returned (.bool (anyLong l)) ∧ w = w' := by
  have HI := hide (index_long a n c l w hl hn hS hb)
  have HA := hide (longIdx_any l)
  obtain ⟨i, hi⟩ : ∃ i, longIdx l = i := ⟨_, rfl⟩
  rw [hi] at HI HA
  clear hl hn hS hb hi
  go_enter Tryz.func35, Tryz.ntmps35
  go_wp2_with fail
  refine HI.out.mono ?_
  rintro e w' ⟨rfl, rfl⟩
  go_wp2_with fail
  go_ret
  exact ⟨by rw [← HA.out]; rfl, rfl⟩
theorem room_nil (w : World) : Calls Tryz.prog 20 #[.pointer none] w fun e w' => e = .returned (.int .i64 0) ∧ w = w' := by
  go_enter Tryz.func20, Tryz.ntmps20
  go_wp2_with fail
  go_ret
  exact ⟨rfl, rfl⟩
theorem room_any {F : List Nat} {D : DiskS} (base jb g : Nat) (A : Option Addr) (c : Nat) (T : TapeS) (br : Bool) (w : World) (hJ : IsTapeAt w base jb 74 A c T [.pointer (some ⟨g, 0, none⟩), .bool br]) (hD : IsDisk w F g D) (hs : T.size ≤ D.sure.length) :
    Calls Tryz.prog 20 #[.pointer (some ⟨jb, 0, none⟩)] w fun e w' => e = .returned (.int .i64 ((D.sure.length - T.size : Nat) : Int)) ∧ Upd [] w w' := by
  obtain ⟨gd, gv, DA, dc, hDA⟩ := hD
  have hmax := hDA.ok.max
  obtain ⟨N, hN⟩ : ∃ N, D.sure.length = N := ⟨_, rfl⟩
  obtain ⟨q, hq⟩ : ∃ q, T.size = q := ⟨_, rfl⟩
  have hc2 := hDA.head.cell 2
  rw [hN] at hs hmax hc2 ⊢
  rw [hq] at hs ⊢
  have c3 : w.cell? ⟨jb, 3, none⟩ = some (.pointer (some ⟨g, 0, none⟩)) := (hJ.2.1.cell 3).trans rfl
  have c2 : w.cell? ⟨jb, 2, none⟩ = some (.int .i64 (q : Int)) := by rw [← hq]; exact (hJ.2.1.cell 2).trans rfl
  have hsub : IntKind.i64.wrap ((N : Int) - (q : Int)) = ((N - q : Nat) : Int) := by rw [Go.IntWalk.i64_in _ (by omega)]; omega
  have HSZ := hide (show ∀ W : World, W.cell? ⟨g, 2, none⟩ = some (.slice (some ⟨gd, 0, none⟩) N N) → Calls Tryz.prog 51 #[.pointer (some ⟨g, 0, none⟩)] W _ from fun W h => size_any W h)
  have HC := hide hc2
  clear hDA hJ hN hq hc2 hs
  have C3 := hide c3
  have C2 := hide c2
  clear c3 c2
  go_enter Tryz.func20, Tryz.ntmps20
  go_upto_region 3 with fail
  refine wp_region_held_drew (S := (fun w' => w'.cell? ⟨jb, 3, none⟩ = some (.pointer (some ⟨g, 0, none⟩)) ∧ w'.cell? ⟨jb, 2, none⟩ = some (.int .i64 (q : Int)))) (by kernel_rfl) (by exact ⟨C3.out, C2.out⟩) (fun hHeld => ?_)
  obtain ⟨wd, hwD⟩ : ∃ x, w.drew = x := ⟨_, rfl⟩
  have u : Upd [] w wd := by rw [← hwD]; exact (Upd.refl [] _).drew
  rw [hwD] at hHeld ⊢
  clear hwD
  have HU := hide u
  replace C3 := hide (keepc _ _ _ _ u C3.out)
  replace C2 := hide (keepc _ _ _ _ u C2.out)
  replace HC := hide (keepc _ _ _ _ u HC.out)
  clear u
  refine wpAnyH_take (i := 0) (oi := ?oi0M2) (v := ?v0M2) ?oi0_0M2 (by kernel_rfl) ?ff0M2 ?rr0M2 ?hq0M2 (Or.inl ⟨?hw0M2, ?hy0M2⟩) (by assumption) ?rest0M2
  case oi0_0M2 =>
    conv =>
      lhs
      whnf
      arg 1
      whnf
  case hq0M2 => exact fun _ _ _ h => h
  case ff0M2 => kernel_rfl
  case rr0M2 => kernel_rfl
  case hw0M2 => rfl
  case hy0M2 =>
    intro w hSw
    (try dsimp only at hSw)
    first
    | (go_simp; done)
    | (go_simp; with_reducible rfl)
  try simp only [Act.put, List.setIfInBounds_toArray, List.set_cons_zero, List.set_cons_succ]
  refine wpAnyH_take (i := 1) (oi := ?oi1M2) (v := ?v1M2) ?oi0_1M2 (by kernel_rfl) ?ff1M2 ?rr1M2 ?hq1M2 (Or.inl ⟨?hw1M2, ?hy1M2⟩) (by assumption) ?rest1M2
  case oi0_1M2 =>
    conv =>
      lhs
      whnf
      arg 1
      whnf
  case hq1M2 => exact fun _ _ _ h => h
  case ff1M2 => kernel_rfl
  case rr1M2 => kernel_rfl
  case hw1M2 => rfl
  case hy1M2 =>
    intro w hSw
    (try dsimp only at hSw)
    first
    | (go_simp; done)
    | (go_simp; with_reducible rfl)
  try simp only [Act.put, List.setIfInBounds_toArray, List.set_cons_zero, List.set_cons_succ]
  refine wpAnyH_take (i := 2) (oi := ?oi2M2) (v := ?v2M2) ?oi0_2M2 (by kernel_rfl) ?ff2M2 ?rr2M2 ?hq2M2 (Or.inl ⟨?hw2M2, ?hy2M2⟩) (by assumption) ?rest2M2
  case oi0_2M2 =>
    conv =>
      lhs
      whnf
      arg 1
      whnf
  case hq2M2 => exact fun _ _ _ h => h
  case ff2M2 => kernel_rfl
  case rr2M2 => kernel_rfl
  case hw2M2 => rfl
  case hy2M2 =>
    intro w hSw
    (try dsimp only at hSw)
    first
    | (go_simp; done)
    | (go_simp; with_reducible rfl)
  try simp only [Act.put, List.setIfInBounds_toArray, List.set_cons_zero, List.set_cons_succ]
  refine wpAnyH_take (i := 3) (oi := ?oi3M2) (v := ?v3M2) ?oi0_3M2 (by kernel_rfl) ?ff3M2 ?rr3M2 ?hq3M2 (Or.inl ⟨?hw3M2, ?hy3M2⟩) (by assumption) ?rest3M2
  case oi0_3M2 =>
    conv =>
      lhs
      whnf
      arg 1
      whnf
  case hq3M2 => exact fun _ _ _ h => h
  case ff3M2 => kernel_rfl
  case rr3M2 => kernel_rfl
  case hw3M2 => rfl
  case hy3M2 =>
    intro w hSw
    (try dsimp only at hSw)
    first
    | (go_simp; done)
    | (go_simp; with_reducible rfl)
  try simp only [Act.put, List.setIfInBounds_toArray, List.set_cons_zero, List.set_cons_succ]
  refine wpAnyH_take (i := 5) (oi := ?oi5M2) (v := ?v5M2) ?oi0_5M2 (by kernel_rfl) ?ff5M2 ?rr5M2 ?hq5M2 (Or.inl ⟨?hw5M2, ?hy5M2⟩) (by assumption) ?rest5M2
  case oi0_5M2 =>
    conv =>
      lhs
      whnf
      arg 1
      whnf
  case hq5M2 => exact fun _ _ _ h => h
  case ff5M2 => kernel_rfl
  case rr5M2 => kernel_rfl
  case hw5M2 => rfl
  case hy5M2 =>
    intro w hSw
    (try dsimp only at hSw)
    first
    | (go_simp; done)
    | (go_simp; with_reducible rfl)
  try simp only [Act.put, List.setIfInBounds_toArray, List.set_cons_zero, List.set_cons_succ]
  refine wpAnyH_take (i := 6) (oi := ?oi6M2) (v := ?v6M2) ?oi0_6M2 (by kernel_rfl) ?ff6M2 ?rr6M2 ?hq6M2 (Or.inl ⟨?hw6M2, ?hy6M2⟩) (by assumption) ?rest6M2
  case oi0_6M2 =>
    conv =>
      lhs
      whnf
      arg 1
      whnf
  case hq6M2 => exact fun _ _ _ h => h
  case ff6M2 => kernel_rfl
  case rr6M2 => kernel_rfl
  case hw6M2 => rfl
  case hy6M2 =>
    intro w hSw
    (try dsimp only at hSw)
    first
    | (go_simp; done)
    | (go_simp; with_reducible rfl)
  try simp only [Act.put, List.setIfInBounds_toArray, List.set_cons_zero, List.set_cons_succ]
  refine wpAnyH_take (i := 7) (oi := ?oi7M2) (v := ?v7M2) ?oi0_7M2 (by kernel_rfl) ?ff7M2 ?rr7M2 ?hq7M2 (Or.inl ⟨?hw7M2, ?hy7M2⟩) (by assumption) ?rest7M2
  case oi0_7M2 =>
    conv =>
      lhs
      whnf
      arg 1
      whnf
  case hq7M2 => exact fun _ _ _ h => h
  case ff7M2 => kernel_rfl
  case rr7M2 => kernel_rfl
  case hw7M2 => rfl
  case hy7M2 =>
    intro w hSw
    (try dsimp only at hSw)
    first
    | (go_simp; done)
    | (go_simp; with_reducible rfl)
  try simp only [Act.put, List.setIfInBounds_toArray, List.set_cons_zero, List.set_cons_succ]
  refine wpAnyH_take (i := 8) (oi := ?oi8M2) (v := ?v8M2) ?oi0_8M2 (by kernel_rfl) ?ff8M2 ?rr8M2 ?hq8M2 (Or.inl ⟨?hw8M2, ?hy8M2⟩) (by assumption) ?rest8M2
  case oi0_8M2 =>
    conv =>
      lhs
      whnf
      arg 1
      whnf
  case hq8M2 => exact fun _ _ _ h => h
  case ff8M2 => kernel_rfl
  case rr8M2 => kernel_rfl
  case hw8M2 => rfl
  case hy8M2 =>
    intro w hSw
    (try dsimp only at hSw)
    first
    | (go_simp; done)
    | (go_simp; with_reducible rfl)
  try simp only [Act.put, List.setIfInBounds_toArray, List.set_cons_zero, List.set_cons_succ]
  refine wpAnyH_take (i := 9) (oi := ?oi9M2) (v := ?v9M2) ?oi0_9M2 (by kernel_rfl) ?ff9M2 ?rr9M2 ?hq9M2 (Or.inl ⟨?hw9M2, ?hy9M2⟩) (by assumption) ?rest9M2
  case oi0_9M2 =>
    conv =>
      lhs
      whnf
      arg 1
      whnf
  case hq9M2 => exact fun _ _ _ h => h
  case ff9M2 => kernel_rfl
  case rr9M2 => kernel_rfl
  case hw9M2 => rfl
  case hy9M2 =>
    intro w hSw
    (try dsimp only at hSw)
    first
    | (go_simp; done)
    | (go_simp; with_reducible rfl)
  try simp only [Act.put, List.setIfInBounds_toArray, List.set_cons_zero, List.set_cons_succ]
  refine wpAnyH_ready (rs := [4]) (by kernel_rfl) (by simp) (AllReadyH.cons (o := ?oiM3) ?oi0_M3 (fun K hK => ?_) AllReadyH.nil)
  case oi0_M3 =>
    conv =>
      lhs
      whnf
      arg 1
      whnf
  go_simp
  go_at_call 51
  refine (HSZ.out wd HC.out).mono ?_
  rintro e w' ⟨rfl, rfl⟩
  (try dsimp only)
  refine hK.out _ _ (by exact ⟨C3.out, C2.out⟩) (fun hHeld => ?_)
  clear hK K
  try simp only [Act.put, List.setIfInBounds_toArray, List.set_cons_zero, List.set_cons_succ]
  refine wpAnyH_take (i := 10) (oi := ?oi10M4) (v := ?v10M4) ?oi0_10M4 (by kernel_rfl) ?ff10M4 ?rr10M4 ?hq10M4 (Or.inl ⟨?hw10M4, ?hy10M4⟩) (by assumption) ?rest10M4
  case oi0_10M4 =>
    conv =>
      lhs
      whnf
      arg 1
      whnf
  case hq10M4 => exact fun _ _ _ h => h
  case ff10M4 => kernel_rfl
  case rr10M4 => kernel_rfl
  case hw10M4 => rfl
  case hy10M4 =>
    intro w hSw
    (try dsimp only at hSw)
    first
    | (go_simp; done)
    | (go_simp; with_reducible rfl)
  try simp only [Act.put, List.setIfInBounds_toArray, List.set_cons_zero, List.set_cons_succ]
  refine wpAnyH_take (i := 11) (oi := ?oi11M4) (v := ?v11M4) ?oi0_11M4 (by kernel_rfl) ?ff11M4 ?rr11M4 ?hq11M4 (Or.inl ⟨?hw11M4, ?hy11M4⟩) (by assumption) ?rest11M4
  case oi0_11M4 =>
    conv =>
      lhs
      whnf
      arg 1
      whnf
  case hq11M4 => exact fun _ _ _ h => h
  case ff11M4 => kernel_rfl
  case rr11M4 => kernel_rfl
  case hw11M4 => rfl
  case hy11M4 =>
    intro w hSw
    (try dsimp only at hSw)
    first
    | (go_simp; done)
    | (go_simp; with_reducible rfl)
  try simp only [Act.put, List.setIfInBounds_toArray, List.set_cons_zero, List.set_cons_succ]
  refine wpAnyH_done (by kernel_rfl) ?_ _
  go_wp2_with fail
  go_ret
  exact ⟨rfl, HU.out⟩
theorem records_nil (w : World) : Calls Tryz.prog 19 #[.pointer none] w fun e w' => e = .returned (.slice none 0 0) ∧ w = w' := by
  go_enter Tryz.func19, Tryz.ntmps19
  go_wp2_with fail
  go_ret
  exact ⟨rfl, rfl⟩
/-- slices.Clone of a row of strings of the call's own. -/
theorem clone_any (base n c : Nat) (A : Option Addr) (l : List (List UInt8)) (w : World) (hl : l.length = n) (hn : n ≤ 1000000000000) (hO : w.ownsRow base 9 1 (.slice A n c) n (l.map strV)) :
    Calls Tryz.prog 36 #[.slice A n c] w fun e w' => ∃ A' c', e = .returned (.slice A' n c') ∧ w'.ownsRow w.heap.size 9 1 (.slice A' n c') n (l.map strV) ∧ Upd [] w w' := by
  rcases hO.2 with ⟨hv, h0⟩ | ⟨g, cap, cur, hv, _⟩
  · simp only [Value.slice.injEq] at hv
    obtain ⟨rfl, _, rfl⟩ := hv
    obtain rfl : l = [] := by cases l; rfl; simp at hl; omega
    subst h0
    refine (Tryz.slices_Clone_string_nil 0 0 w).mono ?_
    rintro e w' ⟨rfl, rfl⟩
    exact ⟨none, 0, rfl, World.ownsRow_nil _ _ _ _, Upd.refl _ _⟩
  · simp only [Value.slice.injEq] at hv
    obtain ⟨rfl, _, rfl⟩ := hv
    refine (Tryz.slices_Clone_string g 0 n c (l.map fun x => ⟨x.toArray⟩) w (by rw [List.length_map]; omega) (by omega) (fun j hj => ?_)).mono ?_
    · rw [List.length_map] at hj
      have h1 := hO.cells (g := g) rfl j (strV l[j]) (by rw [List.getElem?_map, List.getElem?_eq_getElem hj]; rfl)
      have e : (⟨g, 0, none⟩ : Addr).add j = ⟨g, 0 + j, none⟩ := by unfold Addr.add; split <;> simp_all
      rw [e] at h1
      rw [h1]
      unfold strV
      rw [List.getD, List.getElem?_map, List.getElem?_eq_getElem hj]
      rfl
    · rintro e w' ⟨v', rfl, h1, h2, h3⟩
      obtain ⟨A', c', rfl⟩ := own_form h1
      refine ⟨A', c', rfl, ?_, (Upd.refl [] w).below h3⟩
      rw [List.take_of_length_le (by rw [List.length_map]; omega), List.map_map] at h1
      exact h1
theorem records_any (base jb tt : Nat) (A : Option Addr) (c : Nat) (T : TapeS) (rest : List Value) (w : World) (hJ : IsTapeAt w base jb tt A c T rest) (hn : T.recs.length ≤ 1000000000000) :
    Calls Tryz.prog 19 #[.pointer (some ⟨jb, 0, none⟩)] w fun e w' => ∃ A' c', e = .returned (.slice A' T.recs.length c') ∧ w'.ownsRow w.heap.size 9 1 (.slice A' T.recs.length c') T.recs.length (T.recs.map strV) ∧ Upd [] w w' := by
  obtain ⟨N, hN⟩ : ∃ N, T.recs.length = N := ⟨_, rfl⟩
  obtain ⟨_, hB, hO⟩ := hJ
  rw [hN] at hB hO hn ⊢
  have c0 : w.cell? ⟨jb, 0, none⟩ = some (.slice A N c) := (hB.cell 0).trans rfl
  have HC := hide (clone_any base N c A T.recs w hN hn hO)
  clear hB hO hN
  go_enter Tryz.func19, Tryz.ntmps19
  go_wp2_with fail
  refine HC.out.mono ?_
  rintro e w' ⟨A', c', rfl, h1, h2⟩
  have H1 := hide h1
  have H2 := hide h2
  clear h1 h2
  go_wp2_with fail
  go_ret
  exact ⟨A', c', rfl, H1.out, H2.out⟩
end Go.Proofs.YtafjolibfbccbaaGreatDoor
