/-
  The small functions of a journal: is a record too long, Room, Records.
  (*journal.Journal).Append.
  The journal in plain Lean: what is stored is read back.
  One byte of the stored records is changed: what the journal's load makes of it. The plain law.
  (XDIn without a crash.) A disk of the call's own: its blocks lie from B on, outside X; nothing below B has turned.
  A journal of the call's own on a disk of the call's own: the contracts of its functions.
-/
import Derived.Test.YtafjolibfbccbaaGreatDoorZ25JournalOpensAnythingCard
import Derived.Test.YtafjolibfbccbaaGreatDoorZ10JournalOpensAnythingCard
import Derived.Deep.QuietTactic
import Derived.BigQuiet
import Derived.Test.YtafjolibfbccbaaGreatDoorZ26JournalOpensAnythingCard

namespace Go.Proofs.YtafjolibfbccbaaGreatDoor
open Go.RowKit
set_option maxRecDepth 100000
set_option maxHeartbeats 4000000

/-- A slice of strings. -/
def StrsAt (w : World) (a : Option Addr) (l : List ByteArray) : Prop := ∀ j s, l[j]? = some s → ∃ b o, a = some ⟨b, o, none⟩ ∧ w.cell? ⟨b, o + j, none⟩ = some (.string s)
theorem StrsAt.upd {w w' : World} {a : Option Addr} {l : List ByteArray} {F : List Nat} (h : StrsAt w a l) (hu : Upd F w w') (hn : ∀ k, a.map (·.block) = some k → k ∉ F) : StrsAt w' a l := by
  intro j s hs
  obtain ⟨b, o, rfl, hc⟩ := h j s hs
  exact ⟨b, o, rfl, (hu.cell (p := ⟨b, o + j, none⟩) (World.block_lt_of_cell? _ _ hc) (hn b rfl)).trans hc⟩
theorem isLong_any (s : ByteArray) (n : Nat) (w : World) (hn : s.size = n) (_hb : n ≤ 9223372036854775807) :
    Calls Tryz.prog 34 #[.string s] w fun e w' => e = .returned (.bool (decide ((65536 : Int) < (n : Int)))) ∧ w = w' := by
  go_enter Tryz.func34, Tryz.ntmps34
  go_wp2_with fail
  go_ret
  exact ⟨rfl, rfl⟩
def longIdx (l : List ByteArray) : Int := match l.findIdx? (fun s => decide (65536 < s.size)) with | some k => (k : Int) | none => -1
def anyLong (l : List ByteArray) : Bool := l.any (fun s => decide (65536 < s.size))
theorem longIdx_any (l : List ByteArray) : decide (0 ≤ longIdx l) = anyLong l := by
  unfold longIdx anyLong
  cases h : l.findIdx? (fun s => decide (65536 < s.size)) with
  | none =>
    have := List.findIdx?_eq_none_iff.1 h
    simp
    intro x hx
    have := this x hx
    simpa using this
  | some k =>
    have h1 := List.findIdx?_eq_some_iff_getElem.1 h
    obtain ⟨h2, h3, _⟩ := h1
    symm
    simp
    exact ⟨_, List.getElem_mem h2, by simpa using h3⟩
theorem index_long (a : Option Addr) (n c : Nat) (l : List ByteArray) (w : World) (hl : l.length = n) (hn : n ≤ 1000000000000) (hS : StrsAt w a l) (hb : ∀ s ∈ l, s.size ≤ 1000000000000) :
    Calls Tryz.prog 68 #[.slice a n c, .func (.func 34) #[] #[]] w fun e w' => e = .returned (.int .i64 (longIdx l)) ∧ w = w' := by
  have HS := hide hS
  have HL := hide hl
  have HB := hide hb
  clear hS hl hb
  go_enter Tryz.func68, Tryz.ntmps68
  go_wp2_with fail
  go_loop [8] (fun s8 => ∃ k : Nat, k ≤ n ∧ s8 = .int .i64 k ∧ Hid (∀ j s, j < k → l[j]? = some s → ¬ 65536 < s.size)) (fun s => n - (intOf s).toNat)
  case atStart => exact ⟨0, Nat.zero_le _, rfl, hide (fun j s hj => by omega)⟩
  case round =>
    obtain ⟨k, hk, rfl, hN⟩ := hrel
    by_cases hkn : k < n
    case neg =>
      obtain rfl : k = n := by omega
      have hki : ¬ (k : Int) < k := by omega
      have HE := hide (show longIdx l = -1 by
        unfold longIdx
        rw [List.findIdx?_eq_none_iff.2 (fun x hx => by
          obtain ⟨j, hj⟩ := List.getElem?_of_mem hx
          have := hN.out j x (by have := (List.getElem?_eq_some_iff.1 hj).1; have := HL.out; omega) hj
          simpa using this)])
      go_wp2_with fail
      go_ret
      exact ⟨by rw [HE.out]; rfl, rfl⟩
    have hki : (k : Int) < n := by omega
    have hkw : IntKind.i64.wrap ((k : Int) + 1) = (k : Int) + 1 := Go.IntWalk.i64_in _ (by omega)
    obtain ⟨s, hs⟩ : ∃ s, l[k]? = some s := ⟨_, List.getElem?_eq_getElem (by have := HL.out; omega)⟩
    obtain ⟨b, o, rfl, hc⟩ := HS.out k s hs
    obtain ⟨m, hm⟩ : ∃ m, s.size = m := ⟨_, rfl⟩
    have hmb : m ≤ 1000000000000 := by rw [← hm]; exact HB.out s (List.mem_of_getElem? hs)
    have HI := hide (isLong_any s m w hm (by omega))
    have HSS := hide hs
    have HM := hide hm
    clear hs hm
    by_cases hlg : 65536 < m
    · have hd : decide ((65536 : Int) < (m : Int)) = true := decide_eq_true (by omega)
      have HE := hide (show longIdx l = (k : Int) by
        have hf : l.findIdx? (fun s => decide (65536 < s.size)) = some k := List.findIdx?_eq_some_iff_getElem.2 ⟨by have := HL.out; omega, by
          have h1 := (List.getElem?_eq_some_iff.1 HSS.out).2
          rw [h1, HM.out]; simpa using hlg, fun j hj => by
          have h2 : j < l.length := by have := HL.out; omega
          have := hN.out j l[j] hj (List.getElem?_eq_getElem h2)
          simpa using this⟩
        unfold longIdx
        rw [hf])
      rw [hd] at HI
      clear hlg hd
      go_wp2_with fail
      refine HI.out.mono ?_
      rintro e w' ⟨rfl, rfl⟩
      go_wp2_with fail
      go_ret
      exact ⟨by rw [HE.out]; rfl, rfl⟩
    · have hd : decide ((65536 : Int) < (m : Int)) = false := decide_eq_false (by omega)
      have HN2 := hide (show ∀ j s, j < k + 1 → l[j]? = some s → ¬ 65536 < s.size from fun j x hj hx => by
        by_cases hjk : j < k
        · exact hN.out j x hjk hx
        · obtain rfl : j = k := by omega
          rw [HSS.out] at hx
          obtain rfl := Option.some.inj hx
          rw [HM.out]; exact hlg)
      rw [hd] at HI
      clear hlg hd
      go_wp2_with fail
      refine HI.out.mono ?_
      rintro e w' ⟨rfl, rfl⟩
      go_wp2_with fail
      go_round
      case rel => exact ⟨k + 1, by omega, by go_num, HN2⟩
      case measure => simp [intOf] <;> omega
theorem contains_long (a : Option Addr) (n c : Nat) (l : List ByteArray) (w : World) (hl : l.length = n) (hn : n ≤ 1000000000000) (hS : StrsAt w a l) (hb : ∀ s ∈ l, s.size ≤ 1000000000000) :
    Calls Tryz.prog 35 #[.slice a n c, .func (.func 34) #[] #[]] w fun e w' => e = .returned (.bool (anyLong l)) ∧ w = w' := by
  have HI := hide (index_long a n c l w hl hn hS hb)
  have HA := hide (longIdx_any l)
  obtain ⟨i, hi⟩ : ∃ i, longIdx l = i := ⟨_, rfl⟩
  rw [hi] at HI HA
  clear hl hn hS hb hi
  go_enter Tryz.func35, Tryz.ntmps35
  go_wp2_with fail
  refine HI.out.mono ?_
  rintro e w' ⟨rfl, rfl⟩
  go_wp2_with fail
  go_ret
  exact ⟨by rw [← HA.out]; rfl, rfl⟩
theorem room_nil (w : World) : Calls Tryz.prog 20 #[.pointer none] w fun e w' => e = .returned (.int .i64 0) ∧ w = w' := by
  go_enter Tryz.func20, Tryz.ntmps20
  go_wp2_with fail
  go_ret
  exact ⟨rfl, rfl⟩
theorem room_any {F : List Nat} {D : DiskS} (base jb g : Nat) (A : Option Addr) (c : Nat) (T : TapeS) (br : Bool) (w : World) (hJ : IsTapeAt w base jb 74 A c T [.pointer (some ⟨g, 0, none⟩), .bool br]) (hD : IsDisk w F g D) (hs : T.size ≤ D.sure.length) :
    Calls Tryz.prog 20 #[.pointer (some ⟨jb, 0, none⟩)] w fun e w' => e = .returned (.int .i64 ((D.sure.length - T.size : Nat) : Int)) ∧ Upd [] w w' := by
  obtain ⟨gd, gv, DA, dc, hDA⟩ := hD
  have hmax := hDA.ok.max
  obtain ⟨N, hN⟩ : ∃ N, D.sure.length = N := ⟨_, rfl⟩
  obtain ⟨q, hq⟩ : ∃ q, T.size = q := ⟨_, rfl⟩
  have hc2 := hDA.head.cell 2
  rw [hN] at hs hmax hc2 ⊢
  rw [hq] at hs ⊢
  have c3 : w.cell? ⟨jb, 3, none⟩ = some (.pointer (some ⟨g, 0, none⟩)) := (hJ.2.1.cell 3).trans rfl
  have c2 : w.cell? ⟨jb, 2, none⟩ = some (.int .i64 (q : Int)) := by rw [← hq]; exact (hJ.2.1.cell 2).trans rfl
  have hsub : IntKind.i64.wrap ((N : Int) - (q : Int)) = ((N - q : Nat) : Int) := by rw [Go.IntWalk.i64_in _ (by omega)]; omega
  have HSZ := hide (show ∀ W : World, W.cell? ⟨g, 2, none⟩ = some (.slice (some ⟨gd, 0, none⟩) N N) → Calls Tryz.prog 51 #[.pointer (some ⟨g, 0, none⟩)] W _ from fun W h => size_any W h)
  have HC := hide hc2
  clear hDA hJ hN hq hc2 hs
  have C3 := hide c3
  have C2 := hide c2
  clear c3 c2
  go_enter Tryz.func20, Tryz.ntmps20
  go_upto_region 3 with fail
  refine wp_region_held_drew (S := (fun w' => w'.cell? ⟨jb, 3, none⟩ = some (.pointer (some ⟨g, 0, none⟩)) ∧ w'.cell? ⟨jb, 2, none⟩ = some (.int .i64 (q : Int)))) (by kernel_rfl) (by exact ⟨C3.out, C2.out⟩) (fun hHeld => ?_)
  obtain ⟨wd, hwD⟩ : ∃ x, w.drew = x := ⟨_, rfl⟩
  have u : Upd [] w wd := by rw [← hwD]; exact (Upd.refl [] _).drew
  rw [hwD] at hHeld ⊢
  clear hwD
  have HU := hide u
  replace C3 := hide (keepc _ _ _ _ u C3.out)
  replace C2 := hide (keepc _ _ _ _ u C2.out)
  replace HC := hide (keepc _ _ _ _ u HC.out)
  clear u
  refine wpAnyH_take (i := 0) (oi := ?oi0M2) (v := ?v0M2) ?oi0_0M2 (by kernel_rfl) ?ff0M2 ?rr0M2 ?hq0M2 (Or.inl ⟨?hw0M2, ?hy0M2⟩) (by assumption) ?rest0M2
  case oi0_0M2 => conv => lhs; whnf; arg 1; whnf
  case hq0M2 => exact fun _ _ _ h => h
  case ff0M2 | rr0M2 => kernel_rfl
  case hw0M2 => rfl
  case hy0M2 => intro w hSw; (try dsimp only at hSw); first | (go_simp; done) | (go_simp; with_reducible rfl)
  try simp only [Act.put, List.setIfInBounds_toArray, List.set_cons_zero, List.set_cons_succ]
  refine wpAnyH_take (i := 1) (oi := ?oi1M2) (v := ?v1M2) ?oi0_1M2 (by kernel_rfl) ?ff1M2 ?rr1M2 ?hq1M2 (Or.inl ⟨?hw1M2, ?hy1M2⟩) (by assumption) ?rest1M2
  case oi0_1M2 => conv => lhs; whnf; arg 1; whnf
  case hq1M2 => exact fun _ _ _ h => h
  case ff1M2 | rr1M2 => kernel_rfl
  case hw1M2 => rfl
  case hy1M2 => intro w hSw; (try dsimp only at hSw); first | (go_simp; done) | (go_simp; with_reducible rfl)
  try simp only [Act.put, List.setIfInBounds_toArray, List.set_cons_zero, List.set_cons_succ]
  refine wpAnyH_take (i := 2) (oi := ?oi2M2) (v := ?v2M2) ?oi0_2M2 (by kernel_rfl) ?ff2M2 ?rr2M2 ?hq2M2 (Or.inl ⟨?hw2M2, ?hy2M2⟩) (by assumption) ?rest2M2
  case oi0_2M2 => conv => lhs; whnf; arg 1; whnf
  case hq2M2 => exact fun _ _ _ h => h
  case ff2M2 | rr2M2 => kernel_rfl
  case hw2M2 => rfl
  case hy2M2 => intro w hSw; (try dsimp only at hSw); first | (go_simp; done) | (go_simp; with_reducible rfl)
  try simp only [Act.put, List.setIfInBounds_toArray, List.set_cons_zero, List.set_cons_succ]
  refine wpAnyH_take (i := 3) (oi := ?oi3M2) (v := ?v3M2) ?oi0_3M2 (by kernel_rfl) ?ff3M2 ?rr3M2 ?hq3M2 (Or.inl ⟨?hw3M2, ?hy3M2⟩) (by assumption) ?rest3M2
  case oi0_3M2 => conv => lhs; whnf; arg 1; whnf
  case hq3M2 => exact fun _ _ _ h => h
  case ff3M2 | rr3M2 => kernel_rfl
  case hw3M2 => rfl
  case hy3M2 => intro w hSw; (try dsimp only at hSw); first | (go_simp; done) | (go_simp; with_reducible rfl)
  try simp only [Act.put, List.setIfInBounds_toArray, List.set_cons_zero, List.set_cons_succ]
  refine wpAnyH_take (i := 5) (oi := ?oi5M2) (v := ?v5M2) ?oi0_5M2 (by kernel_rfl) ?ff5M2 ?rr5M2 ?hq5M2 (Or.inl ⟨?hw5M2, ?hy5M2⟩) (by assumption) ?rest5M2
  case oi0_5M2 => conv => lhs; whnf; arg 1; whnf
  case hq5M2 => exact fun _ _ _ h => h
  case ff5M2 | rr5M2 => kernel_rfl
  case hw5M2 => rfl
  case hy5M2 => intro w hSw; (try dsimp only at hSw); first | (go_simp; done) | (go_simp; with_reducible rfl)
  try simp only [Act.put, List.setIfInBounds_toArray, List.set_cons_zero, List.set_cons_succ]
  refine wpAnyH_take (i := 6) (oi := ?oi6M2) (v := ?v6M2) ?oi0_6M2 (by kernel_rfl) ?ff6M2 ?rr6M2 ?hq6M2 (Or.inl ⟨?hw6M2, ?hy6M2⟩) (by assumption) ?rest6M2
  case oi0_6M2 => conv => lhs; whnf; arg 1; whnf
  case hq6M2 => exact fun _ _ _ h => h
  case ff6M2 | rr6M2 => kernel_rfl
  case hw6M2 => rfl
  case hy6M2 => intro w hSw; (try dsimp only at hSw); first | (go_simp; done) | (go_simp; with_reducible rfl)
  try simp only [Act.put, List.setIfInBounds_toArray, List.set_cons_zero, List.set_cons_succ]
  refine wpAnyH_take (i := 7) (oi := ?oi7M2) (v := ?v7M2) ?oi0_7M2 (by kernel_rfl) ?ff7M2 ?rr7M2 ?hq7M2 (Or.inl ⟨?hw7M2, ?hy7M2⟩) (by assumption) ?rest7M2
  case oi0_7M2 => conv => lhs; whnf; arg 1; whnf
  case hq7M2 => exact fun _ _ _ h => h
  case ff7M2 | rr7M2 => kernel_rfl
  case hw7M2 => rfl
  case hy7M2 => intro w hSw; (try dsimp only at hSw); first | (go_simp; done) | (go_simp; with_reducible rfl)
  try simp only [Act.put, List.setIfInBounds_toArray, List.set_cons_zero, List.set_cons_succ]
  refine wpAnyH_take (i := 8) (oi := ?oi8M2) (v := ?v8M2) ?oi0_8M2 (by kernel_rfl) ?ff8M2 ?rr8M2 ?hq8M2 (Or.inl ⟨?hw8M2, ?hy8M2⟩) (by assumption) ?rest8M2
  case oi0_8M2 => conv => lhs; whnf; arg 1; whnf
  case hq8M2 => exact fun _ _ _ h => h
  case ff8M2 | rr8M2 => kernel_rfl
  case hw8M2 => rfl
  case hy8M2 => intro w hSw; (try dsimp only at hSw); first | (go_simp; done) | (go_simp; with_reducible rfl)
  try simp only [Act.put, List.setIfInBounds_toArray, List.set_cons_zero, List.set_cons_succ]
  refine wpAnyH_take (i := 9) (oi := ?oi9M2) (v := ?v9M2) ?oi0_9M2 (by kernel_rfl) ?ff9M2 ?rr9M2 ?hq9M2 (Or.inl ⟨?hw9M2, ?hy9M2⟩) (by assumption) ?rest9M2
  case oi0_9M2 => conv => lhs; whnf; arg 1; whnf
  case hq9M2 => exact fun _ _ _ h => h
  case ff9M2 | rr9M2 => kernel_rfl
  case hw9M2 => rfl
  case hy9M2 => intro w hSw; (try dsimp only at hSw); first | (go_simp; done) | (go_simp; with_reducible rfl)
  try simp only [Act.put, List.setIfInBounds_toArray, List.set_cons_zero, List.set_cons_succ]
  refine wpAnyH_ready (rs := [4]) (by kernel_rfl) (by simp) (AllReadyH.cons (o := ?oiM3) ?oi0_M3 (fun K hK => ?_) AllReadyH.nil)
  case oi0_M3 => conv => lhs; whnf; arg 1; whnf
  go_simp
  go_at_call 51
  refine (HSZ.out wd HC.out).mono ?_
  rintro e w' ⟨rfl, rfl⟩
  (try dsimp only)
  refine hK.out _ _ (by exact ⟨C3.out, C2.out⟩) (fun hHeld => ?_)
  clear hK K
  try simp only [Act.put, List.setIfInBounds_toArray, List.set_cons_zero, List.set_cons_succ]
  refine wpAnyH_take (i := 10) (oi := ?oi10M4) (v := ?v10M4) ?oi0_10M4 (by kernel_rfl) ?ff10M4 ?rr10M4 ?hq10M4 (Or.inl ⟨?hw10M4, ?hy10M4⟩) (by assumption) ?rest10M4
  case oi0_10M4 => conv => lhs; whnf; arg 1; whnf
  case hq10M4 => exact fun _ _ _ h => h
  case ff10M4 | rr10M4 => kernel_rfl
  case hw10M4 => rfl
  case hy10M4 => intro w hSw; (try dsimp only at hSw); first | (go_simp; done) | (go_simp; with_reducible rfl)
  try simp only [Act.put, List.setIfInBounds_toArray, List.set_cons_zero, List.set_cons_succ]
  refine wpAnyH_take (i := 11) (oi := ?oi11M4) (v := ?v11M4) ?oi0_11M4 (by kernel_rfl) ?ff11M4 ?rr11M4 ?hq11M4 (Or.inl ⟨?hw11M4, ?hy11M4⟩) (by assumption) ?rest11M4
  case oi0_11M4 => conv => lhs; whnf; arg 1; whnf
  case hq11M4 => exact fun _ _ _ h => h
  case ff11M4 | rr11M4 => kernel_rfl
  case hw11M4 => rfl
  case hy11M4 => intro w hSw; (try dsimp only at hSw); first | (go_simp; done) | (go_simp; with_reducible rfl)
  try simp only [Act.put, List.setIfInBounds_toArray, List.set_cons_zero, List.set_cons_succ]
  refine wpAnyH_done (by kernel_rfl) ?_ _
  go_wp2_with fail
  go_ret
  exact ⟨rfl, HU.out⟩
theorem records_nil (w : World) : Calls Tryz.prog 19 #[.pointer none] w fun e w' => e = .returned (.slice none 0 0) ∧ w = w' := by
  go_enter Tryz.func19, Tryz.ntmps19
  go_wp2_with fail
  go_ret
  exact ⟨rfl, rfl⟩
/-- slices.Clone of a row of strings of the call's own. -/
theorem clone_any (base n c : Nat) (A : Option Addr) (l : List (List UInt8)) (w : World) (hl : l.length = n) (hn : n ≤ 1000000000000) (hO : w.ownsRow base 9 1 (.slice A n c) n (l.map strV)) :
    Calls Tryz.prog 36 #[.slice A n c] w fun e w' => ∃ A' c', e = .returned (.slice A' n c') ∧ w'.ownsRow w.heap.size 9 1 (.slice A' n c') n (l.map strV) ∧ Upd [] w w' := by
  rcases hO.2 with ⟨hv, h0⟩ | ⟨g, cap, cur, hv, _⟩
  · simp only [Value.slice.injEq] at hv
    obtain ⟨rfl, _, rfl⟩ := hv
    obtain rfl : l = [] := by cases l; rfl; simp at hl; omega
    subst h0
    refine (Tryz.slices_Clone_string_nil 0 0 w).mono ?_
    rintro e w' ⟨rfl, rfl⟩
    exact ⟨none, 0, rfl, World.ownsRow_nil _ _ _ _, Upd.refl _ _⟩
  · simp only [Value.slice.injEq] at hv
    obtain ⟨rfl, _, rfl⟩ := hv
    refine (Tryz.slices_Clone_string g 0 n c (l.map fun x => ⟨x.toArray⟩) w (by rw [List.length_map]; omega) (by omega) (fun j hj => ?_)).mono ?_
    · rw [List.length_map] at hj
      have h1 := hO.cells (g := g) rfl j (strV l[j]) (by rw [List.getElem?_map, List.getElem?_eq_getElem hj]; rfl)
      have e : (⟨g, 0, none⟩ : Addr).add j = ⟨g, 0 + j, none⟩ := by unfold Addr.add; split <;> simp_all
      rw [e] at h1
      rw [h1]
      unfold strV
      rw [List.getD, List.getElem?_map, List.getElem?_eq_getElem hj]
      rfl
    · rintro e w' ⟨v', rfl, h1, h2, h3⟩
      obtain ⟨A', c', rfl⟩ := own_form h1
      refine ⟨A', c', rfl, ?_, (Upd.refl [] w).below h3⟩
      rw [List.take_of_length_le (by rw [List.length_map]; omega), List.map_map] at h1
      exact h1
theorem records_any (base jb tt : Nat) (A : Option Addr) (c : Nat) (T : TapeS) (rest : List Value) (w : World) (hJ : IsTapeAt w base jb tt A c T rest) (hn : T.recs.length ≤ 1000000000000) :
    Calls Tryz.prog 19 #[.pointer (some ⟨jb, 0, none⟩)] w fun e w' => ∃ A' c', e = .returned (.slice A' T.recs.length c') ∧ w'.ownsRow w.heap.size 9 1 (.slice A' T.recs.length c') T.recs.length (T.recs.map strV) ∧ Upd [] w w' := by
  obtain ⟨N, hN⟩ : ∃ N, T.recs.length = N := ⟨_, rfl⟩
  obtain ⟨_, hB, hO⟩ := hJ
  rw [hN] at hB hO hn ⊢
  have c0 : w.cell? ⟨jb, 0, none⟩ = some (.slice A N c) := (hB.cell 0).trans rfl
  have HC := hide (clone_any base N c A T.recs w hN hn hO)
  clear hB hO hN
  go_enter Tryz.func19, Tryz.ntmps19
  go_wp2_with fail
  refine HC.out.mono ?_
  rintro e w' ⟨A', c', rfl, h1, h2⟩
  have H1 := hide h1
  have H2 := hide h2
  clear h1 h2
  go_wp2_with fail
  go_ret
  exact ⟨A', c', rfl, H1.out, H2.out⟩
end Go.Proofs.YtafjolibfbccbaaGreatDoor

namespace Go.Proofs.YtafjolibfbccbaaGreatDoor
open Go.RowKit
set_option maxRecDepth 100000
set_option maxHeartbeats 40000000

/-- A group of records: the tape behind it, and what is stored. -/
def addAll (ks : List Int) (T : TapeS) (l : List ByteArray) : TapeS × List UInt8 := l.foldl (fun x r => (x.1.add ks r.data.toList, x.2 ++ storedS ks x.1 r.data.toList)) (T, [])
theorem addAll_snoc (ks : List Int) (T : TapeS) (l : List ByteArray) (r : ByteArray) : addAll ks T (l ++ [r]) = ((addAll ks T l).1.add ks r.data.toList, (addAll ks T l).2 ++ storedS ks (addAll ks T l).1 r.data.toList) := by
  unfold addAll
  rw [List.foldl_append]
  rfl
def appendS (ks : List Int) (T : TapeS) (D : DiskS) (br : Bool) (l : List ByteArray) : TapeS × DiskS × Bool × Int :=
  if br = true ∨ anyLong l = true then (T, D, br, 340) else
  if D.sure.length - T.size < (addAll ks T l).2.length then (T, D, br, 341) else
  match (addAll ks T l).2 with
  | [] => (T, D, br, 0)
  | h :: t =>
    let r := runOps D [.write ((T.size : Int) + 1) ⟨t.toArray⟩, .sync, .write (T.size : Int) ⟨#[h]⟩, .sync]
    if r.2 ≠ 0 then (T, r.1, true, r.2) else ((addAll ks T l).1, r.1, br, 0)
theorem bld_lib {w : World} {base bb : Nat} {p v : Value} {bs : List Value} (h : IsB w base bb p v bs) : Lib.IsBuilder 78 5 base bb bs w := by
  have hap := h.apart
  obtain ⟨h1, h2, h3, rfl | rfl⟩ := h
  · exact .inl ⟨h1, v, h2, h3, fun e => hap bb e rfl⟩
  · exact .inr ⟨h1, v, h2, h3, fun e => hap bb e rfl⟩
def AppendPost (ks : List Int) (base jb g : Nat) (F : List Nat) (A : Option Addr) (T : TapeS) (D : DiskS) (br : Bool) (l : List ByteArray) (w : World) (e : Ending) (w' : World) : Prop :=
  e = .returned (.int .i64 (appendS ks T D br l).2.2.2) ∧ ∃ A' c' F', IsTapeAt w' base jb 74 A' c' (appendS ks T D br l).1 [.pointer (some ⟨g, 0, none⟩), .bool (appendS ks T D br l).2.2.1] ∧ IsDisk w' F' g (appendS ks T D br l).2.1 ∧ Upd (jb :: F) w w' ∧
    (∀ k ∈ F', k ∈ F ∨ w.heap.size ≤ k) ∧ (∀ k ∈ (A'.map (·.block)).toList, k ∈ (A.map (·.block)).toList ∨ w.heap.size ≤ k) ∧ (∀ k ∈ jb :: (A'.map (·.block)).toList, k ∉ F')
theorem slice_str_h {P : Program} (W : World) {T : TypeId} (hT : P.underlying T = some .string) (s : ByteArray) {bs : List UInt8} (hb : s.data.toList = bs) (i : Nat) (h2 : i ≤ s.size) (x : Int) (hx : x = (i : Int)) :
    (Instr.slice T (.string s) none (some (.int .i64 x)) none).run P W = .ok (.string ⟨(bs.take i).toArray⟩) W := by
  subst hx hb
  rw [run_slice_string_h W T s hT .i64 (i : Int) (by omega) (by omega), Int.toNat_natCast, str_extract]
  simp
theorem WrAt.upd0 {w w' : World} {pj pa ps jb g : Nat} {a : Int} {s : ByteArray} (h : WrAt w pj pa ps jb g a s) (u : Upd [] w w') : WrAt w' pj pa ps jb g a s :=
  ⟨keepc _ _ _ _ u h.1, keepc _ _ _ _ u h.2.1, keepc _ _ _ _ u h.2.2.1, keepc _ _ _ _ u h.2.2.2⟩
theorem writing_at (jb g : Nat) (n : Int) (s : ByteArray) (w : World) (h3 : w.cell? ⟨jb, 3, none⟩ = some (.pointer (some ⟨g, 0, none⟩))) :
    Calls Tryz.prog 41 #[.pointer (some ⟨jb, 0, none⟩), .int .i64 n, .string s] w fun e w' => ∃ pj, e = .returned (.func (.func 72) #[] #[.pointer (some ⟨pj, 0, none⟩), .pointer (some ⟨pj + 1, 0, none⟩), .pointer (some ⟨pj + 2, 0, none⟩)]) ∧ w.heap.size = pj ∧ Upd [] w w' ∧ WrAt w' pj (pj + 1) (pj + 2) jb g n s := by
  refine (writing_any (.pointer (some ⟨jb, 0, none⟩)) (.int .i64 n) s _ rfl _ rfl w).mono ?_
  rintro e w3 ⟨rfl, hw⟩
  have u : Upd [] w w3 := by rw [← hw]; exact (((Upd.refl [] _).alloc _).alloc _).alloc _
  obtain ⟨pj, hpj⟩ : ∃ x, w.heap.size = x := ⟨_, rfl⟩
  refine ⟨pj, by rw [hpj], hpj, u, ?_⟩
  have h0 : Blk w3 pj 28 [.pointer (some ⟨jb, 0, none⟩)] := by rw [← hw, ← hpj]; exact ((Blk.new w _ _).alloc _).alloc _
  have h1 : Blk w3 (pj + 1) 3 [.int .i64 n] := by
    have h9 := Blk.new (w.alloc (.cells #[.pointer (some ⟨jb, 0, none⟩)] 28)) 3 [.int .i64 n]
    rw [World.size_alloc, hpj] at h9
    rw [← hw]; exact h9.alloc _
  have h2 : Blk w3 (pj + 2) 9 [.string s] := by
    have h9 := Blk.new ((w.alloc (.cells #[.pointer (some ⟨jb, 0, none⟩)] 28)).alloc (.cells #[.int .i64 n] 3)) 9 [.string s]
    rw [World.size_alloc, World.size_alloc, hpj] at h9
    rw [← hw]; exact h9
  exact ⟨(h0.cell 0).trans rfl, (h1.cell 0).trans rfl, (h2.cell 0).trans rfl, keepc _ _ _ _ u h3⟩
theorem append_any {F : List Nat} {D : DiskS} (base jb g : Nat) (A : Option Addr) (c : Nat) (T : TapeS) (br : Bool) (la : Option Addr) (n lc : Nat) (l : List ByteArray) (ks : List Int) (w : World)
    (hJ : IsTapeAt w base jb 74 A c T [.pointer (some ⟨g, 0, none⟩), .bool br]) (hD : IsDisk w F g D) (hdj : ∀ k ∈ jb :: (A.map (·.block)).toList, k ∉ F) (hk : RoundAt w ks) (hkl : ks.length = 64)
    (hl : l.length = n) (hla : n ≤ 1000) (hS : StrsAt w la l) (hb : ∀ s ∈ l, s.size ≤ 1000000000) (hp : D.pend.length ≤ 10000000) (hts : T.size ≤ D.sure.length ∧ D.sure.length ≤ 4194304) (hth : T.head.length ≤ 1000) (htr : T.recs.length ≤ 1000000000) (hbase : base ≤ w.heap.size) :
    Calls Tryz.prog 10 #[.pointer (some ⟨jb, 0, none⟩), .slice la n lc] w (AppendPost ks base jb g F A T D br l w) := by
  have HJ := hide hJ
  have HD := hide hD
  have HFL := hide hD.lt_
  have HDJ := hide hdj
  have HK := hide hk
  have HKL := hide hkl
  have HS := hide hS
  have HB := hide hb
  have HP := hide hp
  have HTS := hide hts
  have HTH := hide hth
  have HTR := hide htr
  have HBASE := hide hbase
  have HL := hide hl
  have HLA := hide hla
  obtain ⟨N, hN⟩ : ∃ N, T.recs.length = N := ⟨_, rfl⟩
  obtain ⟨q, hq⟩ : ∃ q, T.size = q := ⟨_, rfl⟩
  have HN := hide hN
  have HQ := hide hq
  have hJB : Blk w jb 74 [.slice A N c, .string ⟨T.head.toArray⟩, .int .i64 (q : Int), .pointer (some ⟨g, 0, none⟩), .bool br] := by rw [← hN, ← hq]; exact hJ.2.1
  have HJB := hide hJB
  have CL := hide (contains_long la n lc l w hl (by omega) hS (fun s hs => by have := hb s hs; omega))
  have c4 : w.cell? ⟨jb, 4, none⟩ = some (.bool br) := (hJB.cell 4).trans rfl
  clear hJ hD hdj hk hkl hS hb hp hts hth htr hbase hl hla hN hq hJB
  obtain ⟨ln, hln⟩ : ∃ x, anyLong l = x := ⟨_, rfl⟩
  rw [hln] at CL
  cases br with
  | true =>
    have HE := hide (show appendS ks T D true l = (T, D, true, 340) by unfold appendS; rw [if_pos (.inl rfl)])
    clear hln
    go_enter Tryz.func10, Tryz.ntmps10
    go_wp2_with fail
    go_ret
    unfold AppendPost
    rw [HE.out]
    exact ⟨rfl, A, c, F, HJ.out, HD.out, Upd.refl _ _, fun k hk => .inl hk, fun k hk => .inl hk, HDJ.out⟩
  | false =>
    cases ln with
    | true =>
      have HE := hide (show appendS ks T D false l = (T, D, false, 340) by unfold appendS; rw [if_pos (.inr hln)])
      clear hln
      go_enter Tryz.func10, Tryz.ntmps10
      go_wp2_with fail
      refine CL.out.mono ?_
      rintro e w' ⟨rfl, rfl⟩
      go_wp2_with fail
      go_ret
      unfold AppendPost
      rw [HE.out]
      exact ⟨rfl, A, c, F, HJ.out, HD.out, Upd.refl _ _, fun k hk => .inl hk, fun k hk => .inl hk, HDJ.out⟩
    | false =>
      have HLN := hide hln
      clear hln
      have HSM := hide (show ∀ s ∈ l, s.size ≤ 65536 from fun s hs => by
        have h := HLN.out
        unfold anyLong at h
        rw [List.any_eq_false] at h
        have := h s hs
        simpa using this)
      have c0 : w.cell? ⟨jb, 0, none⟩ = some (.slice A N c) := (HJB.out.cell 0).trans rfl
      have c1 : w.cell? ⟨jb, 1, none⟩ = some (.string ⟨T.head.toArray⟩) := (HJB.out.cell 1).trans rfl
      have c2 : w.cell? ⟨jb, 2, none⟩ = some (.int .i64 (q : Int)) := (HJB.out.cell 2).trans rfl
      go_enter Tryz.func10, Tryz.ntmps10
      go_wp2_with fail
      refine CL.out.mono ?_
      rintro e w' ⟨rfl, rfl⟩
      go_upto_region 7 with fail
      obtain ⟨B, hB⟩ : ∃ B, w.heap.size = B := ⟨_, rfl⟩
      obtain ⟨w1, hw⟩ : ∃ x, w.alloc (.cells #[.slice A N c, .string ⟨T.head.toArray⟩, .int .i64 (q : Int)] 72) = x := ⟨_, rfl⟩
      have BN := hide (show Blk w1 B 72 [.slice A N c, .string ⟨T.head.toArray⟩, .int .i64 (q : Int)] by rw [← hw, ← hB]; exact Blk.new w _ _)
      have HU := hide (show Upd [] w w1 by rw [← hw]; exact (Upd.refl [] _).alloc _)
      rw [hw, hB]
      have HBB := hide hB
      clear hw hB c0 c1 c2 c4
      have hcl := clone_any base N c A T.recs w1 HN.out (by have := HTR.out; have := HN.out; omega) (by have h9 := own_kept HJ.out.2.2 HU.out (by simp); rw [HN.out] at h9; exact h9)
      have HCL := hide hcl
      clear hcl
      have HU1 := HU
      have n0 : w1.cell? ⟨B, 0, none⟩ = some (.slice A N c) := (BN.out.cell 0).trans rfl
      go_wp2_with fail
      refine HCL.out.mono ?_
      rintro e w2 ⟨A2, c2, rfl, hO2, u⟩
      replace BN := hide (keepB BN.out u)
      replace HU := hide (HU.out.trans u (by simp))
      have HO2 := hide (it_own_less hO2 (show B ≤ w1.heap.size by have := BN.out; rw [← HBB.out]; exact HU1.out.size))
      clear u hO2 n0
      have n0 : w2.cell? ⟨B, 0, none⟩ = some (.slice A N c) := (BN.out.cell 0).trans rfl
      have f0 := BN.out.frozen 0
      go_upto_region 8 with fail
      obtain ⟨w3, hw⟩ : ∃ x, w2.setCell ⟨B, 0, none⟩ (.slice A2 N c2) = x := ⟨_, rfl⟩
      have u : Upd [B] w2 w3 := by rw [← hw]; exact (Upd.refl _ _).setCell (.inl (by simp)) _
      have hN3 : Blk w3 B 72 [.slice A2 N c2, .string ⟨T.head.toArray⟩, .int .i64 (q : Int)] := by rw [← hw]; exact BN.out.set_ 0 _
      have HT3 := hide (show IsTapeAt w3 B B 72 A2 c2 T [] from ⟨Nat.le_refl _, by rw [HN.out, HQ.out]; exact hN3, by rw [HN.out]; exact own_kept HO2.out u (fun k hk hm => by have := own_blk_ne HO2.out BN.out (by decide) k hk; simp at hm; omega)⟩)
      replace HU := hide ((HU.out.mono (l' := [B]) (by simp)).trans u (by simp))
      replace HU := hide (show Upd [] w w3 from HU.out.mono (fun x hx => .inr (by simp at hx; subst hx; rw [HBB.out]; exact Nat.le_refl _)))
      rw [hw]
      clear hw u hN3 n0 f0 HO2 BN
      go_upto_region 9 with fail
      obtain ⟨w4, hw⟩ : ∃ x, w3.alloc (.cells #[.pointer none, .slice none 0 0] 78) = x := ⟨_, rfl⟩
      obtain ⟨bb, hbb⟩ : ∃ x, w3.heap.size = x := ⟨_, rfl⟩
      have u : Upd [] w3 w4 := by rw [← hw]; exact (Upd.refl [] _).alloc _
      have HIB := hide (show IsB w4 B bb (.pointer none) (.slice none 0 0) (Lib.byteCells []) from ⟨by rw [← hbb, ← HBB.out]; exact HU.out.size, by rw [← hw, ← hbb]; exact Blk.new w3 _ _, World.ownsRow_nil _ _ _ _, .inl rfl⟩)
      replace HT3 := hide (HT3.out.upd0 u)
      replace HU := hide (HU.out.trans u (by simp))
      rw [hw, hbb]
      clear hw hbb u
      go_wp2_with fail
      go_loopw [33] (fun s33 wr => ∃ (k : Nat) (Tk : TapeS) (out : List UInt8) (A' : Option Addr) (c' : Nat) (pp v : Value), k ≤ n ∧ s33 = .int .i64 k ∧ Hid (addAll ks T (l.take k) = (Tk, out)) ∧ Hid (IsTapeAt wr B B 72 A' c' Tk []) ∧ Hid (IsB wr B bb pp v (Lib.byteCells out)) ∧ Hid (Upd [] w wr) ∧ Hid (Tk.recs.length ≤ N + k ∧ Tk.head.length ≤ 1000 ∧ Tk.size = q + out.length ∧ out.length ≤ k * 65700 ∧ (0 < k → 0 < out.length))) (fun s _ => n - (intOf s).toNat)
      case atStart => exact ⟨0, T, [], A2, c2, _, _, Nat.zero_le _, rfl, hide (by rw [List.take_zero]; rfl), HT3, HIB, HU, hide ⟨by rw [HN.out]; exact Nat.le_refl _, HTH.out, by rw [HQ.out]; rfl, by simp, by omega⟩⟩
      case round =>
        have hla2 : n ≤ 1000 := HLA.out
        clear HT3 HIB HU
        obtain ⟨k, Tk, out, A3, c3, pp, v, hk, rfl, hAd, hT, hIB, hU, hBd⟩ := hrel
        obtain ⟨wo, rfl⟩ : ∃ x : World, x = wr := ⟨_, rfl⟩
        by_cases hkn : k < n
        case pos =>
          have hki : (k : Int) < n := by omega
          have hkw : IntKind.i64.wrap ((k : Int) + 1) = (k : Int) + 1 := Go.IntWalk.i64_in _ (by omega)
          obtain ⟨r, hr⟩ : ∃ r, l[k]? = some r := ⟨_, List.getElem?_eq_getElem (by have := HL.out; omega)⟩
          obtain ⟨lb, lo, rfl, hc⟩ := HS.out k r hr
          have hrc : wo.cell? ⟨lb, lo + k, none⟩ = some (.string r) := keepc _ _ _ _ hU.out hc
          have hr6 := HSM.out r (List.mem_of_getElem? hr)
          have hKo := HK.out.upd hU.out (by simp)
          have hBs : B ≤ wo.heap.size := by rw [← HBB.out]; exact hU.out.size
          have hkB : 3 < B := by rw [← HBB.out]; exact HK.out.lt
          have HTA := hide (tape_add_at B B 72 A3 c3 Tk [] r ks wo hT.out (by decide) hBs hKo HKL.out hkB hr6 hBd.out.2.1 (by have := hBd.out.1; have := HTR.out; have := HN.out; omega) (by have := hBd.out.2.2; have := HTS.out; have := HQ.out; omega))
          have HRR := hide hr
          clear hr hc hKo hkB
          go_wp2_with fail
          refine HTA.out.mono ?_
          rintro e w5 ⟨rfl, A4, c4, hT4, u⟩
          have hIB5 := hIB.out.stay u (fun hm => tape_bld hT.out hIB.out hm) (fun k hk hm => tape_buf hT.out hIB.out k hk hm)
          obtain ⟨st, hst⟩ : ∃ x, storedS ks Tk r.data.toList = x := ⟨_, rfl⟩
          rw [hst]
          have hU5 : Upd [] w w5 := hU.out.trans u (fun x hx => .inr (tape_ge hT.out (by have := HBB.out; omega) x hx))
          have hstl : st.length = (putStrS r.data.toList).length + 33 := by rw [← hst]; unfold storedS; simp only [List.length_cons, List.length_append, chainS_length]
          have hpl : (putStrS r.data.toList).length ≤ 65545 := by unfold putStrS; rw [List.length_append]; have h1 : r.data.toList.length = r.size := Lib.size_eq r ▸ rfl; have h2 := putS_len (r.data.toList.length : Int) (by omega) (by omega); omega
          have HW := hide (bld_write B bb pp v (Lib.byteCells out) ⟨st.toArray⟩ w5 hIB5 (by rw [Lib.byteCells_length]; show out.length + st.toArray.size ≤ _; rw [List.size_toArray]; have := hBd.out.2.2.2.1; have : k * 65700 ≤ 1000 * 65700 := Nat.mul_le_mul_right _ (by omega); omega) (by have := u.size; omega))
          have HADK := hide (show addAll ks T (l.take (k + 1)) = (Tk.add ks r.data.toList, out ++ st) by rw [List.take_add_one, HRR.out, Option.toList_some, addAll_snoc, hAd.out, ← hst])
          have HB2 := hide (show (Tk.add ks r.data.toList).recs.length ≤ N + (k + 1) ∧ (Tk.add ks r.data.toList).head.length ≤ 1000 ∧ (Tk.add ks r.data.toList).size = q + (out ++ st).length ∧ (out ++ st).length ≤ (k + 1) * 65700 ∧ (0 < k + 1 → 0 < (out ++ st).length) from ⟨by unfold TapeS.add; simp only [List.length_append, List.length_singleton]; have := hBd.out.1; omega, by unfold TapeS.add; simp only [chainS_length]; omega, by unfold TapeS.add; simp only [List.length_append]; have := hBd.out.2.2.1; omega, by rw [List.length_append, Nat.add_mul]; have := hBd.out.2.2.2.1; omega, fun _ => by rw [List.length_append]; omega⟩)
          have HT4 := hide hT4
          have HU5 := hide hU5
          have HI5 := hide hIB5
          have HIN := hide (show w5.heap.size = w5.heap.size from rfl)
          clear hT4 hU5 hIB5 u hst hstl hpl hrc
          unfold strV
          go_wp2_with fail
          refine HW.out.mono ?_
          rintro e w6 ⟨rfl, v', hI6, u⟩
          have hT6 := HT4.out.stay u (bld_tape HT4.out HI5.out) (fun k hk hm => bld_row HT4.out HI5.out k hk hm)
          have hU6 : Upd [] w w6 := HU5.out.trans u (fun x hx => .inr (bld_ge HI5.out (by have := HBB.out; omega) x hx))
          have hI6b : IsB w6 B bb (.pointer (some ⟨bb, 0, none⟩)) v' (Lib.byteCells (out ++ st)) := by
            rw [strCells_lib] at hI6
            have e : Lib.byteCells out ++ Lib.byteCells (⟨st.toArray⟩ : ByteArray).data.toList = Lib.byteCells (out ++ st) := by simp [Lib.byteCells]
            rw [e] at hI6
            exact hI6
          have HT6 := hide hT6
          have HU6 := hide hU6
          have HI6 := hide hI6b
          clear hI6b
          clear hT6 hU6 hI6 u
          go_wp2_with fail
          go_roundw
          case rel => exact ⟨k + 1, _, out ++ st, A4, c4, _, v', by omega, by go_num, HADK, HT6, HI6, HU6, HB2⟩
          case measure => simp [intOf] <;> omega
        obtain rfl : k = n := by omega
        have hki : ¬ (k : Int) < k := by omega
        have HADK := hide (show addAll ks T l = (Tk, out) by have h9 := hAd.out; rwa [List.take_of_length_le (by have := HL.out; omega)] at h9)
        have HTS2 := HTS.out
        by_cases hn0 : k = 0
        case pos =>
          have hl0 : l = [] := by have h9 := HL.out; rw [hn0] at h9; exact List.eq_nil_of_length_eq_zero h9
          have hTk : Tk = T ∧ out = [] := by have h9 := HADK.out; rw [hl0] at h9; unfold addAll at h9; simp only [List.foldl_nil, Prod.mk.injEq] at h9; exact ⟨h9.1.symm, h9.2.symm⟩
          obtain ⟨rfl, rfl⟩ := hTk
          have HE := hide (show appendS ks Tk D false l = (Tk, D, false, 0) by unfold appendS; rw [if_neg (by rw [HLN.out]; simp), HADK.out]; simp)
          have HBS := hide (Tryz.Builder_String_any B bb [] wo (bld_lib hIB.out) (by rw [← HBB.out]; exact hU.out.size))
          clear hl0 hn0
          go_wp2_with fail
          refine HBS.out.mono ?_
          rintro e w7 ⟨rfl, hb7⟩
          have hU7 : Upd [] w w7 := (Upd.refl [] w).below (by rw [HBB.out]; exact (hU.out.toBelow (by have := HBB.out; omega) (by simp)).trans hb7)
          have HRO := hide (room_any base jb g A c Tk false w7 (HJ.out.upd0 hU7) (HD.out.upd hU7 (by simp)) HTS2.1)
          have HU7 := hide hU7
          clear hb7 hU7
          go_wp2_with fail
          refine HRO.out.mono ?_
          rintro e w8 ⟨rfl, u8⟩
          have HU8 := hide (HU7.out.trans u8 (by simp))
          clear u8
          obtain ⟨rm, hrm⟩ : ∃ x, D.sure.length - Tk.size = x := ⟨_, rfl⟩
          rw [hrm]
          clear hrm
          have hrm0 : (0 : Int) ≤ (rm : Int) := by omega
          go_wp2_with fail
          go_ret
          unfold AppendPost
          rw [HE.out]
          exact ⟨rfl, A, c, F, HJ.out.upd0 HU8.out, HD.out.upd HU8.out (by simp), HU8.out.mono (by simp), fun k hk => .inl hk, fun k hk => .inl hk, HDJ.out⟩
        have hout : 0 < out.length := hBd.out.2.2.2.2 (by omega)
        obtain ⟨ch, t, rfl⟩ : ∃ ch t, out = ch :: t := by
          cases out with
          | nil => simp at hout
          | cons ch t => exact ⟨ch, t, rfl⟩
        have HBS := hide (bld_string B bb pp v (ch :: t) wo hIB.out (by simp))
        clear hn0 hout
        go_wp2_with fail
        refine HBS.out.mono ?_
        rintro e w7 ⟨rfl, u7⟩
        have hT7 := hT.out.stay u7 (fun hm => bld_tape hT.out hIB.out (List.mem_cons_of_mem _ hm)) (fun k hk hm => bld_row hT.out hIB.out k hk (List.mem_cons_of_mem _ hm))
        have hU7 : Upd [] w w7 := hU.out.trans u7 (fun x hx => .inr (bld_ge hIB.out (by have := HBB.out; omega) x (List.mem_cons_of_mem _ hx)))
        have HRO := hide (room_any base jb g A c T false w7 (HJ.out.upd0 hU7) (HD.out.upd hU7 (by simp)) HTS2.1)
        have HU7 := hide hU7
        have HT7 := hide hT7
        clear u7 hU7 hT7
        obtain ⟨ob, hob⟩ : ∃ x : ByteArray, ⟨(ch :: t).toArray⟩ = x := ⟨_, rfl⟩
        rw [hob]
        obtain ⟨ol, hol⟩ : ∃ x, ob.size = x := ⟨_, rfl⟩
        have holl : ol = t.length + 1 := by rw [← hol, ← hob]; simp [ByteArray.size]
        have HOB := hide hob
        have hobl : ob.data.toList = ch :: t := by rw [← hob]
        have HOBL := hide hobl
        have HOLL := hide holl
        clear hob hobl holl
        obtain ⟨Ns, hNs⟩ : ∃ x, D.sure.length = x := ⟨_, rfl⟩
        have HNs := hide hNs
        rw [hNs, HQ.out] at HRO
        have hqNs : q ≤ Ns ∧ Ns ≤ 4194304 := by have := HTS2; have := HQ.out; omega
        clear hNs HTS2
        go_wp2_with fail
        refine HRO.out.mono ?_
        rintro e w8 ⟨rfl, u8⟩
        have HU8 := hide (HU7.out.trans u8 (by simp))
        have HT8 := hide (HT7.out.upd0 u8)
        clear u8
        obtain ⟨rm, hrm⟩ : ∃ x, Ns - q = x := ⟨_, rfl⟩
        rw [hrm]
        have HRM := hide hrm
        clear hrm
        by_cases hfit : rm < ol
        case pos =>
          have HE := hide (show appendS ks T D false l = (T, D, false, 341) by unfold appendS; rw [if_neg (by rw [HLN.out]; simp), HADK.out, if_pos (by rw [HNs.out, HQ.out, HRM.out, List.length_cons]; have := HOLL.out; omega)])
          have hfi : (rm : Int) < (ol : Int) := by omega
          go_wp2_with fail
          go_ret
          unfold AppendPost
          rw [HE.out]
          exact ⟨rfl, A, c, F, HJ.out.upd0 HU8.out, HD.out.upd HU8.out (by simp), HU8.out.mono (by simp), fun k hk => .inl hk, fun k hk => .inl hk, HDJ.out⟩
        have hfi : ¬ (rm : Int) < (ol : Int) := by omega
        have hne : ob.toList.isEmpty = false := by rw [ByteArray.toList_eq, HOBL.out]; rfl
        have HJ8 := hide (HJ.out.upd0 HU8.out)
        have HJB8 := hide (keepB HJB.out HU8.out)
        have HD8 := hide (HD.out.upd HU8.out (by simp))
        go_upto_region 19 with fail
        have hmf : ∀ (fn : Fn) (first cap : Array Value) (w : World), (Instr.makeFunc fn first cap).run Tryz.prog w = .ok (.func fn first cap) w := fun _ _ _ _ => rfl
        have hq1 : IntKind.i64.wrap ((q : Int) + 1) = ((q + 1 : Nat) : Int) := by rw [Go.IntWalk.i64_in _ (by omega)]; omega
        have hsl := fun W => slice_str_l (P := Tryz.prog) W Tryz.underlying9 ob HOBL.out 1 (by have := HOLL.out; omega) (1 : Int) rfl
        have hsh := fun W => slice_str_h (P := Tryz.prog) W Tryz.underlying9 ob HOBL.out 1 (by have := HOLL.out; omega) (1 : Int) rfl
        rw [show (ch :: t).drop 1 = t from rfl] at hsl
        rw [show (ch :: t).take 1 = [ch] from rfl] at hsh
        obtain ⟨tb, htb⟩ : ∃ x : ByteArray, ⟨t.toArray⟩ = x := ⟨_, rfl⟩
        obtain ⟨cb, hcb⟩ : ∃ x : ByteArray, ⟨[ch].toArray⟩ = x := ⟨_, rfl⟩
        rw [htb] at hsl
        rw [hcb] at hsh
        have HTB := hide htb
        have HCB := hide hcb
        clear htb hcb
        refine wp_region_held_drew (S := (fun w' => w'.cell? ⟨jb, 2, none⟩ = some (.int .i64 (q : Int)) ∧ w'.cell? ⟨jb, 3, none⟩ = some (.pointer (some ⟨g, 0, none⟩)))) (by kernel_rfl) (by exact ⟨(HJB8.out.cell 2).trans rfl, (HJB8.out.cell 3).trans rfl⟩) (fun hHeld => ?_)
        obtain ⟨wd, hw⟩ : ∃ x, w8.drew = x := ⟨_, rfl⟩
        have u : Upd [] w8 wd := by rw [← hw]; exact (Upd.refl [] _).drew
        rw [hw] at hHeld ⊢
        clear hw
        replace HJ8 := hide (HJ8.out.upd0 u)
        replace HJB8 := hide (keepB HJB8.out u)
        replace HD8 := hide (HD8.out.upd u (by simp))
        replace HU8 := hide (HU8.out.trans u (by simp))
        replace HT8 := hide (HT8.out.upd0 u)
        clear u
        refine wpAnyH_take (i := 0) (oi := ?oi0M2) (v := ?v0M2) ?oi0_0M2 (by kernel_rfl) ?ff0M2 ?rr0M2 ?hq0M2 (Or.inl ⟨?hw0M2, ?hy0M2⟩) (by assumption) ?rest0M2
        case oi0_0M2 => conv => lhs; whnf; arg 1; whnf
        case hq0M2 => exact fun _ _ _ h => h
        case ff0M2 | rr0M2 => kernel_rfl
        case hw0M2 => rfl
        case hy0M2 => intro w hSw; (try dsimp only at hSw); first | (go_simp; done) | (go_simp; with_reducible rfl)
        try simp only [Act.put, List.setIfInBounds_toArray, List.set_cons_zero, List.set_cons_succ]
        refine wpAnyH_take (i := 1) (oi := ?oi1M2) (v := ?v1M2) ?oi0_1M2 (by kernel_rfl) ?ff1M2 ?rr1M2 ?hq1M2 (Or.inl ⟨?hw1M2, ?hy1M2⟩) (by assumption) ?rest1M2
        case oi0_1M2 => conv => lhs; whnf; arg 1; whnf
        case hq1M2 => exact fun _ _ _ h => h
        case ff1M2 | rr1M2 => kernel_rfl
        case hw1M2 => rfl
        case hy1M2 => intro w hSw; (try dsimp only at hSw); first | (go_simp; done) | (go_simp; with_reducible rfl)
        try simp only [Act.put, List.setIfInBounds_toArray, List.set_cons_zero, List.set_cons_succ]
        refine wpAnyH_take (i := 2) (oi := ?oi2M2) (v := ?v2M2) ?oi0_2M2 (by kernel_rfl) ?ff2M2 ?rr2M2 ?hq2M2 (Or.inl ⟨?hw2M2, ?hy2M2⟩) (by assumption) ?rest2M2
        case oi0_2M2 => conv => lhs; whnf; arg 1; whnf
        case hq2M2 => exact fun _ _ _ h => h
        case ff2M2 | rr2M2 => kernel_rfl
        case hw2M2 => rfl
        case hy2M2 => intro w hSw; (try dsimp only at hSw); first | (go_simp; done) | (go_simp; with_reducible rfl)
        try simp only [Act.put, List.setIfInBounds_toArray, List.set_cons_zero, List.set_cons_succ]
        refine wpAnyH_take (i := 3) (oi := ?oi3M2) (v := ?v3M2) ?oi0_3M2 (by kernel_rfl) ?ff3M2 ?rr3M2 ?hq3M2 (Or.inl ⟨?hw3M2, ?hy3M2⟩) (by assumption) ?rest3M2
        case oi0_3M2 => conv => lhs; whnf; arg 1; whnf
        case hq3M2 => exact fun _ _ _ h => h
        case ff3M2 | rr3M2 => kernel_rfl
        case hw3M2 => rfl
        case hy3M2 => intro w hSw; (try dsimp only at hSw); first | (go_simp; done) | (go_simp; with_reducible rfl)
        try simp only [Act.put, List.setIfInBounds_toArray, List.set_cons_zero, List.set_cons_succ]
        refine wpAnyH_take (i := 4) (oi := ?oi4M2) (v := ?v4M2) ?oi0_4M2 (by kernel_rfl) ?ff4M2 ?rr4M2 ?hq4M2 (Or.inl ⟨?hw4M2, ?hy4M2⟩) (by assumption) ?rest4M2
        case oi0_4M2 => conv => lhs; whnf; arg 1; whnf
        case hq4M2 => exact fun _ _ _ h => h
        case ff4M2 | rr4M2 => kernel_rfl
        case hw4M2 => rfl
        case hy4M2 => intro w hSw; (try dsimp only at hSw); first | (go_simp; done) | (go_simp; with_reducible rfl)
        try simp only [Act.put, List.setIfInBounds_toArray, List.set_cons_zero, List.set_cons_succ]
        refine wpAnyH_take (i := 5) (oi := ?oi5M2) (v := ?v5M2) ?oi0_5M2 (by kernel_rfl) ?ff5M2 ?rr5M2 ?hq5M2 (Or.inl ⟨?hw5M2, ?hy5M2⟩) (by assumption) ?rest5M2
        case oi0_5M2 => conv => lhs; whnf; arg 1; whnf
        case hq5M2 => exact fun _ _ _ h => h
        case ff5M2 | rr5M2 => kernel_rfl
        case hw5M2 => rfl
        case hy5M2 => intro w hSw; (try dsimp only at hSw); first | (go_simp; done) | (go_simp; with_reducible rfl)
        try simp only [Act.put, List.setIfInBounds_toArray, List.set_cons_zero, List.set_cons_succ]
        refine wpAnyH_take (i := 6) (oi := ?oi6M2) (v := ?v6M2) ?oi0_6M2 (by kernel_rfl) ?ff6M2 ?rr6M2 ?hq6M2 (Or.inl ⟨?hw6M2, ?hy6M2⟩) (by assumption) ?rest6M2
        case oi0_6M2 => conv => lhs; whnf; arg 1; whnf
        case hq6M2 => exact fun _ _ _ h => h
        case ff6M2 | rr6M2 => kernel_rfl
        case hw6M2 => rfl
        case hy6M2 => intro w hSw; (try dsimp only at hSw); first | (go_simp; done) | (go_simp; with_reducible rfl)
        try simp only [Act.put, List.setIfInBounds_toArray, List.set_cons_zero, List.set_cons_succ]
        refine wpAnyH_take (i := 7) (oi := ?oi7M2) (v := ?v7M2) ?oi0_7M2 (by kernel_rfl) ?ff7M2 ?rr7M2 ?hq7M2 (Or.inl ⟨?hw7M2, ?hy7M2⟩) (by assumption) ?rest7M2
        case oi0_7M2 => conv => lhs; whnf; arg 1; whnf
        case hq7M2 => exact fun _ _ _ h => h
        case ff7M2 | rr7M2 => kernel_rfl
        case hw7M2 => rfl
        case hy7M2 => intro w hSw; (try dsimp only at hSw); first | (go_simp; done) | (go_simp; with_reducible rfl)
        try simp only [Act.put, List.setIfInBounds_toArray, List.set_cons_zero, List.set_cons_succ]
        refine wpAnyH_take (i := 8) (oi := ?oi8M2) (v := ?v8M2) ?oi0_8M2 (by kernel_rfl) ?ff8M2 ?rr8M2 ?hq8M2 (Or.inl ⟨?hw8M2, ?hy8M2⟩) (by assumption) ?rest8M2
        case oi0_8M2 => conv => lhs; whnf; arg 1; whnf
        case hq8M2 => exact fun _ _ _ h => h
        case ff8M2 | rr8M2 => kernel_rfl
        case hw8M2 => rfl
        case hy8M2 => intro w hSw; (try dsimp only at hSw); first | (go_simp; done) | (go_simp; with_reducible rfl)
        try simp only [Act.put, List.setIfInBounds_toArray, List.set_cons_zero, List.set_cons_succ]
        refine wpAnyH_take (i := 10) (oi := ?oi10M3) (v := ?v10M3) ?oi0_10M3 (by kernel_rfl) ?ff10M3 ?rr10M3 ?hq10M3 (Or.inl ⟨?hw10M3, ?hy10M3⟩) (by assumption) ?rest10M3
        case oi0_10M3 => conv => lhs; whnf; arg 1; whnf
        case hq10M3 => exact fun _ _ _ h => h
        case ff10M3 | rr10M3 => kernel_rfl
        case hw10M3 => rfl
        case hy10M3 => intro w hSw; (try dsimp only at hSw); first | (go_simp; done) | (go_simp; with_reducible rfl)
        try simp only [Act.put, List.setIfInBounds_toArray, List.set_cons_zero, List.set_cons_succ]
        refine wpAnyH_take (i := 11) (oi := ?oi11M3) (v := ?v11M3) ?oi0_11M3 (by kernel_rfl) ?ff11M3 ?rr11M3 ?hq11M3 (Or.inl ⟨?hw11M3, ?hy11M3⟩) (by assumption) ?rest11M3
        case oi0_11M3 => conv => lhs; whnf; arg 1; whnf
        case hq11M3 => exact fun _ _ _ h => h
        case ff11M3 | rr11M3 => kernel_rfl
        case hw11M3 => rfl
        case hy11M3 => intro w hSw; (try dsimp only at hSw); first | (go_simp; done) | (go_simp; with_reducible rfl)
        try simp only [Act.put, List.setIfInBounds_toArray, List.set_cons_zero, List.set_cons_succ]
        refine wpAnyH_take (i := 12) (oi := ?oi12M3) (v := ?v12M3) ?oi0_12M3 (by kernel_rfl) ?ff12M3 ?rr12M3 ?hq12M3 (Or.inl ⟨?hw12M3, ?hy12M3⟩) (by assumption) ?rest12M3
        case oi0_12M3 => conv => lhs; whnf; arg 1; whnf
        case hq12M3 => exact fun _ _ _ h => h
        case ff12M3 | rr12M3 => kernel_rfl
        case hw12M3 => rfl
        case hy12M3 => intro w hSw; (try dsimp only at hSw); first | (go_simp; done) | (go_simp; with_reducible rfl)
        try simp only [Act.put, List.setIfInBounds_toArray, List.set_cons_zero, List.set_cons_succ]
        refine wpAnyH_take (i := 13) (oi := ?oi13M3) (v := ?v13M3) ?oi0_13M3 (by kernel_rfl) ?ff13M3 ?rr13M3 ?hq13M3 (Or.inl ⟨?hw13M3, ?hy13M3⟩) (by assumption) ?rest13M3
        case oi0_13M3 => conv => lhs; whnf; arg 1; whnf
        case hq13M3 => exact fun _ _ _ h => h
        case ff13M3 | rr13M3 => kernel_rfl
        case hw13M3 => rfl
        case hy13M3 => intro w hSw; (try dsimp only at hSw); first | (go_simp; done) | (go_simp; with_reducible rfl)
        try simp only [Act.put, List.setIfInBounds_toArray, List.set_cons_zero, List.set_cons_succ]
        refine wpAnyH_take (i := 14) (oi := ?oi14M3) (v := ?v14M3) ?oi0_14M3 (by kernel_rfl) ?ff14M3 ?rr14M3 ?hq14M3 (Or.inl ⟨?hw14M3, ?hy14M3⟩) (by assumption) ?rest14M3
        case oi0_14M3 => conv => lhs; whnf; arg 1; whnf
        case hq14M3 => exact fun _ _ _ h => h
        case ff14M3 | rr14M3 => kernel_rfl
        case hw14M3 => rfl
        case hy14M3 => intro w hSw; (try dsimp only at hSw); first | (go_simp; done) | (go_simp; with_reducible rfl)
        try simp only [Act.put, List.setIfInBounds_toArray, List.set_cons_zero, List.set_cons_succ]
        refine wpAnyH_take (i := 15) (oi := ?oi15M3) (v := ?v15M3) ?oi0_15M3 (by kernel_rfl) ?ff15M3 ?rr15M3 ?hq15M3 (Or.inl ⟨?hw15M3, ?hy15M3⟩) (by assumption) ?rest15M3
        case oi0_15M3 => conv => lhs; whnf; arg 1; whnf
        case hq15M3 => exact fun _ _ _ h => h
        case ff15M3 | rr15M3 => kernel_rfl
        case hw15M3 => rfl
        case hy15M3 => intro w hSw; (try dsimp only at hSw); first | (go_simp; done) | (go_simp; with_reducible rfl)
        try simp only [Act.put, List.setIfInBounds_toArray, List.set_cons_zero, List.set_cons_succ]
        refine wpAnyH_take (i := 16) (oi := ?oi16M3) (v := ?v16M3) ?oi0_16M3 (by kernel_rfl) ?ff16M3 ?rr16M3 ?hq16M3 (Or.inl ⟨?hw16M3, ?hy16M3⟩) (by assumption) ?rest16M3
        case oi0_16M3 => conv => lhs; whnf; arg 1; whnf
        case hq16M3 => exact fun _ _ _ h => h
        case ff16M3 | rr16M3 => kernel_rfl
        case hw16M3 => rfl
        case hy16M3 => intro w hSw; (try dsimp only at hSw); first | (go_simp; done) | (go_simp; with_reducible rfl)
        try simp only [Act.put, List.setIfInBounds_toArray, List.set_cons_zero, List.set_cons_succ]
        refine wpAnyH_take (i := 17) (oi := ?oi17M3) (v := ?v17M3) ?oi0_17M3 (by kernel_rfl) ?ff17M3 ?rr17M3 ?hq17M3 (Or.inl ⟨?hw17M3, ?hy17M3⟩) (by assumption) ?rest17M3
        case oi0_17M3 => conv => lhs; whnf; arg 1; whnf
        case hq17M3 => exact fun _ _ _ h => h
        case ff17M3 | rr17M3 => kernel_rfl
        case hw17M3 => rfl
        case hy17M3 => intro w hSw; (try dsimp only at hSw); first | (go_simp; done) | (go_simp; with_reducible rfl)
        try simp only [Act.put, List.setIfInBounds_toArray, List.set_cons_zero, List.set_cons_succ]
        refine wpAnyH_take (i := 18) (oi := ?oi18M3) (v := ?v18M3) ?oi0_18M3 (by kernel_rfl) ?ff18M3 ?rr18M3 ?hq18M3 (Or.inl ⟨?hw18M3, ?hy18M3⟩) (by assumption) ?rest18M3
        case oi0_18M3 => conv => lhs; whnf; arg 1; whnf
        case hq18M3 => exact fun _ _ _ h => h
        case ff18M3 | rr18M3 => kernel_rfl
        case hw18M3 => rfl
        case hy18M3 => intro w hSw; (try dsimp only at hSw); first | (go_simp; done) | (go_simp; with_reducible rfl)
        try simp only [Act.put, List.setIfInBounds_toArray, List.set_cons_zero, List.set_cons_succ]
        refine wpAnyH_take (i := 19) (oi := ?oi19M3) (v := ?v19M3) ?oi0_19M3 (by kernel_rfl) ?ff19M3 ?rr19M3 ?hq19M3 (Or.inl ⟨?hw19M3, ?hy19M3⟩) (by assumption) ?rest19M3
        case oi0_19M3 => conv => lhs; whnf; arg 1; whnf
        case hq19M3 => exact fun _ _ _ h => h
        case ff19M3 | rr19M3 => kernel_rfl
        case hw19M3 => rfl
        case hy19M3 => intro w hSw; (try dsimp only at hSw); first | (go_simp; done) | (go_simp; with_reducible rfl)
        try simp only [Act.put, List.setIfInBounds_toArray, List.set_cons_zero, List.set_cons_succ]
        refine wpAnyH_take (i := 20) (oi := ?oi20M3) (v := ?v20M3) ?oi0_20M3 (by kernel_rfl) ?ff20M3 ?rr20M3 ?hq20M3 (Or.inl ⟨?hw20M3, ?hy20M3⟩) (by assumption) ?rest20M3
        case oi0_20M3 => conv => lhs; whnf; arg 1; whnf
        case hq20M3 => exact fun _ _ _ h => h
        case ff20M3 | rr20M3 => kernel_rfl
        case hw20M3 => rfl
        case hy20M3 => intro w hSw; (try dsimp only at hSw); first | (go_simp; done) | (go_simp; with_reducible rfl)
        try simp only [Act.put, List.setIfInBounds_toArray, List.set_cons_zero, List.set_cons_succ]
        refine wpAnyH_take (i := 21) (oi := ?oi21M3) (v := ?v21M3) ?oi0_21M3 (by kernel_rfl) ?ff21M3 ?rr21M3 ?hq21M3 (Or.inl ⟨?hw21M3, ?hy21M3⟩) (by assumption) ?rest21M3
        case oi0_21M3 => conv => lhs; whnf; arg 1; whnf
        case hq21M3 => exact fun _ _ _ h => h
        case ff21M3 | rr21M3 => kernel_rfl
        case hw21M3 => rfl
        case hy21M3 => intro w hSw; (try dsimp only at hSw); first | (go_simp; done) | (go_simp; with_reducible rfl)
        try simp only [Act.put, List.setIfInBounds_toArray, List.set_cons_zero, List.set_cons_succ]
        refine wpAnyH_take (i := 22) (oi := ?oi22M3) (v := ?v22M3) ?oi0_22M3 (by kernel_rfl) ?ff22M3 ?rr22M3 ?hq22M3 (Or.inl ⟨?hw22M3, ?hy22M3⟩) (by assumption) ?rest22M3
        case oi0_22M3 => conv => lhs; whnf; arg 1; whnf
        case hq22M3 => exact fun _ _ _ h => h
        case ff22M3 | rr22M3 => kernel_rfl
        case hw22M3 => rfl
        case hy22M3 => intro w hSw; (try dsimp only at hSw); first | (go_simp; done) | (go_simp; with_reducible rfl)
        try simp only [Act.put, List.setIfInBounds_toArray, List.set_cons_zero, List.set_cons_succ]
        refine wpAnyH_take (i := 24) (oi := ?oi24M4) (v := ?v24M4) ?oi0_24M4 (by kernel_rfl) ?ff24M4 ?rr24M4 ?hq24M4 (Or.inl ⟨?hw24M4, ?hy24M4⟩) (by assumption) ?rest24M4
        case oi0_24M4 => conv => lhs; whnf; arg 1; whnf
        case hq24M4 => exact fun _ _ _ h => h
        case ff24M4 | rr24M4 => kernel_rfl
        case hw24M4 => rfl
        case hy24M4 => intro w hSw; (try dsimp only at hSw); first | (go_simp; done) | (go_simp; with_reducible rfl)
        try simp only [Act.put, List.setIfInBounds_toArray, List.set_cons_zero, List.set_cons_succ]
        refine wpAnyH_take (i := 25) (oi := ?oi25M4) (v := ?v25M4) ?oi0_25M4 (by kernel_rfl) ?ff25M4 ?rr25M4 ?hq25M4 (Or.inl ⟨?hw25M4, ?hy25M4⟩) (by assumption) ?rest25M4
        case oi0_25M4 => conv => lhs; whnf; arg 1; whnf
        case hq25M4 => exact fun _ _ _ h => h
        case ff25M4 | rr25M4 => kernel_rfl
        case hw25M4 => rfl
        case hy25M4 => intro w hSw; (try dsimp only at hSw); first | (go_simp; done) | (go_simp; with_reducible rfl)
        try simp only [Act.put, List.setIfInBounds_toArray, List.set_cons_zero, List.set_cons_succ]
        refine wpAnyH_take (i := 26) (oi := ?oi26M4) (v := ?v26M4) ?oi0_26M4 (by kernel_rfl) ?ff26M4 ?rr26M4 ?hq26M4 (Or.inl ⟨?hw26M4, ?hy26M4⟩) (by assumption) ?rest26M4
        case oi0_26M4 => conv => lhs; whnf; arg 1; whnf
        case hq26M4 => exact fun _ _ _ h => h
        case ff26M4 | rr26M4 => kernel_rfl
        case hw26M4 => rfl
        case hy26M4 => intro w hSw; (try dsimp only at hSw); first | (go_simp; done) | (go_simp; with_reducible rfl)
        try simp only [Act.put, List.setIfInBounds_toArray, List.set_cons_zero, List.set_cons_succ]
        refine wpAnyH_take (i := 27) (oi := ?oi27M4) (v := ?v27M4) ?oi0_27M4 (by kernel_rfl) ?ff27M4 ?rr27M4 ?hq27M4 (Or.inl ⟨?hw27M4, ?hy27M4⟩) (by assumption) ?rest27M4
        case oi0_27M4 => conv => lhs; whnf; arg 1; whnf
        case hq27M4 => exact fun _ _ _ h => h
        case ff27M4 | rr27M4 => kernel_rfl
        case hw27M4 => rfl
        case hy27M4 => intro w hSw; (try dsimp only at hSw); first | (go_simp; done) | (go_simp; with_reducible rfl)
        try simp only [Act.put, List.setIfInBounds_toArray, List.set_cons_zero, List.set_cons_succ]
        refine wpAnyH_take (i := 28) (oi := ?oi28M4) (v := ?v28M4) ?oi0_28M4 (by kernel_rfl) ?ff28M4 ?rr28M4 ?hq28M4 (Or.inl ⟨?hw28M4, ?hy28M4⟩) (by assumption) ?rest28M4
        case oi0_28M4 => conv => lhs; whnf; arg 1; whnf
        case hq28M4 => exact fun _ _ _ h => h
        case ff28M4 | rr28M4 => kernel_rfl
        case hw28M4 => rfl
        case hy28M4 => intro w hSw; (try dsimp only at hSw); first | (go_simp; done) | (go_simp; with_reducible rfl)
        try simp only [Act.put, List.setIfInBounds_toArray, List.set_cons_zero, List.set_cons_succ]
        have HG8 := hide (show w.heap.size ≤ wd.heap.size from HU8.out.size)
        refine wpAnyH_ready (rs := [9]) (by kernel_rfl) (by simp) (AllReadyH.cons (o := ?oiM5) ?oi0_M5 (fun K hK => ?_) AllReadyH.nil)
        case oi0_M5 => conv => lhs; whnf; arg 1; whnf
        go_simp
        go_at_call 41
        refine (writing_at jb g ((q + 1 : Nat) : Int) tb wd ((HJB8.out.cell 3).trans rfl)).mono ?_
        rintro e wa ⟨pj, rfl, hpj, u, hW⟩
        replace HJ8 := hide (HJ8.out.upd0 u)
        replace HJB8 := hide (keepB HJB8.out u)
        replace HD8 := hide (HD8.out.upd u (by simp))
        replace HU8 := hide (HU8.out.trans u (by simp))
        replace HT8 := hide (HT8.out.upd0 u)
        have HP_pj := hide hpj
        have HW_pj := hide hW
        clear u hW hpj
        (try dsimp only)
        refine hK.out _ _ (by exact ⟨(HJB8.out.cell 2).trans rfl, (HJB8.out.cell 3).trans rfl⟩) (fun hHeld => ?_)
        clear hK K
        try simp only [Act.put, List.setIfInBounds_toArray, List.set_cons_zero, List.set_cons_succ]
        have HGA := hide (show w.heap.size ≤ wa.heap.size from HU8.out.size)
        refine wpAnyH_ready (rs := [23]) (by kernel_rfl) (by simp) (AllReadyH.cons (o := ?oiM6) ?oi0_M6 (fun K hK => ?_) AllReadyH.nil)
        case oi0_M6 => conv => lhs; whnf; arg 1; whnf
        go_simp
        go_at_call 41
        refine (writing_at jb g (q : Int) cb wa ((HJB8.out.cell 3).trans rfl)).mono ?_
        rintro e wb ⟨pk, rfl, hpk, u, hW⟩
        replace HJ8 := hide (HJ8.out.upd0 u)
        replace HJB8 := hide (keepB HJB8.out u)
        replace HD8 := hide (HD8.out.upd u (by simp))
        replace HU8 := hide (HU8.out.trans u (by simp))
        replace HT8 := hide (HT8.out.upd0 u)
        replace HW_pj := hide (HW_pj.out.upd0 u)
        have HP_pk := hide hpk
        have HW_pk := hide hW
        clear u hW hpk
        (try dsimp only)
        refine hK.out _ _ (by exact ⟨(HJB8.out.cell 2).trans rfl, (HJB8.out.cell 3).trans rfl⟩) (fun hHeld => ?_)
        clear hK K
        try simp only [Act.put, List.setIfInBounds_toArray, List.set_cons_zero, List.set_cons_succ]
        have HGS := hide (show w.heap.size ≤ wb.heap.size from HU8.out.size)
        refine wpAnyH_ready (rs := [29]) (by kernel_rfl) (by simp) (AllReadyH.cons (o := ?oiM7) ?oi0_M7 (fun K hK => ?_) AllReadyH.nil)
        case oi0_M7 => conv => lhs; whnf; arg 1; whnf
        go_simp
        obtain ⟨wg, hw⟩ : ∃ x, wb.alloc (.cells #[.func (.func 72) #[] #[.pointer (some ⟨pj, 0, none⟩), .pointer (some ⟨pj + 1, 0, none⟩), .pointer (some ⟨pj + 2, 0, none⟩)], .func (.func 42) #[.pointer (some ⟨g, 0, none⟩)] #[], .func (.func 72) #[] #[.pointer (some ⟨pk, 0, none⟩), .pointer (some ⟨pk + 1, 0, none⟩), .pointer (some ⟨pk + 2, 0, none⟩)], .func (.func 42) #[.pointer (some ⟨g, 0, none⟩)] #[]] 85) = x := ⟨_, rfl⟩
        have u : Upd [] wb wg := by rw [← hw]; exact (Upd.refl [] _).alloc _
        have HG := hide (show Blk wg wb.heap.size 85 [.func (.func 72) #[] #[.pointer (some ⟨pj, 0, none⟩), .pointer (some ⟨pj + 1, 0, none⟩), .pointer (some ⟨pj + 2, 0, none⟩)], .func (.func 42) #[.pointer (some ⟨g, 0, none⟩)] #[], .func (.func 72) #[] #[.pointer (some ⟨pk, 0, none⟩), .pointer (some ⟨pk + 1, 0, none⟩), .pointer (some ⟨pk + 2, 0, none⟩)], .func (.func 42) #[.pointer (some ⟨g, 0, none⟩)] #[]] by rw [← hw]; exact Blk.new wb _ _)
        rw [hw]
        obtain ⟨gs, hgs⟩ : ∃ x, wb.heap.size = x := ⟨_, rfl⟩
        rw [hgs] at HG HGS ⊢
        clear hw hgs
        replace HJ8 := hide (HJ8.out.upd0 u)
        replace HJB8 := hide (keepB HJB8.out u)
        replace HD8 := hide (HD8.out.upd u (by simp))
        replace HU8 := hide (HU8.out.trans u (by simp))
        replace HT8 := hide (HT8.out.upd0 u)
        replace HW_pj := hide (HW_pj.out.upd0 u)
        replace HW_pk := hide (HW_pk.out.upd0 u)
        clear u
        (try dsimp only)
        refine hK.out _ _ (by exact ⟨(HJB8.out.cell 2).trans rfl, (HJB8.out.cell 3).trans rfl⟩) (fun hHeld => ?_)
        clear hK K
        try simp only [Act.put, List.setIfInBounds_toArray, List.set_cons_zero, List.set_cons_succ]
        refine wpAnyH_ready (rs := [30]) (by kernel_rfl) (by simp) (AllReadyH.cons (o := ?oiM8) ?oi0_M8 (fun K hK => ?_) AllReadyH.nil)
        case oi0_M8 => conv => lhs; whnf; arg 1; whnf
        go_simp
        go_at_call 40
        have hnF : ∀ x, w.heap.size ≤ x → x ∉ F := fun x hx h => absurd (HFL.out _ h) (by omega)
        have hjF : jb ∉ F := HDJ.out _ (by simp)
        refine (first_any [.write ((q + 1 : Nat) : Int) tb, .sync, .write (q : Int) cb, .sync] gs g 4 wg rfl (by decide) HD8.out (by have := HP.out; omega) HG.out.lt (hnF _ HGS.out) (fun k o ho => ?_)).mono ?_
        · match k, ho with
          | 0, ho => cases ho; exact ⟨pj, pj + 1, pj + 2, jb, (HG.out.cell 0).trans rfl, HW_pj.out, hnF _ (by have := HG8.out; have := HP_pj.out; omega), hnF _ (by have := HG8.out; have := HP_pj.out; omega), hnF _ (by have := HG8.out; have := HP_pj.out; omega), hjF⟩
          | 1, ho => cases ho; exact (HG.out.cell 1).trans rfl
          | 2, ho => cases ho; exact ⟨pk, pk + 1, pk + 2, jb, (HG.out.cell 2).trans rfl, HW_pk.out, hnF _ (by have := HGA.out; have := HP_pk.out; omega), hnF _ (by have := HGA.out; have := HP_pk.out; omega), hnF _ (by have := HGA.out; have := HP_pk.out; omega), hjF⟩
          | 3, ho => cases ho; exact (HG.out.cell 3).trans rfl
        rintro e w9 ⟨rfl, hm⟩
        obtain ⟨r, hr⟩ : ∃ r, runOps D [.write ((q + 1 : Nat) : Int) tb, .sync, .write (q : Int) cb, .sync] = r := ⟨_, rfl⟩
        rw [hr] at hm ⊢
        obtain ⟨F', hD9, hU9, hF9⟩ := hm
        have hAF : ∀ k, (A.map (·.block)) = some k → k ∉ F := fun k hk => HDJ.out _ (by simp [hk])
        have HJ9 := hide (HJ8.out.stay hU9 hjF hAF)
        have HJB9 := hide (HJB8.out.upd hU9 hjF)
        have HBF := hide (show B ∉ F from hnF _ (by have := HBB.out; omega))
        have HA3 := hide (show ∀ k, (A3.map (·.block)) = some k → w.heap.size ≤ k from fun k hk => tape_ge HT8.out (by have := HBB.out; omega) k (by simp [hk]))
        have HT9 := hide (HT8.out.stay hU9 HBF.out (fun k hk => hnF _ (HA3.out k hk)))
        have HD9 := hide hD9
        have HF9 := hide (show ∀ k ∈ F', k ∈ F ∨ w.heap.size ≤ k from fun k hk => (hF9 k hk).imp id (fun h => Nat.le_trans HU8.out.size h))
        have HF9B := hide (show ∀ k, k < wg.heap.size → k ∉ F → k ∉ F' from fun k h1 h2 hF => (hF9 k hF).elim h2 (by omega))
        have HSG := hide (show ∀ k, k = jb ∨ (A.map (·.block)) = some k ∨ (A3.map (·.block)) = some k → k < wg.heap.size from fun k hk => by
          rcases hk with rfl | hk | hk
          · exact HJB8.out.lt
          · exact it_own_lt HJ8.out.2.2 k (by rw [ownBlock_slice]; simpa using hk)
          · exact it_own_lt HT8.out.2.2 k (by rw [ownBlock_slice]; simpa using hk))
        have HU9 := hide ((HU8.out.mono (l' := F) (by simp)).trans hU9 (fun x hx => .inl hx))
        have HRR := hide (show runOps D [.write ((T.size : Int) + 1) ⟨t.toArray⟩, .sync, .write (T.size : Int) ⟨#[ch]⟩, .sync] = r by rw [HQ.out, HTB.out, show (⟨#[ch]⟩ : ByteArray) = ⟨[ch].toArray⟩ from rfl, HCB.out, ← Int.natCast_succ]; exact hr)
        have HNF := hide hnF
        have HJF := hide hjF
        have HAF := hide hAF
        clear hD9 hU9 hF9 hr hnF hjF hAF
        obtain ⟨er, her⟩ : ∃ x, r.2 = x := ⟨_, rfl⟩
        rw [her]
        (try dsimp only)
        refine hK.out _ _ (by exact ⟨(HJB9.out.cell 2).trans rfl, (HJB9.out.cell 3).trans rfl⟩) (fun hHeld => ?_)
        clear hK K
        try simp only [Act.put, List.setIfInBounds_toArray, List.set_cons_zero, List.set_cons_succ]
        refine wpAnyH_take (i := 31) (oi := ?oi31M9) (v := ?v31M9) ?oi0_31M9 (by kernel_rfl) ?ff31M9 ?rr31M9 ?hq31M9 (Or.inl ⟨?hw31M9, ?hy31M9⟩) (by assumption) ?rest31M9
        case oi0_31M9 => conv => lhs; whnf; arg 1; whnf
        case hq31M9 => exact fun _ _ _ h => h
        case ff31M9 | rr31M9 => kernel_rfl
        case hw31M9 => rfl
        case hy31M9 => intro w hSw; (try dsimp only at hSw); first | (go_simp; done) | (go_simp; with_reducible rfl)
        try simp only [Act.put, List.setIfInBounds_toArray, List.set_cons_zero, List.set_cons_succ]
        refine wpAnyH_done (by kernel_rfl) ?_ _
        have HFIT := hide (show ¬ D.sure.length - T.size < (ch :: t).length by rw [HNs.out, HQ.out, HRM.out, List.length_cons]; have := HOLL.out; omega)
        by_cases he0 : er = 0
        case neg =>
          have heb : ((er : Int) != 0) = true := by simp [he0]
          have HE := hide (show appendS ks T D false l = (T, r.1, true, er) by unfold appendS; rw [if_neg (by rw [HLN.out]; simp), HADK.out]; simp only; rw [if_neg HFIT.out, HRR.out, if_pos (by rw [her]; exact he0), her])
          clear he0 her
          have c4 : w9.cell? ⟨jb, 4, none⟩ = some (.bool false) := (HJB9.out.cell 4).trans rfl
          have f4 := HJB9.out.frozen 4
          go_wp2_with fail
          go_ret
          obtain ⟨wx, hw⟩ : ∃ x, w9.setCell ⟨jb, 4, none⟩ (.bool true) = x := ⟨_, rfl⟩
          rw [hw]
          have u : Upd [jb] w9 wx := by rw [← hw]; exact (Upd.refl _ _).setCell (.inl (by simp)) _
          have hOW := HJ9.out.2.2
          unfold AppendPost
          rw [HE.out]
          refine ⟨rfl, A, c, F', ⟨HJ9.out.1, ?_, own_kept hOW u (fun k hk => by simpa using own_blk_ne hOW HJB9.out (by decide) k hk)⟩, HD9.out.upd u (fun k hk hm => ?_), (HU9.out.mono (l' := jb :: F) (fun x hx => .inl (by simp [hx]))).trans u (fun x hx => .inl (by simp at hx; simp [hx])), HF9.out, fun k hk => .inl hk, fun k hk => ?_⟩
          · rw [← hw]; rw [HN.out, HQ.out]; exact HJB9.out.set_ 4 _
          · have : k = jb := by simpa using hm
            subst this
            exact HF9B.out k (HSG.out _ (.inl rfl)) HJF.out hk
          · refine HF9B.out k (HSG.out _ ?_) (HDJ.out k hk)
            rcases List.mem_cons.1 hk with h | h
            · exact .inl h
            · exact .inr (.inl (by simpa using h))
        have heb : ((er : Int) != 0) = false := by simp [he0]
        have HE := hide (show appendS ks T D false l = (Tk, r.1, false, 0) by unfold appendS; rw [if_neg (by rw [HLN.out]; simp), HADK.out]; simp only; rw [if_neg HFIT.out, HRR.out, if_neg (by rw [her]; simp [he0])])
        clear he0 her
        obtain ⟨N2, hN2⟩ : ∃ x, Tk.recs.length = x := ⟨_, rfl⟩
        obtain ⟨q2, hq2⟩ : ∃ x, Tk.size = x := ⟨_, rfl⟩
        have HBT := hide (show Blk w9 B 72 [.slice A3 N2 c3, .string ⟨Tk.head.toArray⟩, .int .i64 (q2 : Int)] by rw [← hN2, ← hq2]; exact HT9.out.2.1)
        have HN2 := hide hN2
        have HQ2 := hide hq2
        clear hN2 hq2
        have b0 : w9.cell? ⟨B, 0, none⟩ = some (.slice A3 N2 c3) := (HBT.out.cell 0).trans rfl
        have b1 : w9.cell? ⟨B, 1, none⟩ = some (.string ⟨Tk.head.toArray⟩) := (HBT.out.cell 1).trans rfl
        have b2 : w9.cell? ⟨B, 2, none⟩ = some (.int .i64 (q2 : Int)) := (HBT.out.cell 2).trans rfl
        have c0 : w9.cell? ⟨jb, 0, none⟩ = some (.slice A N c) := (HJB9.out.cell 0).trans rfl
        have f0 := HJB9.out.frozen 0
        have c1 : w9.cell? ⟨jb, 1, none⟩ = some (.string ⟨T.head.toArray⟩) := (HJB9.out.cell 1).trans rfl
        have f1 := HJB9.out.frozen 1
        have c2 : w9.cell? ⟨jb, 2, none⟩ = some (.int .i64 (q : Int)) := (HJB9.out.cell 2).trans rfl
        have f2 := HJB9.out.frozen 2
        go_wp2_with fail
        go_ret
        obtain ⟨wx, hw⟩ : ∃ x, ((w9.setCell ⟨jb, 0, none⟩ (.slice A3 N2 c3)).setCell ⟨jb, 1, none⟩ (.string ⟨Tk.head.toArray⟩)).setCell ⟨jb, 2, none⟩ (.int .i64 (q2 : Int)) = x := ⟨_, rfl⟩
        rw [hw]
        have u : Upd [jb] w9 wx := by rw [← hw]; exact (((Upd.refl _ _).setCell (.inl (by simp)) _).setCell (.inl (by simp)) _).setCell (.inl (by simp)) _
        have hOW := HT9.out.2.2
        have hBB : w.heap.size ≤ B := by have := HBB.out; omega
        have hbj : base ≤ jb ∧ jb < w.heap.size := ⟨HJ.out.1, HJB.out.lt⟩
        unfold AppendPost
        rw [HE.out]
        refine ⟨rfl, A3, c3, F', ⟨hbj.1, ?_, it_own_less (own_kept hOW u (fun k hk => by simpa using own_blk_ne hOW HJB9.out (by decide) k hk)) (by have := HBASE.out; omega)⟩, HD9.out.upd u (fun k hk hm => ?_), (HU9.out.mono (l' := jb :: F) (fun x hx => .inl (by simp [hx]))).trans u (fun x hx => .inl (by simp at hx; simp [hx])), HF9.out, fun k hk => .inr (HA3.out k (by simpa using hk)), fun k hk => ?_⟩
        · rw [← hw, HN2.out, HQ2.out]; exact ((HJB9.out.set_ 0 _).set_ 1 _).set_ 2 _
        · have : k = jb := by simpa using hm
          subst this
          exact HF9B.out k (HSG.out _ (.inl rfl)) HJF.out hk
        · rcases List.mem_cons.1 hk with h | h
          · subst h; exact HF9B.out k (HSG.out _ (.inl rfl)) HJF.out
          · have h3 : (A3.map (·.block)) = some k := by simpa using h
            exact HF9B.out k (HSG.out _ (.inr (.inr h3))) (HNF.out _ (HA3.out k h3))
end Go.Proofs.YtafjolibfbccbaaGreatDoor

namespace Go.Proofs.YtafjolibfbccbaaGreatDoor
open Go.RowKit
set_option maxRecDepth 100000
set_option maxHeartbeats 1000000

/-- Records one after the other: the tape behind them, and what is stored. -/
def addL (ks : List Int) (T : TapeS) (l : List (List UInt8)) : TapeS × List UInt8 := l.foldl (fun x r => (x.1.add ks r, x.2 ++ storedS ks x.1 r)) (T, [])
theorem addAll_L (ks : List Int) (T : TapeS) (l : List ByteArray) : addAll ks T l = addL ks T (l.map fun s => s.data.toList) := by unfold addAll addL; rw [List.foldl_map]
theorem addL_acc (ks : List Int) : ∀ (l : List (List UInt8)) (T : TapeS) (b : List UInt8), l.foldl (fun x r => (x.1.add ks r, x.2 ++ storedS ks x.1 r)) (T, b) = ((addL ks T l).1, b ++ (addL ks T l).2) := by
  intro l
  induction l with
  | nil => intro T b; simp [addL]
  | cons r l ih =>
    intro T b
    unfold addL
    rw [List.foldl_cons, List.foldl_cons, ih, ih (T.add ks r) ([] ++ storedS ks T r)]
    simp
theorem addL_cons (ks : List Int) (T : TapeS) (r : List UInt8) (l : List (List UInt8)) : addL ks T (r :: l) = ((addL ks (T.add ks r) l).1, storedS ks T r ++ (addL ks (T.add ks r) l).2) := by
  conv => lhs; unfold addL
  rw [List.foldl_cons, addL_acc]
  simp
theorem addL_append (ks : List Int) : ∀ (a b : List (List UInt8)) (T : TapeS), addL ks T (a ++ b) = ((addL ks (addL ks T a).1 b).1, (addL ks T a).2 ++ (addL ks (addL ks T a).1 b).2) := by
  intro a
  induction a with
  | nil => intro b T; simp [addL]
  | cons r a ih => intro b T; rw [List.cons_append, addL_cons, ih, addL_cons]; simp
theorem stored_length (ks : List Int) (T : TapeS) (r : List UInt8) : (storedS ks T r).length = (putStrS r).length + 33 := by
  unfold storedS
  simp only [List.length_cons, List.length_append, chainS_length]
theorem addL_size (ks : List Int) : ∀ (l : List (List UInt8)) (T : TapeS), (addL ks T l).1.size = T.size + (addL ks T l).2.length := by
  intro l
  induction l with
  | nil => intro T; simp [addL]
  | cons r l ih =>
    intro T
    rw [addL_cons]
    simp only [List.length_append, stored_length]
    rw [ih]
    unfold TapeS.add
    simp only
    omega
theorem addL_recs (ks : List Int) : ∀ (l : List (List UInt8)) (T : TapeS), (addL ks T l).1.recs = T.recs ++ l := by
  intro l
  induction l with
  | nil => intro T; simp [addL]
  | cons r l ih => intro T; rw [addL_cons]; simp only; rw [ih]; unfold TapeS.add; simp
theorem addL_head (ks : List Int) : ∀ (l : List (List UInt8)) (T : TapeS), T.head.length = 32 → (addL ks T l).1.head.length = 32 := by
  intro l
  induction l with
  | nil => intro T h; exact h
  | cons r l ih => intro T h; rw [addL_cons]; simp only; exact ih _ (by unfold TapeS.add; exact chainS_length _ _ _)
def lenL (l : List (List UInt8)) : Nat := (l.map fun r => 33 + (putStrS r).length).sum
theorem addL_len (ks : List Int) : ∀ (l : List (List UInt8)) (T : TapeS), (addL ks T l).2.length = lenL l := by
  intro l
  induction l with
  | nil => intro T; rfl
  | cons r l ih =>
    intro T
    rw [addL_cons]
    simp only [List.length_append, stored_length, ih]
    unfold lenL
    simp only [List.map_cons, List.sum_cons]
    omega
theorem lenL_append (a b : List (List UInt8)) : lenL (a ++ b) = lenL a + lenL b := by unfold lenL; rw [List.map_append, List.sum_append]

/-- A number that was put is read. -/
theorem intFrom_groups (bs : List UInt8) (a : Nat) : ∀ (z i z0 f : Nat) (rest : List UInt8), bs.drop (a + i) = (groupsS z).map (fun x => UInt8.ofNat (grpB x)) ++ rest → (groupsS z).length ≤ f → (i = 0 ∨ z ≠ 0) → -4611686018427387903 ≤ unzig (z0 + z * 2 ^ (7 * i)) →
    intFrom bs a f i z0 = (unzig (z0 + z * 2 ^ (7 * i)), ((a + i + (groupsS z).length : Nat) : Int), 0) := by
  intro z
  induction z using Nat.strongRecOn with
  | _ z ih =>
    intro i z0 f rest hd hf hi hu
    by_cases hz : z < 128
    · rw [groupsS_last hz] at hd hf ⊢
      simp only [List.map_cons, List.map_nil, List.length_singleton, List.singleton_append] at hd hf ⊢
      obtain ⟨f, rfl⟩ : ∃ g, f = g + 1 := ⟨f - 1, by omega⟩
      have hg : bs[a + i]? = some (UInt8.ofNat z) := by
        have h1 : (bs.drop (a + i))[0]? = some (UInt8.ofNat z) := by rw [hd]; rfl
        rwa [List.getElem?_drop, Nat.add_zero] at h1
      have ht : (UInt8.ofNat z).toNat = z := by rw [UInt8.toNat_ofNat']; omega
      rw [intFrom, hg]
      simp only [ht, Nat.mod_eq_of_lt hz]
      rw [if_neg (by omega), if_neg (by unfold intBad; omega)]
    · rw [groupsS_more hz] at hd hf ⊢
      simp only [List.map_cons, List.length_cons, List.cons_append] at hd hf ⊢
      obtain ⟨f, rfl⟩ : ∃ g, f = g + 1 := ⟨f - 1, by omega⟩
      have hgb : grpB (z % 128, false) = z % 128 + 128 := rfl
      have hg : bs[a + i]? = some (UInt8.ofNat (z % 128 + 128)) := by
        have h1 : (bs.drop (a + i))[0]? = some (UInt8.ofNat (z % 128 + 128)) := by rw [hd]; rfl
        rwa [List.getElem?_drop, Nat.add_zero] at h1
      have ht : (UInt8.ofNat (z % 128 + 128)).toNat = z % 128 + 128 := by rw [UInt8.toNat_ofNat']; omega
      have hd2 : bs.drop (a + (i + 1)) = (groupsS (z / 128)).map (fun x => UInt8.ofNat (grpB x)) ++ rest := by
        rw [← Nat.add_assoc, ← List.drop_drop, hd]; rfl
      have hm : z0 + (z % 128) * 2 ^ (7 * i) + (z / 128) * 2 ^ (7 * (i + 1)) = z0 + z * 2 ^ (7 * i) := by
        have h1 : 2 ^ (7 * (i + 1)) = 128 * 2 ^ (7 * i) := by rw [Nat.mul_add, Nat.pow_add, Nat.mul_comm]
        rw [h1, ← Nat.mul_assoc, Nat.add_assoc, ← Nat.add_mul]
        congr 2
        omega
      rw [intFrom, hg]
      simp only [ht, show (z % 128 + 128) % 128 = z % 128 by omega]
      rw [if_pos (by omega), ih (z / 128) (by omega) (i + 1) _ f rest hd2 (by omega) (.inr (by omega)) (by rw [hm]; exact hu), hm]
      congr 2
      omega
theorem groupsS_pos (z : Nat) : 0 < (groupsS z).length := by
  by_cases h : z < 128
  · rw [groupsS_last h]; simp
  · rw [groupsS_more h]; simp
theorem putS_length (n : Int) : (putS n).length = (groupsS (zigS n)).length := by unfold putS; rw [List.length_map]
theorem intS_put (bs : List UInt8) (a n : Nat) (rest : List UInt8) (hd : bs.drop a = putS (n : Int) ++ rest) (hn : n ≤ 65536) : intS bs a = ((n : Int), ((a + (putS (n : Int)).length : Nat) : Int), 0) := by
  have hz : zigS (n : Int) = 2 * n := by unfold zigS; rw [if_neg (by omega)]; omega
  have hu : unzig (2 * n) = (n : Int) := by unfold unzig; rw [if_pos (by omega)]; omega
  have hl : (groupsS (2 * n)).length ≤ 9 := groupsS_length 8 _ (by omega)
  have hla : a ≤ bs.length := by
    have h1 := congrArg List.length hd
    rw [List.length_drop, List.length_append, putS_length] at h1
    have := groupsS_pos (zigS (n : Int))
    omega
  unfold intS
  rw [if_neg (by omega)]
  have h := intFrom_groups bs a (2 * n) 0 0 9 rest (by rw [← hz]; exact hd) hl (.inl rfl) (by simp only [Nat.mul_zero, Nat.pow_zero, Nat.mul_one, Nat.zero_add]; rw [hu]; omega)
  rw [h, putS_length, hz]
  simp only [Nat.mul_zero, Nat.pow_zero, Nat.mul_one, Nat.zero_add, Nat.add_zero, hu]
theorem stringS_put (bs : List UInt8) (a : Nat) (r rest : List UInt8) (hd : bs.drop a = putStrS r ++ rest) (hr : r.length ≤ 65536) : stringS bs a = (r, ((a + (putStrS r).length : Nat) : Int), 0) := by
  unfold putStrS at hd ⊢
  rw [List.append_assoc] at hd
  have h := intS_put bs a r.length (r ++ rest) hd hr
  have hd2 : bs.drop (a + (putS (r.length : Int)).length) = r ++ rest := by rw [← List.drop_drop, hd, List.drop_left]
  have hla := congrArg List.length hd2
  rw [List.length_drop, List.length_append] at hla
  have hz : a + (putS (r.length : Int)).length ≤ bs.length := by
    have h1 := congrArg List.length hd
    rw [List.length_drop, List.length_append, List.length_append] at h1
    have : 0 < (putS (r.length : Int)).length := by rw [putS_length]; exact groupsS_pos _
    omega
  unfold stringS
  rw [h]
  simp only [ne_eq, not_true_eq_false, if_false, Int.toNat_natCast]
  rw [if_neg (by unfold strBad; omega), hd2, List.take_left, List.length_append]
  congr 2
  omega
theorem reload (ks : List Int) : ∀ (l : List (List UInt8)) (T : TapeS) (bs : List UInt8) (f k : Nat), bs.drop T.size = (addL ks T l).2 ++ List.replicate k 0 → (∀ r ∈ l, r.length ≤ 65536) → l.length < f → loadS ks bs f T = some (addL ks T l).1 := by
  intro l
  induction l with
  | nil =>
    intro T bs f k hd _ hf
    obtain ⟨f, rfl⟩ : ∃ g, f = g + 1 := ⟨f - 1, by omega⟩
    have h0 : bs[T.size]?.getD 0 = 0 := by
      have h1 : (bs.drop T.size)[0]? = (List.replicate k (0 : UInt8))[0]? := by rw [hd]; rfl
      rw [List.getElem?_drop, Nat.add_zero] at h1
      rw [h1]
      cases k <;> simp
    rw [loadS, if_neg (by rw [h0]; simp)]
    rfl
  | cons r l ih =>
    intro T bs f k hd hr hf
    obtain ⟨f, rfl⟩ : ∃ g, f = g + 1 := ⟨f - 1, by omega⟩
    rw [addL_cons] at hd ⊢
    simp only at hd ⊢
    have hsl := stored_length ks T r
    have hd1 : bs.drop T.size = storedS ks T r ++ ((addL ks (T.add ks r) l).2 ++ List.replicate k 0) := by rw [hd, List.append_assoc]
    have hlen := congrArg List.length hd1
    rw [List.length_drop, List.length_append, hsl] at hlen
    have hg : bs[T.size]? = some 1 := by
      have h1 : (bs.drop T.size)[0]? = some 1 := by rw [hd1]; rfl
      rwa [List.getElem?_drop, Nat.add_zero] at h1
    have hd2 : bs.drop (T.size + 1) = putStrS r ++ (chainS ks T.head r ++ ((addL ks (T.add ks r) l).2 ++ List.replicate k 0)) := by
      rw [← List.drop_drop, hd1]
      unfold storedS
      simp
    have hs := stringS_put bs (T.size + 1) r _ hd2 (hr r (by simp))
    rw [loadS, hs, if_pos ⟨by omega, by rw [hg]; simp⟩]
    simp only [Int.toNat_natCast]
    rw [if_pos ⟨hg, trivial, by omega, by
      rw [show T.size + 1 + (putStrS r).length + 32 - T.size = (storedS ks T r).length by rw [hsl]; omega, hd1, List.take_left]⟩]
    refine ih _ bs f k ?_ (fun x hx => hr x (by simp [hx])) (by simp only [List.length_cons] at hf; omega)
    have e : (T.add ks r).size = T.size + (storedS ks T r).length := by rw [hsl]; unfold TapeS.add; simp only; omega
    rw [e, ← List.drop_drop, hd1, List.drop_left]

/-- The tape of records on a new disk, and their bytes. -/
def tapeOf (ks : List Int) (l : List (List UInt8)) : TapeS := (addL ks tape0 l).1
def bytesOf (ks : List Int) (l : List (List UInt8)) : List UInt8 := (addL ks tape0 l).2
theorem tapeOf_size (ks : List Int) (l : List (List UInt8)) : (tapeOf ks l).size = (bytesOf ks l).length := by unfold tapeOf bytesOf; rw [addL_size]; simp [tape0]
theorem tapeOf_recs (ks : List Int) (l : List (List UInt8)) : (tapeOf ks l).recs = l := by unfold tapeOf; rw [addL_recs]; simp [tape0]
theorem tapeOf_head (ks : List Int) (l : List (List UInt8)) : (tapeOf ks l).head.length = 32 := addL_head ks l tape0 (by simp [tape0])
theorem bytesOf_length (ks : List Int) (l : List (List UInt8)) : (bytesOf ks l).length = lenL l := addL_len ks l tape0
theorem lenL_count : ∀ l : List (List UInt8), 33 * l.length ≤ lenL l := by
  intro l
  induction l with
  | nil => simp [lenL]
  | cons r l ih => unfold lenL at *; simp only [List.map_cons, List.sum_cons, List.length_cons]; omega
theorem tape0_of (ks : List Int) : tape0 = tapeOf ks [] := rfl
/-- A disk of n bytes, s at its beginning, all of it sure. -/
def diskOf (n : Nat) (s : List UInt8) : DiskS := { off := false, left := 0, sure := s ++ List.replicate (n - s.length) 0, vis := s ++ List.replicate (n - s.length) 0, pend := [] }
theorem fresh_of (n : Nat) : DiskS.fresh n = diskOf n [] := by unfold DiskS.fresh diskOf; simp
theorem reload_of (ks : List Int) (l : List (List UInt8)) (k : Nat) (bs : List UInt8) (hb : bs = bytesOf ks l ++ List.replicate k 0) (hr : ∀ r ∈ l, r.length ≤ 65536) : loadS ks bs (bs.length + 1) tape0 = some (tapeOf ks l) := by
  refine reload ks l tape0 bs _ k (by rw [hb]; rfl) hr ?_
  rw [hb, List.length_append, bytesOf_length]
  have := lenL_count l
  omega
theorem trim_zeros (k : Nat) : Lib.trimB (List.replicate k 0) 0 = [] := by
  unfold Lib.trimB Lib.trimRightB Lib.trimLeftB
  have h : ∀ k, (List.replicate k (0 : UInt8)).dropWhile (· == 0) = [] := fun k => by
    induction k with
    | zero => rfl
    | succ k ih => rw [List.replicate_succ, List.dropWhile_cons, if_pos (by simp), ih]
  simp [h]
theorem open_of (ks : List Int) (l : List (List UInt8)) (k : Nat) (D : DiskS) (ho : D.off = false) (hb : D.vis = bytesOf ks l ++ List.replicate k 0) (hr : ∀ r ∈ l, r.length ≤ 65536) : OpenS ks D = (some (tapeOf ks l), D, 0) := by
  unfold OpenS
  rw [if_neg (by rw [ho]; simp), reload_of ks l k D.vis hb hr]
  simp only
  rw [if_pos (by rw [hb, tapeOf_size, List.drop_left]; exact trim_zeros k)]
theorem open_bad (ks : List Int) (D : DiskS) (ho : D.off = false) (b : UInt8) (t : List UInt8) (hb : D.vis = b :: t) (h0 : b ≠ 0) (h1 : b ≠ 1) : OpenS ks D = (none, D, 342) := by
  have e : loadS ks D.vis (D.vis.length + 1) tape0 = none := by
    rw [loadS, hb, if_pos ⟨by simp [tape0], by simp [tape0, h0]⟩, if_neg (by simp [tape0, h1])]
  unfold OpenS
  rw [if_neg (by rw [ho]; simp), e]
theorem put_mid (a m c s : List UInt8) (h : m.length = s.length) : put (a ++ m ++ c) a.length s = a ++ s ++ c := by
  unfold put
  rw [List.append_assoc, List.take_left, ← h, ← List.drop_drop, List.drop_left, List.drop_left, List.append_assoc]
theorem write_on (D : DiskS) (a m c s : List UInt8) (x : Int) (hx : x = (a.length : Int)) (ho : D.off = false) (hl : D.left = 0) (hv : D.vis = a ++ m ++ c) (hs : D.vis.length = D.sure.length) (hm : m.length = s.length) : D.write x s = ({ D with vis := a ++ s ++ c, pend := D.pend ++ [(a.length, s)] }, 0) := by
  subst hx
  unfold DiskS.write
  have hlen : D.sure.length = a.length + m.length + c.length := by rw [← hs, hv]; simp; omega
  rw [if_neg (by rw [ho]; simp), if_pos (by unfold inB; simp only [decide_eq_true_eq]; omega)]
  unfold DiskS.written DiskS.used
  simp only [hl, if_true, Int.toNat_natCast]
  rw [hv, put_mid a m c s hm]
theorem sync_on (D : DiskS) (ho : D.off = false) : D.sync = ({ D with sure := D.vis, pend := [] }, 0) := by
  unfold DiskS.sync
  rw [if_neg (by rw [ho]; simp)]
  unfold DiskS.settled
  rfl
theorem runOps_cons (D D' : DiskS) (o : DOp) (l : List DOp) (h : o.run D = (D', 0)) : runOps D (o :: l) = runOps D' l := by
  rw [runOps_on (by rw [h]), h]
theorem append_run (n : Nat) (s t : List UInt8) (h : UInt8) (hn : s.length + t.length + 1 ≤ n) :
    runOps (diskOf n s) [.write ((s.length : Int) + 1) ⟨t.toArray⟩, .sync, .write (s.length : Int) ⟨#[h]⟩, .sync] = (diskOf n (s ++ h :: t), 0) := by
  have hz : List.replicate (n - s.length) (0 : UInt8) = [0] ++ List.replicate t.length 0 ++ List.replicate (n - s.length - t.length - 1) 0 := by
    rw [← List.replicate_one, List.replicate_append_replicate, List.replicate_append_replicate]
    congr 1
    omega
  have e1 := write_on (diskOf n s) (s ++ [0]) (List.replicate t.length 0) (List.replicate (n - s.length - t.length - 1) 0) t ((s.length : Int) + 1) (by simp) rfl rfl (by unfold diskOf; rw [hz]; simp) rfl (by simp)
  rw [runOps_cons _ _ _ _ (show DOp.run (diskOf n s) (.write ((s.length : Int) + 1) ⟨t.toArray⟩) = _ from e1)]
  rw [runOps_cons _ _ _ _ (show DOp.run _ .sync = _ from sync_on _ rfl)]
  have e2 := write_on { off := false, left := 0, sure := s ++ [0] ++ t ++ List.replicate (n - s.length - t.length - 1) 0, vis := s ++ [0] ++ t ++ List.replicate (n - s.length - t.length - 1) 0, pend := [] } s [0] (t ++ List.replicate (n - s.length - t.length - 1) 0) [h] (s.length : Int) rfl rfl rfl (by simp) rfl rfl
  refine Eq.trans (runOps_cons _ _ _ _ (show DOp.run _ (.write (s.length : Int) ⟨#[h]⟩) = _ from e2)) ?_
  refine Eq.trans (runOps_cons _ _ _ _ (show DOp.run _ .sync = _ from sync_on _ rfl)) ?_
  rw [runOps]
  unfold diskOf
  have e : n - (s ++ h :: t).length = n - s.length - t.length - 1 := by simp; omega
  rw [e]
  simp
def bytesL (l : List ByteArray) : List (List UInt8) := l.map fun s => s.data.toList
theorem lens_of (l : List ByteArray) (h : ∀ s ∈ l, s.size ≤ 65536) : ∀ r ∈ bytesL l, r.length ≤ 65536 := by
  intro r hr
  obtain ⟨s, hs, rfl⟩ := List.mem_map.1 hr
  have := h s hs
  have : s.data.toList.length = s.size := Lib.size_eq s ▸ rfl
  omega
theorem long_not (l : List ByteArray) (h : ∀ s ∈ l, s.size ≤ 65536) : anyLong l = false := by
  unfold anyLong
  rw [List.any_eq_false]
  intro s hs
  have := h s hs
  simp; omega
theorem addAll_tape (ks : List Int) (l0 : List (List UInt8)) (l : List ByteArray) : (addAll ks (tapeOf ks l0) l).1 = tapeOf ks (l0 ++ bytesL l) ∧ bytesOf ks (l0 ++ bytesL l) = bytesOf ks l0 ++ (addAll ks (tapeOf ks l0) l).2 := by
  rw [addAll_L]
  unfold tapeOf bytesOf
  rw [addL_append]
  exact ⟨rfl, rfl⟩
theorem addAll_len (ks : List Int) (T : TapeS) (l : List ByteArray) : (addAll ks T l).2.length = lenL (bytesL l) := by rw [addAll_L, addL_len]; rfl
theorem diskOf_size (n : Nat) (s : List UInt8) (h : s.length ≤ n) : (diskOf n s).sure.length = n := by unfold diskOf; simp; omega
theorem append_ok (ks : List Int) (n : Nat) (l0 : List (List UInt8)) (l : List ByteArray) (hs : ∀ s ∈ l, s.size ≤ 65536) (hn : lenL l0 + lenL (bytesL l) ≤ n) :
    appendS ks (tapeOf ks l0) (diskOf n (bytesOf ks l0)) false l = (tapeOf ks (l0 ++ bytesL l), diskOf n (bytesOf ks (l0 ++ bytesL l)), false, 0) := by
  obtain ⟨h1, h2⟩ := addAll_tape ks l0 l
  have hl := addAll_len ks (tapeOf ks l0) l
  unfold appendS
  rw [if_neg (by rw [long_not l hs]; simp), if_neg (by rw [diskOf_size _ _ (by rw [bytesOf_length]; omega), tapeOf_size, bytesOf_length, hl]; omega)]
  rw [h2, ← h1]
  cases hc : (addAll ks (tapeOf ks l0) l).2 with
  | nil =>
    rw [hc] at hl
    have hl0 : l = [] := by
      have := lenL_count (bytesL l)
      unfold bytesL at this
      rw [List.length_map] at this
      simp only [List.length_nil] at hl
      unfold bytesL at hl
      exact List.eq_nil_of_length_eq_zero (by omega)
    subst hl0
    simp [addAll]
  | cons b t =>
    rw [hc] at hl
    simp only [List.length_cons] at hl
    have e := append_run n (bytesOf ks l0) t b (by rw [bytesOf_length]; omega)
    rw [← tapeOf_size] at e
    simp only [e]
    simp
theorem append_full (ks : List Int) (n : Nat) (l0 : List (List UInt8)) (l : List ByteArray) (D : DiskS) (hd : D.sure.length = n) (hs : ∀ s ∈ l, s.size ≤ 65536) (hn0 : lenL l0 ≤ n) (hn : n < lenL l0 + lenL (bytesL l)) :
    appendS ks (tapeOf ks l0) D false l = (tapeOf ks l0, D, false, 341) := by
  have hl := addAll_len ks (tapeOf ks l0) l
  unfold appendS
  rw [if_neg (by rw [long_not l hs]; simp), if_pos (by rw [hd, tapeOf_size, bytesOf_length, hl]; omega)]
theorem append_long (ks : List Int) (T : TapeS) (D : DiskS) (br : Bool) (l : List ByteArray) (s : ByteArray) (hs : s ∈ l) (h : 65536 < s.size) : appendS ks T D br l = (T, D, br, 340) := by
  unfold appendS
  rw [if_pos (.inr (by unfold anyLong; rw [List.any_eq_true]; exact ⟨s, hs, by simpa using h⟩))]
theorem append_broken (ks : List Int) (T : TapeS) (D : DiskS) (l : List ByteArray) : appendS ks T D true l = (T, D, true, 340) := by
  unfold appendS
  rw [if_pos (.inl rfl)]
theorem append_none (ks : List Int) (T : TapeS) (D : DiskS) : appendS ks T D false [] = (T, D, false, 0) := by
  unfold appendS
  rw [if_neg (by simp [anyLong]), if_neg (by simp [addAll])]
  simp [addAll]
/-- The power is off. -/
theorem append_off (ks : List Int) (n : Nat) (l0 : List (List UInt8)) (l : List ByteArray) (D : DiskS) (ho : D.off = true) (hd : D.sure.length = n) (hs : ∀ s ∈ l, s.size ≤ 65536) (hl0 : l ≠ []) (hn : lenL l0 + lenL (bytesL l) ≤ n) :
    appendS ks (tapeOf ks l0) D false l = (tapeOf ks l0, D, true, 331) := by
  have hl := addAll_len ks (tapeOf ks l0) l
  unfold appendS
  rw [if_neg (by rw [long_not l hs]; simp), if_neg (by rw [hd, tapeOf_size, bytesOf_length, hl]; omega)]
  cases hc : (addAll ks (tapeOf ks l0) l).2 with
  | nil =>
    rw [hc] at hl
    have := lenL_count (bytesL l)
    unfold bytesL at this
    rw [List.length_map] at this
    simp only [List.length_nil] at hl
    unfold bytesL at hl
    exact absurd (List.eq_nil_of_length_eq_zero (by omega)) hl0
  | cons b t =>
    have e : runOps D [.write (((tapeOf ks l0).size : Int) + 1) ⟨t.toArray⟩, .sync, .write ((tapeOf ks l0).size : Int) ⟨#[b]⟩, .sync] = (D, 331) := by
      have e1 : ∀ (x : Int) (s : ByteArray), DOp.run D (.write x s) = (D, 331) := fun x s => by
        show D.write x s.data.toList = _
        unfold DiskS.write
        rw [if_pos ho]
      rw [runOps_stop (by rw [e1]; simp), e1]
    simp only [e]
    simp
/-- As 'reload', whatever stands behind a byte 0. -/
theorem reload0 (ks : List Int) : ∀ (l : List (List UInt8)) (T : TapeS) (bs : List UInt8) (f : Nat) (rest : List UInt8), bs.drop T.size = (addL ks T l).2 ++ rest → rest[0]?.getD 0 = 0 → (∀ r ∈ l, r.length ≤ 65536) → l.length < f → loadS ks bs f T = some (addL ks T l).1 := by
  intro l
  induction l with
  | nil =>
    intro T bs f rest hd hz _ hf
    obtain ⟨f, rfl⟩ : ∃ g, f = g + 1 := ⟨f - 1, by omega⟩
    have h0 : bs[T.size]?.getD 0 = 0 := by
      have h1 : (bs.drop T.size)[0]? = rest[0]? := by rw [hd]; rfl
      rw [List.getElem?_drop, Nat.add_zero] at h1
      rw [h1]; exact hz
    rw [loadS, if_neg (by rw [h0]; simp)]
    rfl
  | cons r l ih =>
    intro T bs f rest hd hz hr hf
    obtain ⟨f, rfl⟩ : ∃ g, f = g + 1 := ⟨f - 1, by omega⟩
    rw [addL_cons] at hd ⊢
    simp only at hd ⊢
    have hsl := stored_length ks T r
    have hd1 : bs.drop T.size = storedS ks T r ++ ((addL ks (T.add ks r) l).2 ++ rest) := by rw [hd, List.append_assoc]
    have hlen := congrArg List.length hd1
    rw [List.length_drop, List.length_append, hsl] at hlen
    have hg : bs[T.size]? = some 1 := by
      have h1 : (bs.drop T.size)[0]? = some 1 := by rw [hd1]; rfl
      rwa [List.getElem?_drop, Nat.add_zero] at h1
    have hd2 : bs.drop (T.size + 1) = putStrS r ++ (chainS ks T.head r ++ ((addL ks (T.add ks r) l).2 ++ rest)) := by
      rw [← List.drop_drop, hd1]
      unfold storedS
      simp
    have hs := stringS_put bs (T.size + 1) r _ hd2 (hr r (by simp))
    rw [loadS, hs, if_pos ⟨by omega, by rw [hg]; simp⟩]
    simp only [Int.toNat_natCast]
    rw [if_pos ⟨hg, trivial, by omega, by
      rw [show T.size + 1 + (putStrS r).length + 32 - T.size = (storedS ks T r).length by rw [hsl]; omega, hd1, List.take_left]⟩]
    refine ih _ bs f rest ?_ hz (fun x hx => hr x (by simp [hx])) (by simp only [List.length_cons] at hf; omega)
    have e : (T.add ks r).size = T.size + (storedS ks T r).length := by rw [hsl]; unfold TapeS.add; simp only; omega
    rw [e, ← List.drop_drop, hd1, List.drop_left]
theorem reload_of0 (ks : List Int) (l : List (List UInt8)) (rest bs : List UInt8) (hb : bs = bytesOf ks l ++ rest) (hz : rest[0]?.getD 0 = 0) (hr : ∀ r ∈ l, r.length ≤ 65536) : loadS ks bs (bs.length + 1) tape0 = some (tapeOf ks l) := by
  refine reload0 ks l tape0 bs _ rest (by rw [hb]; rfl) hz hr ?_
  rw [hb, List.length_append, bytesOf_length]
  have := lenL_count l
  omega
theorem tw_imp {p : UInt8 → Bool} : ∀ (l : List UInt8) (x : UInt8), x ∈ l.takeWhile p → p x = true := by
  intro l
  induction l with
  | nil => intro x hx; simp at hx
  | cons b l ih =>
    intro x hx
    rw [List.takeWhile_cons] at hx
    split at hx
    · rename_i hb
      rcases List.mem_cons.1 hx with rfl | hx
      · exact hb
      · exact ih x hx
    · simp at hx
theorem trim_none : ∀ (l : List UInt8), Lib.trimB l 0 = [] → l = List.replicate l.length 0 := by
  have h1 : ∀ l : List UInt8, l.dropWhile (· == 0) = [] → l = List.replicate l.length 0 := by
    intro l
    induction l with
    | nil => intro _; rfl
    | cons b l ih =>
      intro h
      rw [List.dropWhile_cons] at h
      split at h
      · rename_i hb
        have hb0 : b = 0 := by simpa using hb
        rw [hb0, List.length_cons, List.replicate_succ, ← ih h]
      · cases h
  intro l h
  unfold Lib.trimB Lib.trimLeftB Lib.trimRightB at h
  have h2 := h1 _ h
  have h3 : ∀ l : List UInt8, (∀ x ∈ l, x = 0) → l = List.replicate l.length 0 := fun l hl => List.eq_replicate_iff.2 ⟨rfl, hl⟩
  refine h3 l (fun x hx => ?_)
  have hspl := List.takeWhile_append_dropWhile (p := (· == (0 : UInt8))) (l := l.reverse)
  have hx2 : x ∈ l.reverse.takeWhile (· == 0) ++ l.reverse.dropWhile (· == 0) := by rw [hspl]; simpa using hx
  rcases List.mem_append.1 hx2 with hm | hm
  · have := tw_imp _ _ hm
    simpa using this
  · have h4 : x ∈ (l.reverse.dropWhile (· == 0)).reverse := by simpa using hm
    rw [h2] at h4
    exact List.eq_of_mem_replicate h4
/-- A disk behind a crash. -/
def plainD (v : List UInt8) : DiskS := { off := false, left := 0, sure := v, vis := v, pend := [] }
theorem open_crashed (ks : List Int) (N : Nat) (l : List (List UInt8)) (v rest : List UInt8) (hv : v = bytesOf ks l ++ rest) (hN : v.length = N) (hz : rest[0]?.getD 0 = 0) (hr : ∀ r ∈ l, r.length ≤ 65536) : OpenS ks (plainD v) = (some (tapeOf ks l), diskOf N (bytesOf ks l), 0) := by
  have hrl : rest.length = N - (bytesOf ks l).length := by rw [← hN, hv, List.length_append]; omega
  unfold OpenS
  rw [if_neg (by simp [plainD]), show (plainD v).vis = v from rfl, reload_of0 ks l rest v hv hz hr]
  simp only
  by_cases ht : Lib.trimB (v.drop (tapeOf ks l).size) 0 = []
  · rw [if_pos ht]
    have hd : v.drop (tapeOf ks l).size = rest := by rw [hv, tapeOf_size, List.drop_left]
    rw [hd] at ht
    have hrr := trim_none rest ht
    unfold plainD diskOf
    rw [hv, hrr, ← hrl]
    try simp
  · rw [if_neg ht]
    have hsz : v.length - (tapeOf ks l).size = rest.length := by rw [tapeOf_size, hv, List.length_append]; omega
    have e1 := write_on (plainD v) (bytesOf ks l) rest [] (List.replicate rest.length 0) ((tapeOf ks l).size : Int) (by rw [tapeOf_size]) rfl rfl (by unfold plainD; simp [hv]) rfl (by simp)
    have e2 : runOps (plainD v) [.write ((tapeOf ks l).size : Int) ⟨(List.replicate (v.length - (tapeOf ks l).size) 0).toArray⟩, .sync] = (diskOf N (bytesOf ks l), 0) := by
      rw [hsz, runOps_cons _ _ _ _ (show DOp.run (plainD v) (.write ((tapeOf ks l).size : Int) ⟨(List.replicate rest.length 0).toArray⟩) = _ from e1)]
      refine Eq.trans (runOps_cons _ _ _ _ (show DOp.run _ .sync = _ from sync_on _ rfl)) ?_
      rw [runOps]
      unfold diskOf plainD
      rw [← hrl]
      simp
    rw [e2]
    simp
/-- What any power failure leaves: the records L, or the group in addition. -/
def Crashes (ks : List Int) (N : Nat) (L G : List (List UInt8)) (D : DiskS) : Prop :=
  ∀ keep torn, ∃ L' v rest, (L' = L ∨ L' = L ++ G) ∧ D.crash keep torn = plainD v ∧ v = bytesOf ks L' ++ rest ∧ v.length = N ∧ rest[0]?.getD 0 = 0
theorem crash_empty (D : DiskS) (keep : List Int) (torn : Int) (h : D.pend = []) : D.crash keep torn = plainD D.sure := by
  unfold DiskS.crash DiskS.kept
  rw [h]
  unfold DiskS.settled plainD
  simp [order, lastTorn, puts]
theorem kept_one (D : DiskS) (p : Nat × List UInt8) (h : D.pend = [p]) (keep : List Int) : D.kept keep = [] ∨ D.kept keep = [p] := by
  unfold DiskS.kept order
  rw [h]
  by_cases hk : ((0 : Nat) : Int) ∈ keep
  · right
    have : (List.range [p].length).filter (fun (i : Nat) => decide ((i : Int) ∈ keep)) = [0] := by
      rw [List.length_singleton, List.range_one, List.filter_cons, if_pos (by simpa using hk)]
      rfl
    rw [this]
    rfl
  · left
    have : (List.range [p].length).filter (fun (i : Nat) => decide ((i : Int) ∈ keep)) = [] := by
      rw [List.length_singleton, List.range_one, List.filter_cons, if_neg (by simpa using hk)]
      rfl
    rw [this]
    rfl
theorem crash_one (D : DiskS) (o : Nat) (s : List UInt8) (h : D.pend = [(o, s)]) (keep : List Int) (torn : Int) : ∃ k, D.crash keep torn = plainD (put D.sure o (s.take k)) ∨ D.crash keep torn = plainD D.sure := by
  have hc : D.crash keep torn = plainD (puts D.sure (lastTorn torn (D.kept keep))) := by
    unfold DiskS.crash DiskS.settled plainD
    rfl
  rw [hc]
  rcases kept_one D _ h keep with hk | hk
  · exact ⟨0, .inr (by rw [hk]; rfl)⟩
  · rw [hk]
    by_cases ht : 0 ≤ torn
    · refine ⟨torn.toNat, .inl ?_⟩
      have : lastTorn torn [(o, s)] = [(o, s.take torn.toNat)] := by simp [lastTorn, ht]
      rw [this]; rfl
    · refine ⟨s.length, .inl ?_⟩
      have : lastTorn torn [(o, s)] = [(o, s)] := by simp [lastTorn, ht]
      rw [this, List.take_length]; rfl
/-- A disk of n bytes that will take m writes more (0: any number). -/
def diskLeft (n : Nat) (s : List UInt8) (m : Nat) : DiskS := { diskOf n s with left := m }
theorem diskLeft_none (n : Nat) (s : List UInt8) : diskLeft n s 0 = diskOf n s := rfl
theorem crashes_left (ks : List Int) (N m : Nat) (L G : List (List UInt8)) (h : lenL L ≤ N) : Crashes ks N L G (diskLeft N (bytesOf ks L) m) := by
  intro keep torn
  refine ⟨L, _, List.replicate (N - (bytesOf ks L).length) 0, .inl rfl, crash_empty _ keep torn rfl, rfl, ?_, ?_⟩
  · show (bytesOf ks L ++ List.replicate (N - (bytesOf ks L).length) 0).length = N
    rw [List.length_append, List.length_replicate, bytesOf_length]; omega
  · cases N - (bytesOf ks L).length <;> simp
theorem write_left (D : DiskS) (a m c s : List UInt8) (x : Int) (hx : x = (a.length : Int)) (ho : D.off = false) (hv : D.vis = a ++ m ++ c) (hs : D.vis.length = D.sure.length) (hm : m.length = s.length) : D.write x s = ({ D with vis := a ++ s ++ c, pend := D.pend ++ [(a.length, s)] }.used, 0) := by
  subst hx
  unfold DiskS.write
  have hlen : D.sure.length = a.length + m.length + c.length := by rw [← hs, hv]; simp; omega
  rw [if_neg (by rw [ho]; simp), if_pos (by unfold inB; simp only [decide_eq_true_eq]; omega)]
  unfold DiskS.written
  simp only [Int.toNat_natCast]
  rw [hv, put_mid a m c s hm]
theorem zeros_split (n a t : Nat) (h : a + t + 1 ≤ n) : List.replicate (n - a) (0 : UInt8) = [0] ++ List.replicate t 0 ++ List.replicate (n - a - t - 1) 0 := by
  rw [← List.replicate_one, List.replicate_append_replicate, List.replicate_append_replicate]
  congr 1
  omega
/-- A group is stored while the power lasts. -/
theorem append_run_ok (n m : Nat) (s t : List UInt8) (h : UInt8) (hn : s.length + t.length + 1 ≤ n) (hm : m = 0 ∨ 3 ≤ m) :
    runOps (diskLeft n s m) [.write ((s.length : Int) + 1) ⟨t.toArray⟩, .sync, .write (s.length : Int) ⟨#[h]⟩, .sync] = (diskLeft n (s ++ h :: t) (m - 2), 0) := by
  rcases hm with rfl | hm
  · exact append_run n s t h hn
  have e1 := write_left (diskLeft n s m) (s ++ [0]) (List.replicate t.length 0) (List.replicate (n - s.length - t.length - 1) 0) t ((s.length : Int) + 1) (by simp) rfl (by unfold diskLeft diskOf; simp only; rw [zeros_split n s.length t.length hn]; simp) rfl (by simp)
  have u1 : ∀ v p, ({ diskLeft n s m with vis := v, pend := p } : DiskS).used = { off := false, left := m - 1, sure := (diskLeft n s m).sure, vis := v, pend := p } := by
    intro v p
    unfold DiskS.used
    rw [if_neg (by show ¬ m = 0; omega)]
    show ({ off := decide (m - 1 = 0), left := m - 1, sure := _, vis := v, pend := p } : DiskS) = _
    rw [decide_eq_false (by omega)]
  rw [u1] at e1
  rw [runOps_cons _ _ _ _ (show DOp.run (diskLeft n s m) (.write ((s.length : Int) + 1) ⟨t.toArray⟩) = _ from e1)]
  refine Eq.trans (runOps_cons _ _ _ _ (show DOp.run _ .sync = _ from sync_on _ rfl)) ?_
  have e2 := write_left { off := false, left := m - 1, sure := s ++ [0] ++ t ++ List.replicate (n - s.length - t.length - 1) 0, vis := s ++ [0] ++ t ++ List.replicate (n - s.length - t.length - 1) 0, pend := [] } s [0] (t ++ List.replicate (n - s.length - t.length - 1) 0) [h] (s.length : Int) rfl rfl (by simp) rfl rfl
  have u2 : ∀ v w p, ({ off := false, left := m - 1, sure := w, vis := v, pend := p } : DiskS).used = { off := false, left := m - 2, sure := w, vis := v, pend := p } := by
    intro v w p
    unfold DiskS.used
    rw [if_neg (by show ¬ m - 1 = 0; omega)]
    show ({ off := decide (m - 1 - 1 = 0), left := m - 1 - 1, sure := w, vis := v, pend := p } : DiskS) = _
    rw [decide_eq_false (by omega)]
    congr 1
  rw [u2] at e2
  refine Eq.trans (runOps_cons _ _ _ _ (show DOp.run _ (.write (s.length : Int) ⟨#[h]⟩) = _ from e2)) ?_
  refine Eq.trans (runOps_cons _ _ _ _ (show DOp.run _ .sync = _ from sync_on _ rfl)) ?_
  rw [runOps]
  unfold diskLeft diskOf
  have e : n - (s ++ h :: t).length = n - s.length - t.length - 1 := by simp; omega
  rw [e]
  simp
theorem sync_off (D : DiskS) (ho : D.off = true) : D.sync = (D, 331) := by
  unfold DiskS.sync
  rw [if_pos ho]
theorem put_nil (b : List UInt8) (o : Nat) : put b o [] = b := by unfold put; simp
/-- The power fails behind the first write of a group. -/
theorem append_run_1 (n : Nat) (s t : List UInt8) (h : UInt8) (hn : s.length + t.length + 1 ≤ n) :
    ∃ D', runOps (diskLeft n s 1) [.write ((s.length : Int) + 1) ⟨t.toArray⟩, .sync, .write (s.length : Int) ⟨#[h]⟩, .sync] = (D', 331) ∧ D'.off = true ∧ D'.sure = s ++ List.replicate (n - s.length) 0 ∧ D'.pend = [(s.length + 1, t)] := by
  have e1 := write_left (diskLeft n s 1) (s ++ [0]) (List.replicate t.length 0) (List.replicate (n - s.length - t.length - 1) 0) t ((s.length : Int) + 1) (by simp) rfl (by unfold diskLeft diskOf; simp only; rw [zeros_split n s.length t.length hn]; simp) rfl (by simp)
  rw [runOps_cons _ _ _ _ (show DOp.run (diskLeft n s 1) (.write ((s.length : Int) + 1) ⟨t.toArray⟩) = _ from e1)]
  have e2 := fun l => runOps_stop (D := ({ diskLeft n s 1 with vis := s ++ [0] ++ t ++ List.replicate (n - s.length - t.length - 1) 0, pend := (diskLeft n s 1).pend ++ [((s ++ [0]).length, t)] } : DiskS).used) (o := .sync) (l := l) (by
    show (DiskS.sync _).2 ≠ 0
    rw [sync_off _ rfl]; simp)
  refine ⟨_, (e2 _).trans (sync_off _ rfl), rfl, rfl, ?_⟩
  show [((s ++ [0]).length, t)] = _
  simp
/-- The power fails behind the second write of a group. -/
theorem append_run_2 (n : Nat) (s t : List UInt8) (h : UInt8) (hn : s.length + t.length + 1 ≤ n) :
    ∃ D', runOps (diskLeft n s 2) [.write ((s.length : Int) + 1) ⟨t.toArray⟩, .sync, .write (s.length : Int) ⟨#[h]⟩, .sync] = (D', 331) ∧ D'.off = true ∧ D'.sure = s ++ [0] ++ t ++ List.replicate (n - s.length - t.length - 1) 0 ∧ D'.pend = [(s.length, [h])] := by
  have e1 := write_left (diskLeft n s 2) (s ++ [0]) (List.replicate t.length 0) (List.replicate (n - s.length - t.length - 1) 0) t ((s.length : Int) + 1) (by simp) rfl (by unfold diskLeft diskOf; simp only; rw [zeros_split n s.length t.length hn]; simp) rfl (by simp)
  rw [runOps_cons _ _ _ _ (show DOp.run (diskLeft n s 2) (.write ((s.length : Int) + 1) ⟨t.toArray⟩) = _ from e1)]
  have e3 : ∀ l, runOps ({ diskLeft n s 2 with vis := s ++ [0] ++ t ++ List.replicate (n - s.length - t.length - 1) 0, pend := (diskLeft n s 2).pend ++ [((s ++ [0]).length, t)] } : DiskS).used (.sync :: l) = runOps { off := false, left := 1, sure := s ++ [0] ++ t ++ List.replicate (n - s.length - t.length - 1) 0, vis := s ++ [0] ++ t ++ List.replicate (n - s.length - t.length - 1) 0, pend := [] } l := fun l => runOps_cons _ _ _ _ (show DOp.run _ .sync = _ from sync_on _ rfl)
  rw [e3]
  have e2 := write_left { off := false, left := 1, sure := s ++ [0] ++ t ++ List.replicate (n - s.length - t.length - 1) 0, vis := s ++ [0] ++ t ++ List.replicate (n - s.length - t.length - 1) 0, pend := [] } s [0] (t ++ List.replicate (n - s.length - t.length - 1) 0) [h] (s.length : Int) rfl rfl (by simp) rfl rfl
  rw [runOps_cons _ _ _ _ (show DOp.run _ (.write (s.length : Int) ⟨#[h]⟩) = _ from e2)]
  refine ⟨_, (runOps_stop (by
    show (DiskS.sync _).2 ≠ 0
    rw [sync_off _ rfl]; simp)).trans (sync_off _ rfl), rfl, rfl, rfl⟩
theorem crashes_1 (ks : List Int) (n : Nat) (L G : List (List UInt8)) (t : List UInt8) (D : DiskS) (hn : (bytesOf ks L).length + t.length + 1 ≤ n) (hs : D.sure = bytesOf ks L ++ List.replicate (n - (bytesOf ks L).length) 0) (hp : D.pend = [((bytesOf ks L).length + 1, t)]) : Crashes ks n L G D := by
  intro keep torn
  obtain ⟨k, hc | hc⟩ := crash_one D _ t hp keep torn
  · have htl : (t.take k).length ≤ t.length := by rw [List.length_take]; omega
    have hv : put D.sure ((bytesOf ks L).length + 1) (t.take k) = bytesOf ks L ++ ([0] ++ t.take k ++ List.replicate (n - (bytesOf ks L).length - (t.take k).length - 1) 0) := by
      have e := put_mid (bytesOf ks L ++ [0]) (List.replicate (t.take k).length 0) (List.replicate (n - (bytesOf ks L).length - (t.take k).length - 1) 0) (t.take k) (by simp)
      have e0 : (bytesOf ks L ++ [(0 : UInt8)]).length = (bytesOf ks L).length + 1 := by simp
      rw [e0] at e
      rw [hs, zeros_split n (bytesOf ks L).length (t.take k).length (by omega)]
      rw [show bytesOf ks L ++ ([0] ++ List.replicate (t.take k).length 0 ++ List.replicate (n - (bytesOf ks L).length - (t.take k).length - 1) 0) = bytesOf ks L ++ [0] ++ List.replicate (t.take k).length 0 ++ List.replicate (n - (bytesOf ks L).length - (t.take k).length - 1) 0 by simp, e]
      simp
    exact ⟨L, _, _, .inl rfl, hc, hv, by rw [hv]; simp; rw [List.length_take] at htl; omega, rfl⟩
  · refine ⟨L, _, _, .inl rfl, hc, hs, by rw [hs]; simp; omega, ?_⟩
    cases n - (bytesOf ks L).length <;> simp
theorem crashes_2 (ks : List Int) (n : Nat) (L G : List (List UInt8)) (t : List UInt8) (h : UInt8) (D : DiskS) (hn : (bytesOf ks L).length + t.length + 1 ≤ n) (hg : bytesOf ks (L ++ G) = bytesOf ks L ++ h :: t)
    (hs : D.sure = bytesOf ks L ++ [0] ++ t ++ List.replicate (n - (bytesOf ks L).length - t.length - 1) 0) (hp : D.pend = [((bytesOf ks L).length, [h])]) : Crashes ks n L G D := by
  intro keep torn
  have hlen : D.sure.length = n := by rw [hs]; simp; omega
  have hold : D.sure = bytesOf ks L ++ ([0] ++ t ++ List.replicate (n - (bytesOf ks L).length - t.length - 1) 0) := by rw [hs]; simp
  obtain ⟨k, hc | hc⟩ := crash_one D _ [h] hp keep torn
  · cases k with
    | zero =>
      rw [List.take_zero, put_nil] at hc
      exact ⟨L, _, _, .inl rfl, hc, hold, hlen, rfl⟩
    | succ k =>
      rw [List.take_of_length_le (by simp)] at hc
      have hv : put D.sure (bytesOf ks L).length [h] = bytesOf ks (L ++ G) ++ List.replicate (n - (bytesOf ks L).length - t.length - 1) 0 := by
        have e := put_mid (bytesOf ks L) [0] (t ++ List.replicate (n - (bytesOf ks L).length - t.length - 1) 0) [h] rfl
        rw [hs, show bytesOf ks L ++ [0] ++ t ++ List.replicate (n - (bytesOf ks L).length - t.length - 1) 0 = bytesOf ks L ++ [0] ++ (t ++ List.replicate (n - (bytesOf ks L).length - t.length - 1) 0) by simp, e, hg]
        simp
      refine ⟨L ++ G, _, _, .inr rfl, hc, hv, ?_, ?_⟩
      · rw [put_length _ _ _ (by rw [hlen]; simp; omega), hlen]
      · cases n - (bytesOf ks L).length - t.length - 1 <;> simp
  · exact ⟨L, _, _, .inl rfl, hc, hold, hlen, rfl⟩
/-- What a journal that stands makes of a group that is neither too long nor full. -/
theorem append_left (ks : List Int) (n m : Nat) (L : List (List UInt8)) (l : List ByteArray) (hs : ∀ s ∈ l, s.size ≤ 65536) (hn : lenL L + lenL (bytesL l) ≤ n) :
    (∃ m', appendS ks (tapeOf ks L) (diskLeft n (bytesOf ks L) m) false l = (tapeOf ks (L ++ bytesL l), diskLeft n (bytesOf ks (L ++ bytesL l)) m', false, 0) ∧ m' ≤ m) ∨
    (∃ D', appendS ks (tapeOf ks L) (diskLeft n (bytesOf ks L) m) false l = (tapeOf ks L, D', true, 331) ∧ D'.off = true ∧ D'.sure.length = n ∧ D'.pend.length ≤ 1 ∧ Crashes ks n L (bytesL l) D' ∧ (m = 1 ∨ m = 2)) := by
  obtain ⟨h1, h2⟩ := addAll_tape ks L l
  have hl := addAll_len ks (tapeOf ks L) l
  have hLl := bytesOf_length ks L
  unfold appendS
  rw [if_neg (by rw [long_not l hs]; simp), if_neg (by
    rw [show (diskLeft n (bytesOf ks L) m).sure.length = n from diskOf_size _ _ (by omega), tapeOf_size, hl]; omega)]
  rw [← h1]
  cases hc : (addAll ks (tapeOf ks L) l).2 with
  | nil =>
    rw [hc] at hl
    have hl0 : l = [] := by
      have := lenL_count (bytesL l)
      unfold bytesL at this
      rw [List.length_map] at this
      simp only [List.length_nil] at hl
      unfold bytesL at hl
      exact List.eq_nil_of_length_eq_zero (by omega)
    subst hl0
    refine .inl ⟨m, ?_, Nat.le_refl _⟩
    rw [h2]
    simp [addAll]
  | cons b t =>
    rw [hc] at hl h2
    simp only [List.length_cons] at hl
    have hle : (bytesOf ks L).length + t.length + 1 ≤ n := by omega
    have hsz := tapeOf_size ks L
    by_cases hm : m = 0 ∨ 3 ≤ m
    · have e := append_run_ok n m (bytesOf ks L) t b hle hm
      rw [← hsz] at e
      refine .inl ⟨m - 2, ?_, by omega⟩
      simp only [e]
      rw [h2]
      simp
    · right
      by_cases hm1 : m = 1
      · subst hm1
        obtain ⟨D', e, d1, d2, d3⟩ := append_run_1 n (bytesOf ks L) t b hle
        refine ⟨D', ?_, d1, by rw [d2]; simp; omega, by rw [d3]; simp, crashes_1 ks n L (bytesL l) t D' hle d2 d3, .inl rfl⟩
        rw [← hsz] at e
        simp only [e]
        simp
      · obtain rfl : m = 2 := by omega
        obtain ⟨D', e, d1, d2, d3⟩ := append_run_2 n (bytesOf ks L) t b hle
        refine ⟨D', ?_, d1, by rw [d2]; simp; omega, by rw [d3]; simp, crashes_2 ks n L (bytesL l) t b D' hle h2 d2 d3, .inr rfl⟩
        rw [← hsz] at e
        simp only [e]
        simp
end Go.Proofs.YtafjolibfbccbaaGreatDoor

namespace Go.Proofs.YtafjolibfbccbaaGreatDoor
open Go.RowKit
set_option maxRecDepth 100000
set_option maxHeartbeats 1000000

def sizedS : List (List UInt8) → Int → Bool
  | [], _ => false
  | r :: l, a => if 1 ≤ a ∧ a ≤ (putS (r.length : Int)).length then true else sizedS l (a - (1 + (putS (r.length : Int)).length + r.length + 32))
theorem sizedS_cons (r : List UInt8) (l : List (List UInt8)) (a : Int) : sizedS (r :: l) a = if 1 ≤ a ∧ a ≤ (putS (r.length : Int)).length then true else sizedS l (a - (1 + (putS (r.length : Int)).length + r.length + 32)) := rfl
def headsS (ks : List Int) : List (List UInt8) → List UInt8 → List (List UInt8)
  | [], _ => []
  | r :: l, h => (2 :: (h ++ r)) :: headsS ks l (chainS ks h r)
def headTo (ks : List Int) (h : List UInt8) (l : List (List UInt8)) : List UInt8 := l.foldl (chainS ks) h
theorem headsS_length (ks : List Int) : ∀ (l : List (List UInt8)) (h : List UInt8), (headsS ks l h).length = l.length
  | [], _ => rfl
  | _ :: l, h => by show (headsS ks l _).length + 1 = l.length + 1; rw [headsS_length ks l]
theorem headsS_at (ks : List Int) : ∀ (l : List (List UInt8)) (h : List UInt8) (i : Nat) (r : List UInt8), l[i]? = some r → (headsS ks l h)[i]? = some (2 :: (headTo ks h (l.take i) ++ r))
  | [], _, _, _, e => by simp at e
  | x :: l, h, 0, r, e => by
    obtain rfl : x = r := by simpa using e
    rfl
  | x :: l, h, i + 1, r, e => by
    show (headsS ks l (chainS ks h x))[i]? = _
    rw [headsS_at ks l _ i r (by simpa using e)]
    rfl
theorem addL_headTo (ks : List Int) : ∀ (l : List (List UInt8)) (T : TapeS), (addL ks T l).1.head = headTo ks T.head l := by
  intro l
  induction l with
  | nil => intro T; rfl
  | cons r l ih => intro T; rw [addL_cons]; simp only; rw [ih]; rfl
theorem addL_same (ks : List Int) : ∀ (l : List (List UInt8)) (T T' : TapeS), T.head = T'.head → (addL ks T l).2 = (addL ks T' l).2 := by
  intro l
  induction l with
  | nil => intro T T' _; rfl
  | cons r l ih =>
    intro T T' h
    rw [addL_cons, addL_cons]
    simp only
    rw [ih (T.add ks r) (T'.add ks r) (by unfold TapeS.add; simp only; rw [h])]
    unfold storedS
    rw [h]
/-- A record that is laid with some digest. -/
theorem load_rec (ks : List Int) (T : TapeS) (bs : List UInt8) (f : Nat) (r H rest : List UInt8) (hd : bs.drop T.size = 1 :: (putStrS r ++ (H ++ rest))) (hH : H.length = 32) (hr : r.length ≤ 65536) :
    (chainS ks T.head r = H → loadS ks bs (f + 1) T = loadS ks bs f (T.add ks r) ∧ bs.drop (T.add ks r).size = rest) ∧ (chainS ks T.head r ≠ H → loadS ks bs (f + 1) T = none) := by
  have hlen := congrArg List.length hd
  rw [List.length_drop, List.length_cons, List.length_append, List.length_append, hH] at hlen
  have hg : bs[T.size]? = some 1 := by
    have h1 : (bs.drop T.size)[0]? = some 1 := by rw [hd]; rfl
    rwa [List.getElem?_drop, Nat.add_zero] at h1
  have hd2 : bs.drop (T.size + 1) = putStrS r ++ (H ++ rest) := by
    rw [← List.drop_drop, hd]
    rfl
  have hs := stringS_put bs (T.size + 1) r _ hd2 hr
  have htk : (bs.drop T.size).take (T.size + 1 + (putStrS r).length + 32 - T.size) = 1 :: (putStrS r ++ H) := by
    rw [hd, show (1 :: (putStrS r ++ (H ++ rest)) : List UInt8) = (1 :: (putStrS r ++ H)) ++ rest by simp, show T.size + 1 + (putStrS r).length + 32 - T.size = (1 :: (putStrS r ++ H) : List UInt8).length by rw [List.length_cons, List.length_append, hH]; omega, List.take_left]
  have hc0 := chainS_length ks T.head r
  constructor
  · intro he
    refine ⟨?_, ?_⟩
    · rw [loadS, hs, if_pos ⟨by omega, by rw [hg]; simp⟩]
      simp only [Int.toNat_natCast]
      rw [if_pos ⟨hg, trivial, by omega, by rw [htk]; unfold storedS; rw [he]⟩]
    · have e : (T.add ks r).size = T.size + (1 :: (putStrS r ++ H) : List UInt8).length := by rw [List.length_cons, List.length_append, hH]; unfold TapeS.add; simp only; omega
      rw [e, ← List.drop_drop, hd, show (1 :: (putStrS r ++ (H ++ rest)) : List UInt8) = (1 :: (putStrS r ++ H)) ++ rest by simp, List.drop_left]
  · intro he
    rw [loadS, hs, if_pos ⟨by omega, by rw [hg]; simp⟩]
    simp only [Int.toNat_natCast]
    rw [if_neg]
    rintro ⟨_, _, _, h4⟩
    rw [htk] at h4
    unfold storedS at h4
    have h5 := List.tail_eq_of_cons_eq h4
    exact he (List.append_cancel_left h5)
theorem set_ne {l : List UInt8} {k : Nat} {c : UInt8} (hk : k < l.length) (h : l[k]? ≠ some c) : l.set k c ≠ l := by
  intro e
  apply h
  rw [← e, List.getElem?_set_self hk]
theorem damaged (ks : List Int) : ∀ (l : List (List UInt8)) (T : TapeS) (bs : List UInt8) (f k z : Nat) (c : UInt8), (∀ r ∈ l, r.length ≤ 65536) →
    bs.drop T.size = (addL ks T l).2.set k c ++ List.replicate z 0 → k < (addL ks T l).2.length → (addL ks T l).2[k]? ≠ some c → sizedS l (k : Int) = false → l.length < f → T.size ≤ bs.length →
    loadS ks bs f T = none ∨
    (c = 0 ∧ ∃ i T', i < l.length ∧ loadS ks bs f T = some T' ∧ T'.recs = T.recs ++ l.take i ∧ T'.size ≤ bs.length) ∨
    (∃ i r r' T', l[i]? = some r ∧ r' ≠ r ∧ r'.length = r.length ∧ chainS ks (headTo ks T.head (l.take i)) r' = chainS ks (headTo ks T.head (l.take i)) r ∧ loadS ks bs f T = some T' ∧ T'.recs = T.recs ++ (l.take i ++ r' :: l.drop (i + 1)) ∧ T'.size ≤ bs.length) := by
  intro l
  induction l with
  | nil => intro T bs f k z c _ _ hk; exact absurd hk (by simp [addL])
  | cons r l ih =>
    intro T bs f k z c hr hd hk hne hsz hf hTb
    obtain ⟨f, rfl⟩ : ∃ g, f = g + 1 := ⟨f - 1, by omega⟩
    have hrl := hr r (by simp)
    have hsl := stored_length ks T r
    have hHl := chainS_length ks T.head r
    rw [addL_cons] at hd hk hne
    simp only at hd hk hne
    rw [List.set_append] at hd
    rw [List.length_append, hsl] at hk
    rw [hsl] at hd
    have hps : (putStrS r).length = (putS (r.length : Int)).length + r.length := by unfold putStrS; rw [List.length_append]
    by_cases hin : k < (putStrS r).length + 33
    · rw [if_pos hin] at hd
      rw [List.getElem?_append_left (by rw [hsl]; exact hin)] at hne
      obtain ⟨R, hR⟩ : ∃ x, (addL ks (T.add ks r) l).2 = x := ⟨_, rfl⟩
      rw [hR, List.append_assoc] at hd
      by_cases h0 : k = 0
      · subst h0
        have hc1 : c ≠ 1 := fun e => hne (by rw [e]; rfl)
        have hg : bs[T.size]? = some c := by
          have h1 : (bs.drop T.size)[0]? = some c := by rw [hd]; rfl
          rwa [List.getElem?_drop, Nat.add_zero] at h1
        by_cases hc0 : c = 0
        · subst hc0
          refine .inr (.inl ⟨rfl, 0, T, by simp, ?_, by simp, hTb⟩)
          rw [loadS, if_neg (by rw [hg]; simp)]
        · left
          have hlt := (List.getElem?_eq_some_iff.1 hg).1
          rw [loadS, if_pos ⟨hlt, by rw [hg]; simpa using hc0⟩, if_neg]
          rintro ⟨h1, _⟩
          rw [hg] at h1
          exact hc1 (by simpa using h1)
      · obtain ⟨j, rfl⟩ : ∃ j, k = j + 1 := ⟨k - 1, by omega⟩
        unfold storedS at hd hne
        rw [List.set_cons_succ, List.set_append] at hd
        rw [List.getElem?_cons_succ] at hne
        by_cases hj : j < (putStrS r).length
        · rw [if_pos hj] at hd
          rw [List.getElem?_append_left hj] at hne
          unfold sizedS at hsz
          have hjn : (putS (r.length : Int)).length ≤ j := by
            by_cases h : (putS (r.length : Int)).length ≤ j
            · exact h
            · rw [if_pos ⟨by omega, by omega⟩] at hsz; cases hsz
          unfold putStrS at hd hne
          rw [List.set_append, if_neg (by omega)] at hd
          rw [List.getElem?_append_right hjn] at hne
          obtain ⟨q, hq⟩ : ∃ q, j - (putS (r.length : Int)).length = q := ⟨_, rfl⟩
          rw [hq] at hd hne
          have hql : q < r.length := by omega
          obtain ⟨r', hr'⟩ : ∃ x, r.set q c = x := ⟨_, rfl⟩
          have hr'l : r'.length = r.length := by rw [← hr', List.length_set]
          have hr'n : r' ≠ r := by rw [← hr']; exact set_ne hql hne
          rw [hr'] at hd
          have hpr : putS (r.length : Int) ++ r' = putStrS r' := by unfold putStrS; rw [hr'l]
          rw [hpr, List.cons_append, List.append_assoc] at hd
          have hL := load_rec ks T bs f r' (chainS ks T.head r) (R ++ List.replicate z 0) hd hHl (by omega)
          by_cases he : chainS ks T.head r' = chainS ks T.head r
          · obtain ⟨h1, h2⟩ := hL.1 he
            have hR2 : R = (addL ks (T.add ks r') l).2 := by
              rw [← hR]
              exact addL_same ks l _ _ (by unfold TapeS.add; simp only; exact he.symm)
            rw [hR2] at h2
            have h3 := reload ks l (T.add ks r') bs f z h2 (fun x hx => hr x (by simp [hx])) (by simp only [List.length_cons] at hf; omega)
            have h4 := congrArg List.length h2
            rw [List.length_drop, List.length_append] at h4
            have h5 := addL_size ks l (T.add ks r')
            refine .inr (.inr ⟨0, r, r', (addL ks (T.add ks r') l).1, rfl, hr'n, hr'l, he, by rw [h1, h3], ?_, ?_⟩)
            · rw [addL_recs]; unfold TapeS.add; simp
            · have h6 : (T.add ks r').size ≤ bs.length := by
                have := congrArg List.length hd
                rw [List.length_drop, List.length_cons, List.length_append, List.length_append, hHl] at this
                unfold TapeS.add
                simp only
                omega
              omega
          · exact .inl (hL.2 he)
        · rw [if_neg hj] at hd
          rw [List.getElem?_append_right (by omega)] at hne
          obtain ⟨q, hq⟩ : ∃ q, j - (putStrS r).length = q := ⟨_, rfl⟩
          rw [hq] at hd hne
          have hql : q < (chainS ks T.head r).length := by rw [hHl]; omega
          rw [List.cons_append, List.append_assoc] at hd
          have hL := load_rec ks T bs f r ((chainS ks T.head r).set q c) (R ++ List.replicate z 0) hd (by rw [List.length_set]; exact hHl) hrl
          exact .inl (hL.2 (fun e => set_ne hql hne e.symm))
    · rw [if_neg hin, List.append_assoc] at hd
      rw [List.getElem?_append_right (by rw [hsl]; omega), hsl] at hne
      obtain ⟨k', hk'⟩ : ∃ x, k - ((putStrS r).length + 33) = x := ⟨_, rfl⟩
      rw [hk'] at hd hne
      have hd1 : bs.drop T.size = 1 :: (putStrS r ++ (chainS ks T.head r ++ ((addL ks (T.add ks r) l).2.set k' c ++ List.replicate z 0))) := by
        rw [hd]; unfold storedS; simp
      have hsz' : sizedS l (k' : Int) = false := by
        unfold sizedS at hsz
        rw [if_neg (by omega)] at hsz
        rw [show (k' : Int) = (k : Int) - (1 + (putS (r.length : Int)).length + r.length + 32) by omega]
        exact hsz
      obtain ⟨h1, h2⟩ := (load_rec ks T bs f r (chainS ks T.head r) _ hd1 hHl hrl).1 rfl
      have hTb' : (T.add ks r).size ≤ bs.length := by
        have := congrArg List.length hd1
        rw [List.length_drop, List.length_cons, List.length_append, List.length_append, hHl] at this
        unfold TapeS.add
        simp only
        omega
      rw [h1]
      rcases ih (T.add ks r) bs f k' z c (fun x hx => hr x (by simp [hx])) h2 (by omega) hne hsz' (by simp only [List.length_cons] at hf; omega) hTb' with h | ⟨hc, i, T', a1, a2, a3, a4⟩ | ⟨i, x, x', T', a1, a2, a3, a4, a5, a6, a7⟩
      · exact .inl h
      · refine .inr (.inl ⟨hc, i + 1, T', by simp only [List.length_cons]; omega, a2, ?_, a4⟩)
        rw [a3, List.take_succ_cons]
        unfold TapeS.add
        simp
      · refine .inr (.inr ⟨i + 1, x, x', T', by simpa using a1, a2, a3, ?_, a5, ?_, a7⟩)
        · rw [List.take_succ_cons]; exact a4
        · rw [a6, List.take_succ_cons, List.drop_succ_cons]
          unfold TapeS.add
          simp
theorem open_some (ks : List Int) (D : DiskS) (T' : TapeS) (ho : D.off = false) (hl : D.left = 0) (hs : D.vis.length = D.sure.length) (h : loadS ks D.vis (D.vis.length + 1) tape0 = some T') (hT : T'.size ≤ D.vis.length) : (OpenS ks D).1 = some T' := by
  unfold OpenS
  rw [if_neg (by simp [ho]), h]
  simp only
  by_cases ht : Lib.trimB (D.vis.drop T'.size) 0 = []
  · rw [if_pos ht]
  · rw [if_neg ht]
    have hrl : (D.vis.drop T'.size).length = D.vis.length - T'.size := List.length_drop
    have e1 := write_on D (D.vis.take T'.size) (D.vis.drop T'.size) [] (List.replicate (D.vis.length - T'.size) 0) (T'.size : Int) (by rw [List.length_take]; omega) ho hl (by rw [List.append_nil, List.take_append_drop]) hs (by rw [hrl, List.length_replicate])
    obtain ⟨D1, hD1⟩ : ∃ x, ({ D with vis := D.vis.take T'.size ++ List.replicate (D.vis.length - T'.size) 0 ++ [], pend := D.pend ++ [((D.vis.take T'.size).length, List.replicate (D.vis.length - T'.size) 0)] } : DiskS) = x := ⟨_, rfl⟩
    rw [hD1] at e1
    have ho1 : D1.off = false := by rw [← hD1]; exact ho
    have e2 : (runOps D [.write (T'.size : Int) ⟨(List.replicate (D.vis.length - T'.size) 0).toArray⟩, .sync]).2 = 0 := by
      rw [runOps_cons _ _ _ _ (show DOp.run D (.write (T'.size : Int) ⟨(List.replicate (D.vis.length - T'.size) 0).toArray⟩) = _ from e1)]
      rw [runOps_cons _ _ _ _ (show DOp.run _ .sync = _ from sync_on _ ho1)]
      rfl
    rw [if_neg (by rw [e2]; simp)]
theorem damaged_open (ks : List Int) (N : Nat) (L : List (List UInt8)) (k : Nat) (c : UInt8) (hN : lenL L ≤ N) (hk : k < lenL L) (hr : ∀ r ∈ L, r.length ≤ 65536) (hne : (bytesOf ks L)[k]? ≠ some c) (hz : sizedS L (k : Int) = false) :
    ∃ D', (diskOf N (bytesOf ks L)).write (k : Int) [c] = (D', 0) ∧ D'.pend.length ≤ 1 ∧
      (((OpenS ks D').1 = none ∧ (OpenS ks D').2.2 = 342) ∨ ∃ T', (OpenS ks D').1 = some T' ∧ ((c = 0 ∧ ∃ i, i < L.length ∧ T'.recs = L.take i) ∨
        ∃ i r r', L[i]? = some r ∧ r' ≠ r ∧ r'.length = r.length ∧ chainS ks (headTo ks (List.replicate 32 0) (L.take i)) r' = chainS ks (headTo ks (List.replicate 32 0) (L.take i)) r ∧ T'.recs = L.take i ++ r' :: L.drop (i + 1))) := by
  have hbl := bytesOf_length ks L
  obtain ⟨s, hs⟩ : ∃ s, bytesOf ks L = s := ⟨_, rfl⟩
  rw [hs] at hbl hne
  have hks : k < s.length := by omega
  obtain ⟨zz, hzz⟩ : ∃ x, List.replicate (N - s.length) (0 : UInt8) = x := ⟨_, rfl⟩
  have hzl : zz.length = N - s.length := by rw [← hzz, List.length_replicate]
  have e1 := write_on (diskOf N s) (s.take k) [s[k]] (s.drop (k + 1) ++ zz) [c] (k : Int) (by rw [List.length_take]; omega) rfl rfl (by
    unfold diskOf
    simp only
    rw [hzz]
    conv => lhs; rw [← List.take_append_drop k s, List.drop_eq_getElem_cons hks]
    simp
    rw [← List.append_assoc, List.take_append_drop]) rfl rfl
  obtain ⟨D', hD'⟩ : ∃ x, ({ diskOf N s with vis := s.take k ++ [c] ++ (s.drop (k + 1) ++ zz), pend := (diskOf N s).pend ++ [((s.take k).length, [c])] } : DiskS) = x := ⟨_, rfl⟩
  rw [hD'] at e1
  have hvis : D'.vis = s.set k c ++ List.replicate (N - s.length) 0 := by
    rw [← hD', hzz, List.set_eq_take_append_cons_drop, if_pos hks]
    simp
  have hvl : D'.vis.length = N := by rw [hvis, List.length_append, List.length_set, List.length_replicate]; omega
  have hsl : D'.sure.length = N := by rw [← hD']; exact diskOf_size N s (by omega)
  have ho : D'.off = false := by rw [← hD']; rfl
  have hl0 : D'.left = 0 := by rw [← hD']; rfl
  rw [hs]
  refine ⟨D', e1, by rw [← hD']; simp [diskOf], ?_⟩
  have hcount := lenL_count L
  rcases damaged ks L tape0 D'.vis (D'.vis.length + 1) k (N - s.length) c hr (by
      show D'.vis.drop 0 = _
      rw [List.drop_zero, hvis, ← hs]
      rfl) (by show k < (bytesOf ks L).length; rw [hs]; exact hks) (by show (bytesOf ks L)[k]? ≠ some c; rw [hs]; exact hne) hz (by omega) (Nat.zero_le _) with h | ⟨hc, i, T', a1, a2, a3, a4⟩ | ⟨i, x, x', T', a1, a2, a3, a4, a5, a6, a7⟩
  · left
    unfold OpenS
    rw [if_neg (by simp [ho]), h]
    exact ⟨rfl, rfl⟩
  · exact .inr ⟨T', open_some ks D' T' ho hl0 (by rw [hvl, hsl]) a2 a4, .inl ⟨hc, i, a1, by rw [a3]; simp [tape0]⟩⟩
  · exact .inr ⟨T', open_some ks D' T' ho hl0 (by rw [hvl, hsl]) a5 a7, .inr ⟨i, x, x', a1, a2, a3, a4, by rw [a6]; simp [tape0]⟩⟩
end Go.Proofs.YtafjolibfbccbaaGreatDoor

namespace Go.Proofs.YtafjolibfbccbaaGreatDoor
open Go.RowKit
set_option maxRecDepth 100000
set_option maxHeartbeats 1000000

/-- A disk whose blocks lie from B on and outside the blocks X, which are there. -/
def DiskIn (B : Nat) (X : List Nat) (w0 w : World) (g : Nat) (D : DiskS) : Prop := ∃ F, IsDisk w F g D ∧ (∀ k ∈ F, B ≤ k ∧ k ∉ X) ∧ Below B w0 w ∧ B ≤ w.heap.size ∧ ∀ x ∈ X, x < w.heap.size
theorem DiskIn.moved {B : Nat} {X F : List Nat} {w0 w w' : World} {g : Nat} {D' : DiskS} (hF : ∀ k ∈ F, B ≤ k ∧ k ∉ X) (hb : Below B w0 w) (hB : B ≤ w.heap.size) (hX : ∀ x ∈ X, x < w.heap.size) (h : Moved F w w' g D') : DiskIn B X w0 w' g D' ∧ ∀ x ∈ X, w'.heap[x]? = w.heap[x]? := by
  obtain ⟨F', h1, h2, h3⟩ := h
  have hs := h2.size
  refine ⟨⟨F', h1, fun k hk => ?_, hb.trans (h2.toBelow hB (fun x hx => (hF x hx).1)), by omega, fun x hx => Nat.lt_of_lt_of_le (hX x hx) hs⟩, fun x hx => h2.block x (hX x hx) (fun hm => (hF x hm).2 hx)⟩
  rcases h3 k hk with hk | hk
  · exact hF k hk
  · exact ⟨by omega, fun hm => by have := hX k hm; omega⟩
theorem DiskIn.ok {B : Nat} {X : List Nat} {w0 w : World} {g : Nat} {D : DiskS} (h : DiskIn B X w0 w g D) : D.Ok := by
  obtain ⟨F, ⟨gd, gv, A, c, h⟩, _⟩ := h
  exact h.ok
theorem DiskIn.below {B : Nat} {X : List Nat} {w0 w : World} {g : Nat} {D : DiskS} (h : DiskIn B X w0 w g D) : Below B w0 w := by
  obtain ⟨F, _, _, h, _⟩ := h
  exact h
theorem DiskIn.room {B : Nat} {X : List Nat} {w0 w : World} {g : Nat} {D : DiskS} (h : DiskIn B X w0 w g D) : B ≤ w.heap.size := by
  obtain ⟨F, _, _, _, h, _⟩ := h
  exact h
/-- A step elsewhere. -/
theorem DiskIn.step {B : Nat} {X : List Nat} {w0 w w' : World} {g : Nat} {D : DiskS} (h : DiskIn B X w0 w g D) {l : List Nat} (hu : Upd l w w') (hl : ∀ x ∈ l, x ∈ X) (hlB : ∀ x ∈ l, B ≤ x) : DiskIn B X w0 w' g D := by
  obtain ⟨F, h1, h2, h3, h4, h5⟩ := h
  exact ⟨F, h1.upd hu (fun k hk hm => (h2 k hk).2 (hl k hm)), h2, h3.trans (hu.toBelow h4 hlB), Nat.le_trans h4 hu.size, fun x hx => Nat.lt_of_lt_of_le (h5 x hx) hu.size⟩
theorem DiskIn.mono {B : Nat} {X X' : List Nat} {w0 w : World} {g : Nat} {D : DiskS} (h : DiskIn B X w0 w g D) (hs : ∀ x ∈ X', x ∈ X) : DiskIn B X' w0 w g D := by
  obtain ⟨F, h1, h2, h3, h4, h5⟩ := h
  exact ⟨F, h1, fun k hk => ⟨(h2 k hk).1, fun hm => (h2 k hk).2 (hs k hm)⟩, h3, h4, fun x hx => h5 x (hs x hx)⟩
/-- New blocks may be added to X. -/
theorem DiskIn.more {B : Nat} {X : List Nat} {w0 w w' : World} {g : Nat} {D : DiskS} (h : DiskIn B X w0 w g D) (hu : Upd [] w w') (x : Nat) (hx : w.heap.size ≤ x) (hx' : x < w'.heap.size) : DiskIn B (x :: X) w0 w' g D := by
  obtain ⟨F, ⟨gd, gv, A, c, h1⟩, h2, h3, h4, h5⟩ := h
  refine ⟨F, ⟨gd, gv, A, c, h1.upd hu (by simp)⟩, fun k hk => ⟨(h2 k hk).1, fun hm => ?_⟩, h3.trans (hu.toBelow h4 (by simp)), Nat.le_trans h4 hu.size, fun y hy => ?_⟩
  · have := h1.lt k hk
    simp only [List.mem_cons] at hm
    rcases hm with hm | hm
    · omega
    · exact (h2 k hk).2 hm
  · simp only [List.mem_cons] at hy
    rcases hy with rfl | hy
    · exact hx'
    · exact Nat.lt_of_lt_of_le (h5 y hy) hu.size

/-- An append to a row that belongs to X. -/
theorem DiskIn.append {B : Nat} (Y : List Nat) {w0 w w' : World} {g n m c c' size e : Nat} {A A' : Option Addr} {D : DiskS} {o : Obj} {xs ys : List Value} (h : DiskIn B (Y ++ (A.map (·.block)).toList) w0 w g D) (hr : w.ownsRow B e size (.slice A n c) n xs)
    (hu : Upd (A.map (·.block)).toList (w.alloc o) w') (ha : A'.map (·.block) = A.map (·.block) ∨ A'.map (·.block) = some (w.alloc o).heap.size) (hr' : w'.ownsRow B e size (.slice A' m c') m ys) : DiskIn B (Y ++ (A'.map (·.block)).toList) w0 w' g D := by
  have hB : ∀ x ∈ (A.map (·.block)).toList, B ≤ x := fun x hx => (hr.lt x (by rw [ownBlock_slice]; simpa using hx)).1
  have h1 := h.step ((Upd.refl [] w).alloc o) (by simp) (by simp)
  have h2 := h1.step hu (fun x hx => by simp only [List.mem_append]; exact .inr hx) hB
  rcases ha with e | e
  · rw [e]; exact h2
  · rw [e]
    obtain ⟨F, ⟨gd, gv, A2, c2, k1⟩, k2, k3, k4, k5⟩ := h1
    obtain ⟨F', l1, l2, l3, l4, l5⟩ := h2
    have hk := k1.lt
    refine ⟨F, ⟨gd, gv, A2, c2, k1.upd hu (fun k hkm hm => (k2 k hkm).2 (by simp only [List.mem_append]; exact .inr hm))⟩, fun k hkm => ⟨(k2 k hkm).1, fun hm => ?_⟩, l3, l4, fun x hx => ?_⟩
    · have := hk k hkm
      simp only [List.mem_append, Option.toList_some, List.mem_singleton] at hm
      rcases hm with hm | hm
      · exact (k2 k hkm).2 (by simp only [List.mem_append]; exact .inl hm)
      · omega
    · simp only [List.mem_append, Option.toList_some, List.mem_singleton] at hx
      rcases hx with hx | hx
      · exact l5 x (by simp only [List.mem_append]; exact .inl hx)
      · exact (hr'.lt x (by rw [ownBlock_slice, e, hx])).2

/-- What a call leaves of X. -/
def SameAt (X : List Nat) (w w' : World) : Prop := ∀ x ∈ X, w'.heap[x]? = w.heap[x]?
theorem SameAt.blk {X : List Nat} {w w' : World} (h : SameAt X w w') {g : Nat} {t : TypeId} {cs : List Value} (hx : g ∈ X) (hb : Blk w g t cs) : Blk w' g t cs := (h g hx).trans hb

/-- A slice of ints that was just laid. -/
theorem ints_new (w : World) (zs : List Int) (t : TypeId) : Ints (w.alloc (.cells (zs.map (Value.int .i64)).toArray t)).heap.size (w.alloc (.cells (zs.map (Value.int .i64)).toArray t)) (.slice (some ⟨w.heap.size, 0, none⟩) zs.length zs.length) zs :=
  .inr ⟨w.heap.size, 0, zs.length, rfl, by simp, fun j hj => by
    rw [World.cell?_alloc_at _ _ _ _ rfl]
    simp [hj]⟩

theorem SameAt.mono {X X' : List Nat} {w w' : World} (h : SameAt X w w') (hs : ∀ x ∈ X', x ∈ X) : SameAt X' w w' := fun x hx => h x (hs x hx)
theorem own_same {w w' : World} {base e size n c : Nat} {A : Option Addr} {xs : List Value} (h : w.ownsRow base e size (.slice A n c) n xs) (hs : SameAt (A.map (·.block)).toList w w') : w'.ownsRow base e size (.slice A n c) n xs := by
  refine ⟨h.1, ?_⟩
  rcases h.2 with h0 | ⟨g, cap, cur, hv, hb, hg, rest⟩
  · exact .inl h0
  · obtain ⟨rfl, rfl⟩ : A = some ⟨g, 0, none⟩ ∧ c = cap := by simpa using hv
    exact .inr ⟨g, c, cur, rfl, hb, (hs g (by simp)).trans hg, rest⟩
theorem own_base_kept {base : Nat} {e : TypeId} {size n : Nat} {v : Value} {xs : List Value} {l : List Nat} {w w' : World} (h : w.ownsRow base e size v n xs) (hu : Upd l w w') (hn : ∀ k, v.ownBlock = some k → k ∉ l) : w'.ownsRow base e size v n xs := own_kept h hu hn
theorem own_zero {base : Nat} {e : TypeId} {size n : Nat} {v : Value} {xs : List Value} {w : World} (h : w.ownsRow base e size v n xs) : w.ownsRow 0 e size v n xs :=
  ⟨h.1, h.2.imp id fun ⟨g, cap, cur, a, _, b⟩ => ⟨g, cap, cur, a, Nat.zero_le _, b⟩⟩

theorem new_in (n : Nat) (B : Nat) (w0 w : World) (hb : Below B w0 w) (hB : B ≤ w.heap.size) (X : List Nat) (hX : ∀ x ∈ X, x < w.heap.size) (h1 : 1 ≤ n) (h2 : n ≤ 4194304) :
    Calls Tryz.prog 24 #[.int .i64 (n : Int)] w fun e w' => ∃ g, e = .returned (.tuple #[.pointer (some ⟨g, 0, none⟩), .int .i64 0]) ∧ DiskIn B X w0 w' g (DiskS.fresh n) ∧ SameAt X w w' ∧ Below w.heap.size w w' := by
  refine (new_good n w h1 h2).mono ?_
  rintro e w' ⟨g, F, rfl, hd, hF, hbel⟩
  have hs := hbel.size
  exact ⟨g, rfl, ⟨F, hd, fun k hk => ⟨Nat.le_trans hB (hF k hk), fun hm => by have := hF k hk; have := hX k hm; omega⟩, hb.trans (hbel.mono hB), by omega, fun x hx => Nat.lt_of_lt_of_le (hX x hx) hs⟩, fun x hx => hbel.block x (hX x hx), hbel⟩

theorem write_in {B : Nat} {X : List Nat} {w0 w : World} {g : Nat} {D : DiskS} (off : Int) (s : ByteArray) (h : DiskIn B X w0 w g D) (hp : D.pend.length ≤ 1000000000) :
    Calls Tryz.prog 13 #[.pointer (some ⟨g, 0, none⟩), .int .i64 off, .string s] w fun e w' => e = .returned (.int .i64 (D.write off s.data.toList).2) ∧ DiskIn B X w0 w' g (D.write off s.data.toList).1 ∧ SameAt X w w' := by
  obtain ⟨F, h1, h2, h3, h4, h5⟩ := h
  refine (write_any off s w h1 hp).mono ?_
  rintro e w' ⟨rfl, hm⟩
  exact ⟨rfl, DiskIn.moved h2 h3 h4 h5 hm⟩
theorem sync_in {B : Nat} {X : List Nat} {w0 w : World} {g : Nat} {D : DiskS} (h : DiskIn B X w0 w g D) :
    Calls Tryz.prog 42 #[.pointer (some ⟨g, 0, none⟩)] w fun e w' => e = .returned (.int .i64 D.sync.2) ∧ DiskIn B X w0 w' g D.sync.1 ∧ SameAt X w w' := by
  obtain ⟨F, h1, h2, h3, h4, h5⟩ := h
  refine (sync_any w h1).mono ?_
  rintro e w' ⟨rfl, hm⟩
  exact ⟨rfl, DiskIn.moved h2 h3 h4 h5 hm⟩
theorem cut_in {B : Nat} {X : List Nat} {w0 w : World} {g : Nat} {D : DiskS} (n : Int) (h : DiskIn B X w0 w g D) (hn : n ≤ 9223372036854775807) :
    Calls Tryz.prog 29 #[.pointer (some ⟨g, 0, none⟩), .int .i64 n] w fun e w' => e = .returned (.int .i64 (D.cut n).2) ∧ DiskIn B X w0 w' g (D.cut n).1 ∧ SameAt X w w' := by
  obtain ⟨F, h1, h2, h3, h4, h5⟩ := h
  refine (cut_any n w h1 hn).mono ?_
  rintro e w' ⟨rfl, hm⟩
  exact ⟨rfl, DiskIn.moved h2 h3 h4 h5 hm⟩
theorem read_in {B : Nat} {X : List Nat} {w0 w : World} {g : Nat} {D : DiskS} (off n : Int) (h : DiskIn B X w0 w g D) :
    Calls Tryz.prog 52 #[.pointer (some ⟨g, 0, none⟩), .int .i64 off, .int .i64 n] w fun e w' => e = .returned (.tuple #[.string ⟨(D.read off n).1.toArray⟩, .int .i64 (D.read off n).2]) ∧ w = w' := by
  obtain ⟨F, h1, _⟩ := h
  exact read_any off n w h1
theorem pending_in {B : Nat} {X : List Nat} {w0 w : World} {g : Nat} {D : DiskS} (h : DiskIn B X w0 w g D) :
    Calls Tryz.prog 32 #[.pointer (some ⟨g, 0, none⟩)] w fun e w' => e = .returned (.int .i64 (D.pend.length : Int)) ∧ w = w' := by
  obtain ⟨F, ⟨gd, gv, A, c, h1⟩, _⟩ := h
  exact pending_any w (h1.head.cell 4)
theorem size_in {B : Nat} {X : List Nat} {w0 w : World} {g : Nat} {D : DiskS} (h : DiskIn B X w0 w g D) :
    Calls Tryz.prog 51 #[.pointer (some ⟨g, 0, none⟩)] w fun e w' => e = .returned (.int .i64 (D.sure.length : Int)) ∧ w = w' := by
  obtain ⟨F, ⟨gd, gv, A, c, h1⟩, _⟩ := h
  exact size_any w (h1.head.cell 2)
end Go.Proofs.YtafjolibfbccbaaGreatDoor

namespace Go.Proofs.YtafjolibfbccbaaGreatDoor
open Go.RowKit
set_option maxRecDepth 100000
set_option maxHeartbeats 4000000

/-- What lies below the call's own blocks and is read. -/
structure Laid (B : Nat) (ks : List Int) (a0 : Addr) (w0 : World) : Prop where
  round : RoundAt w0 ks
  keys : ks.length = 64
  err : ErrAt w0 a0
  roundB : 3 < B
  errB : 0 < B
theorem Laid.later {B : Nat} {ks : List Int} {a0 : Addr} {w0 w : World} (h : Laid B ks a0 w0) (hb : Below B w0 w) : RoundAt w ks ∧ ErrAt w a0 := by
  refine ⟨h.round.below hb h.roundB, ?_⟩
  have h1 := h.err
  unfold ErrAt at h1 ⊢
  exact (World.cell?_of_block (w := w0) (hb.block _ h.errB)).trans h1

/-- A journal and its disk: their blocks lie from B on, outside X. -/
def JIn (B : Nat) (X : List Nat) (w0 w : World) (jb g : Nat) (T : TapeS) (br : Bool) (D : DiskS) : Prop :=
  ∃ A c F, IsTapeAt w B jb 74 A c T [.pointer (some ⟨g, 0, none⟩), .bool br] ∧ IsDisk w F g D ∧ (∀ k ∈ F, B ≤ k ∧ k ∉ X) ∧ (∀ k ∈ jb :: (A.map (·.block)).toList, k ∉ F ∧ k ∉ X) ∧ Below B w0 w ∧ B ≤ w.heap.size ∧ ∀ x ∈ X, x < w.heap.size
theorem JIn.below {B : Nat} {X : List Nat} {w0 w : World} {jb g : Nat} {T : TapeS} {br : Bool} {D : DiskS} (h : JIn B X w0 w jb g T br D) : Below B w0 w := by obtain ⟨_, _, _, _, _, _, _, h, _⟩ := h; exact h
theorem JIn.room {B : Nat} {X : List Nat} {w0 w : World} {jb g : Nat} {T : TapeS} {br : Bool} {D : DiskS} (h : JIn B X w0 w jb g T br D) : B ≤ w.heap.size := by obtain ⟨_, _, _, _, _, _, _, _, h, _⟩ := h; exact h
theorem JIn.ok {B : Nat} {X : List Nat} {w0 w : World} {jb g : Nat} {T : TapeS} {br : Bool} {D : DiskS} (h : JIn B X w0 w jb g T br D) : D.Ok := by
  obtain ⟨_, _, _, _, ⟨_, _, _, _, h⟩, _⟩ := h; exact h.ok
theorem JIn.xlt {B : Nat} {X : List Nat} {w0 w : World} {jb g : Nat} {T : TapeS} {br : Bool} {D : DiskS} (h : JIn B X w0 w jb g T br D) : ∀ x ∈ X, x < w.heap.size := by obtain ⟨_, _, _, _, _, _, _, _, _, h⟩ := h; exact h
theorem tape_lt {w : World} {base tb tt : Nat} {A : Option Addr} {c : Nat} {T : TapeS} {rest : List Value} (h : IsTapeAt w base tb tt A c T rest) : ∀ k ∈ tb :: (A.map (·.block)).toList, k < w.heap.size := by
  intro k hk
  rcases List.mem_cons.1 hk with rfl | hk
  · exact h.2.1.lt
  · exact it_own_lt h.2.2 k (by rw [ownBlock_slice]; simpa using hk)
/-- A step elsewhere. -/
theorem JIn.step {B : Nat} {X : List Nat} {w0 w w' : World} {jb g : Nat} {T : TapeS} {br : Bool} {D : DiskS} (h : JIn B X w0 w jb g T br D) {l : List Nat} (hu : Upd l w w') (hl : ∀ x ∈ l, x ∈ X ∧ B ≤ x) : JIn B X w0 w' jb g T br D := by
  obtain ⟨A, c, F, h1, h2, h3, h4, h5, h6, h7⟩ := h
  exact ⟨A, c, F, h1.stay hu (fun hm => (h4 jb (by simp)).2 (hl _ hm).1) (fun k hk hm => (h4 k (by simp [hk])).2 (hl _ hm).1), h2.upd hu (fun k hk hm => (h3 k hk).2 (hl k hm).1), h3, h4, h5.trans (hu.toBelow h6 (fun x hx => (hl x hx).2)), Nat.le_trans h6 hu.size, fun x hx => Nat.lt_of_lt_of_le (h7 x hx) hu.size⟩
theorem JIn.mono {B : Nat} {X X' : List Nat} {w0 w : World} {jb g : Nat} {T : TapeS} {br : Bool} {D : DiskS} (h : JIn B X w0 w jb g T br D) (hs : ∀ x ∈ X', x ∈ X) : JIn B X' w0 w jb g T br D := by
  obtain ⟨A, c, F, h1, h2, h3, h4, h5, h6, h7⟩ := h
  exact ⟨A, c, F, h1, h2, fun k hk => ⟨(h3 k hk).1, fun hm => (h3 k hk).2 (hs k hm)⟩, fun k hk => ⟨(h4 k hk).1, fun hm => (h4 k hk).2 (hs k hm)⟩, h5, h6, fun x hx => h7 x (hs x hx)⟩
/-- New blocks join X. -/
theorem JIn.more {B : Nat} {X : List Nat} {w0 w w' : World} {jb g : Nat} {T : TapeS} {br : Bool} {D : DiskS} (h : JIn B X w0 w jb g T br D) {l : List Nat} (hu : Upd l w w') (hl : ∀ x ∈ l, x ∈ X ∧ B ≤ x) (Y : List Nat) (hY : ∀ y ∈ Y, y ∈ X ∨ w.heap.size ≤ y ∧ y < w'.heap.size) : JIn B (Y ++ X) w0 w' jb g T br D := by
  have hs := hu.size
  obtain ⟨A, c, F, h1, h2, h3, h4, h5, h6, h7⟩ := h
  have hlt := h2.lt_
  have hlt2 := tape_lt h1
  obtain ⟨A', c', F', k⟩ := (show JIn B X w0 w' jb g T br D from JIn.step ⟨A, c, F, h1, h2, h3, h4, h5, h6, h7⟩ hu hl)
  have hj := (show JIn B X w0 w' jb g T br D from JIn.step ⟨A, c, F, h1, h2, h3, h4, h5, h6, h7⟩ hu hl)
  refine ⟨A, c, F, h1.stay hu (fun hm => (h4 jb (by simp)).2 (hl _ hm).1) (fun k hk hm => (h4 k (by simp [hk])).2 (hl _ hm).1), h2.upd hu (fun k hk hm => (h3 k hk).2 (hl k hm).1), fun k hk => ⟨(h3 k hk).1, fun hm => ?_⟩, fun k hk => ⟨(h4 k hk).1, fun hm => ?_⟩, hj.below, hj.room, fun x hx => ?_⟩
  · rcases List.mem_append.1 hm with hm | hm
    · rcases hY k hm with h | h
      · exact (h3 k hk).2 h
      · have := hlt k hk; omega
    · exact (h3 k hk).2 hm
  · rcases List.mem_append.1 hm with hm | hm
    · rcases hY k hm with h | h
      · exact (h4 k hk).2 h
      · have := hlt2 k hk; omega
    · exact (h4 k hk).2 hm
  · rcases List.mem_append.1 hx with hm | hm
    · rcases hY x hm with h | h
      · have := h7 x h; omega
      · exact h.2
    · have := h7 x hm; omega
/-- The disk of a journal: the journal's blocks are outside it. -/
theorem JIn.disk {B : Nat} {X : List Nat} {w0 w : World} {jb g : Nat} {T : TapeS} {br : Bool} {D : DiskS} (h : JIn B X w0 w jb g T br D) :
    ∃ A c, IsTapeAt w B jb 74 A c T [.pointer (some ⟨g, 0, none⟩), .bool br] ∧ DiskIn B ((jb :: (A.map (·.block)).toList) ++ X) w0 w g D ∧ ∀ k ∈ jb :: (A.map (·.block)).toList, k ∉ X := by
  obtain ⟨A, c, F, h1, h2, h3, h4, h5, h6, h7⟩ := h
  refine ⟨A, c, h1, ⟨F, h2, fun k hk => ⟨(h3 k hk).1, fun hm => ?_⟩, h5, h6, fun x hx => ?_⟩, fun k hk => (h4 k hk).2⟩
  · rcases List.mem_append.1 hm with hm | hm
    · exact (h4 k hm).1 hk
    · exact (h3 k hk).2 hm
  · rcases List.mem_append.1 hx with hm | hm
    · exact tape_lt h1 x hm
    · exact h7 x hm
theorem tape_same {w w' : World} {base tb tt : Nat} {A : Option Addr} {c : Nat} {T : TapeS} {rest : List Value} (h : IsTapeAt w base tb tt A c T rest) (hs : SameAt (tb :: (A.map (·.block)).toList) w w') : IsTapeAt w' base tb tt A c T rest :=
  ⟨h.1, hs.blk (by simp) h.2.1, own_same h.2.2 (hs.mono (fun x hx => by simp [hx]))⟩
theorem JIn.ofDisk {B : Nat} {X : List Nat} {w0 w w' : World} {jb g : Nat} {T : TapeS} {br : Bool} {D : DiskS} {A : Option Addr} {c : Nat} (h1 : IsTapeAt w B jb 74 A c T [.pointer (some ⟨g, 0, none⟩), .bool br]) (h2 : ∀ k ∈ jb :: (A.map (·.block)).toList, k ∉ X)
    (h : DiskIn B ((jb :: (A.map (·.block)).toList) ++ X) w0 w' g D) (hs : SameAt ((jb :: (A.map (·.block)).toList) ++ X) w w') : JIn B X w0 w' jb g T br D ∧ SameAt X w w' := by
  obtain ⟨F, k1, k2, k3, k4, k5⟩ := h
  refine ⟨⟨A, c, F, tape_same h1 (hs.mono (fun x hx => List.mem_append_left _ hx)), k1, fun k hk => ⟨(k2 k hk).1, fun hm => (k2 k hk).2 (List.mem_append_right _ hm)⟩, fun k hk => ⟨fun hm => (k2 k hm).2 (List.mem_append_left _ hk), h2 k hk⟩, k3, k4, fun x hx => k5 x (List.mem_append_right _ hx)⟩, hs.mono (fun x hx => List.mem_append_right _ hx)⟩
/-- A journal is opened. -/
theorem open_in {B : Nat} {X : List Nat} {w0 w : World} {g : Nat} {D : DiskS} {ks : List Int} {a0 : Addr} (hl : Laid B ks a0 w0) (h : DiskIn B X w0 w g D) (hp : D.pend.length ≤ 10000000) :
    Calls Tryz.prog 25 #[.pointer (some ⟨g, 0, none⟩)] w fun e w' => SameAt X w w' ∧ match (OpenS ks D).1 with
      | some T => ∃ jb, e = .returned (.tuple #[.pointer (some ⟨jb, 0, none⟩), .int .i64 0]) ∧ JIn B X w0 w' jb g T false (OpenS ks D).2.1
      | none => e = .returned (.tuple #[.pointer none, .int .i64 (OpenS ks D).2.2]) ∧ DiskIn B X w0 w' g (OpenS ks D).2.1 := by
  obtain ⟨F, h1, h2, h3, h4, h5⟩ := h
  have hla := hl.later h3
  refine (open_journal g a0 ks w h1 hp hla.1 hl.keys hla.2).mono ?_
  rintro e w' ⟨hm, hj⟩
  obtain ⟨hd, hs⟩ := DiskIn.moved h2 h3 h4 h5 hm
  refine ⟨hs, ?_⟩
  revert hj
  cases (OpenS ks D).1 with
  | none => exact fun hj => ⟨hj, hd⟩
  | some T =>
    rintro ⟨jb, A, c, F', rfl, hT, hD', hF', hjF⟩
    have hge : ∀ k ∈ jb :: (A.map (·.block)).toList, w.heap.size ≤ k := tape_ge hT (Nat.le_refl _)
    refine ⟨jb, rfl, A, c, F', ⟨Nat.le_trans h4 hT.1, hT.2.1, it_own_less hT.2.2 h4⟩, hD', fun k hk => ?_, fun k hk => ⟨hjF k hk, fun hx => by have := h5 k hx; have := hge k hk; omega⟩, hd.below, hd.room, ?_⟩
    · rcases hF' k hk with h | h
      · exact h2 k h
      · exact ⟨by omega, fun hx => by have := h5 k hx; omega⟩
    · obtain ⟨_, _, _, _, _, k5⟩ := hd
      exact k5
/-- It is opened again, beside a journal. -/
theorem reopen_in {B : Nat} {X : List Nat} {w0 w : World} {jb g : Nat} {T : TapeS} {br : Bool} {D : DiskS} {ks : List Int} {a0 : Addr} (hl : Laid B ks a0 w0) (h : JIn B X w0 w jb g T br D) (hp : D.pend.length ≤ 10000000) :
    Calls Tryz.prog 25 #[.pointer (some ⟨g, 0, none⟩)] w fun e w' => SameAt X w w' ∧ JIn B X w0 w' jb g T br (OpenS ks D).2.1 ∧ match (OpenS ks D).1 with
      | some T' => ∃ jc A c, e = .returned (.tuple #[.pointer (some ⟨jc, 0, none⟩), .int .i64 0]) ∧ IsTapeAt w' w.heap.size jc 74 A c T' [.pointer (some ⟨g, 0, none⟩), .bool false] ∧ JIn B ((jc :: (A.map (·.block)).toList) ++ X) w0 w' jb g T br (OpenS ks D).2.1
      | none => e = .returned (.tuple #[.pointer none, .int .i64 (OpenS ks D).2.2]) := by
  obtain ⟨A0, c0, F, h1, h2, h3, h4, h5, h6, h7⟩ := h
  have hla := hl.later h5
  refine (open_journal g a0 ks w h2 hp hla.1 hl.keys hla.2).mono ?_
  rintro e w' ⟨hm, hj⟩
  have hlt := tape_lt h1
  have hd0 : DiskIn B ((jb :: (A0.map (·.block)).toList) ++ X) w0 w g D := by
    refine ⟨F, h2, fun k hk => ⟨(h3 k hk).1, fun hm => ?_⟩, h5, h6, fun x hx => ?_⟩
    · rcases List.mem_append.1 hm with hm | hm
      · exact (h4 k hm).1 hk
      · exact (h3 k hk).2 hm
    · rcases List.mem_append.1 hx with hm | hm
      · exact hlt x hm
      · exact h7 x hm
  have hF1 : ∀ k ∈ F, B ≤ k ∧ k ∉ (jb :: (A0.map (·.block)).toList) ++ X := fun k hk => ⟨(h3 k hk).1, fun hm => (List.mem_append.1 hm).elim (fun hm => (h4 k hm).1 hk) (h3 k hk).2⟩
  have hX1 : ∀ x ∈ (jb :: (A0.map (·.block)).toList) ++ X, x < w.heap.size := fun x hx => (List.mem_append.1 hx).elim (hlt x) (h7 x)
  obtain ⟨hd, hs⟩ := DiskIn.moved hF1 h5 h6 hX1 hm
  have hJ := JIn.ofDisk h1 (fun k hk => (h4 k hk).2) hd hs
  refine ⟨hJ.2, hJ.1, ?_⟩
  revert hj
  cases (OpenS ks D).1 with
  | none => exact fun hj => hj
  | some T' =>
    rintro ⟨jc, A, c, F', rfl, hT, hD', hF', hjF⟩
    have hge : ∀ k ∈ jc :: (A.map (·.block)).toList, w.heap.size ≤ k := tape_ge hT (Nat.le_refl _)
    refine ⟨jc, A, c, rfl, hT, A0, c0, F', tape_same h1 (fun x hx => hs x (List.mem_append_left _ hx)), hD', fun k hk => ⟨?_, fun hm => ?_⟩, fun k hk => ⟨fun hm => ?_, fun hm => ?_⟩, hd.below, hd.room, fun x hx => ?_⟩
    · rcases hF' k hk with h | h
      · exact (h3 k h).1
      · omega
    · rcases List.mem_append.1 hm with hm | hm
      · exact hjF k hm hk
      · rcases hF' k hk with h | h
        · exact (h3 k h).2 hm
        · have := h7 k hm; omega
    · rcases hF' k hm with h | h
      · exact (h4 k hk).1 h
      · have := hlt k hk; omega
    · rcases List.mem_append.1 hm with hm | hm
      · have := hge k hm; have := hlt k hk; omega
      · exact (h4 k hk).2 hm
    · rcases List.mem_append.1 hx with hm | hm
      · exact tape_lt hT x hm
      · have := h7 x hm; have := hJ.1.xlt x hm; omega
/-- A group is appended. -/
theorem append_in {B : Nat} {X : List Nat} {w0 w : World} {jb g : Nat} {T : TapeS} {br : Bool} {D : DiskS} {ks : List Int} {a0 : Addr} (la : Option Addr) (n lc : Nat) (l : List ByteArray) (hL : Laid B ks a0 w0) (h : JIn B X w0 w jb g T br D)
    (hl : l.length = n) (hla : n ≤ 1000) (hS : StrsAt w la l) (hb : ∀ s ∈ l, s.size ≤ 1000000000) (hp : D.pend.length ≤ 10000000) (hts : T.size ≤ D.sure.length) (hth : T.head.length ≤ 1000) (htr : T.recs.length ≤ 1000000000) :
    Calls Tryz.prog 10 #[.pointer (some ⟨jb, 0, none⟩), .slice la n lc] w fun e w' => e = .returned (.int .i64 (appendS ks T D br l).2.2.2) ∧ JIn B X w0 w' jb g (appendS ks T D br l).1 (appendS ks T D br l).2.2.1 (appendS ks T D br l).2.1 ∧ SameAt X w w' := by
  have hok := h.ok
  obtain ⟨A, c, F, h1, h2, h3, h4, h5, h6, h7⟩ := h
  have hla2 := hL.later h5
  refine (append_any B jb g A c T br la n lc l ks w h1 h2 (fun k hk => (h4 k hk).1) hla2.1 hL.keys hl hla hS hb hp ⟨hts, hok.max⟩ hth htr h6).mono ?_
  rintro e w' ⟨rfl, A', c', F', k1, k2, k3, k4, k5, k6⟩
  have hjX : jb ∉ X := (h4 jb (by simp)).2
  have hs := k3.size
  refine ⟨rfl, ⟨A', c', F', k1, k2, fun k hk => ?_, fun k hk => ⟨k6 k hk, fun hx => ?_⟩, h5.trans (k3.toBelow h6 (fun x hx => ?_)), by omega, fun x hx => Nat.lt_of_lt_of_le (h7 x hx) hs⟩, fun x hx => k3.block x (h7 x hx) (fun hm => ?_)⟩
  · rcases k4 k hk with h | h
    · exact h3 k h
    · exact ⟨by omega, fun hx => by have := h7 k hx; omega⟩
  · rcases List.mem_cons.1 hk with rfl | hk
    · exact hjX hx
    · rcases k5 k hk with h | h
      · exact (h4 k (by simp [h])).2 hx
      · have := h7 k hx; omega
  · rcases List.mem_cons.1 hx with rfl | hx
    · exact h1.1
    · exact (h3 x hx).1
  · rcases List.mem_cons.1 hm with rfl | hm
    · exact hjX hx
    · exact (h3 x hm).2 hx
theorem append_nil (la : Option Addr) (n lc : Nat) (w : World) : Calls Tryz.prog 10 #[.pointer none, .slice la n lc] w fun e w' => e = .returned (.int .i64 1) ∧ w = w' := by
  go_enter Tryz.func10, Tryz.ntmps10
  go_wp2_with fail
  go_ret
  exact ⟨rfl, rfl⟩
theorem room_in {B : Nat} {X : List Nat} {w0 w : World} {jb g : Nat} {T : TapeS} {br : Bool} {D : DiskS} (h : JIn B X w0 w jb g T br D) (hts : T.size ≤ D.sure.length) :
    Calls Tryz.prog 20 #[.pointer (some ⟨jb, 0, none⟩)] w fun e w' => e = .returned (.int .i64 ((D.sure.length - T.size : Nat) : Int)) ∧ Upd [] w w' := by
  obtain ⟨A, c, F, h1, h2, _⟩ := h
  exact room_any B jb g A c T br w h1 h2 hts
theorem records_in {B : Nat} {X : List Nat} {w0 w : World} {jb g : Nat} {T : TapeS} {br : Bool} {D : DiskS} (h : JIn B X w0 w jb g T br D) (hn : T.recs.length ≤ 1000000000000) :
    Calls Tryz.prog 19 #[.pointer (some ⟨jb, 0, none⟩)] w fun e w' => ∃ A' c', e = .returned (.slice A' T.recs.length c') ∧ w'.ownsRow w.heap.size 9 1 (.slice A' T.recs.length c') T.recs.length (T.recs.map strV) ∧ Upd [] w w' := by
  obtain ⟨A, c, F, h1, h2, _⟩ := h
  exact records_any B jb _ A c T _ w h1 hn
theorem jcut_in {B : Nat} {X : List Nat} {w0 w : World} {jb g : Nat} {T : TapeS} {br : Bool} {D : DiskS} (n : Int) (h : JIn B X w0 w jb g T br D) (hn : n ≤ 9223372036854775807) :
    Calls Tryz.prog 29 #[.pointer (some ⟨g, 0, none⟩), .int .i64 n] w fun e w' => e = .returned (.int .i64 (D.cut n).2) ∧ JIn B X w0 w' jb g T br (D.cut n).1 ∧ SameAt X w w' := by
  obtain ⟨A, c, h1, h2, h3⟩ := h.disk
  refine (cut_in n h2 hn).mono ?_
  rintro e w' ⟨rfl, k1, k2⟩
  exact ⟨rfl, JIn.ofDisk h1 h3 k1 k2⟩
theorem jwrite_in {B : Nat} {X : List Nat} {w0 w : World} {jb g : Nat} {T : TapeS} {br : Bool} {D : DiskS} (off : Int) (s : ByteArray) (h : JIn B X w0 w jb g T br D) (hp : D.pend.length ≤ 1000000000) :
    Calls Tryz.prog 13 #[.pointer (some ⟨g, 0, none⟩), .int .i64 off, .string s] w fun e w' => e = .returned (.int .i64 (D.write off s.data.toList).2) ∧ JIn B X w0 w' jb g T br (D.write off s.data.toList).1 ∧ SameAt X w w' := by
  obtain ⟨A, c, h1, h2, h3⟩ := h.disk
  refine (write_in off s h2 hp).mono ?_
  rintro e w' ⟨rfl, k1, k2⟩
  exact ⟨rfl, JIn.ofDisk h1 h3 k1 k2⟩
theorem jread_in {B : Nat} {X : List Nat} {w0 w : World} {jb g : Nat} {T : TapeS} {br : Bool} {D : DiskS} (off n : Int) (h : JIn B X w0 w jb g T br D) :
    Calls Tryz.prog 52 #[.pointer (some ⟨g, 0, none⟩), .int .i64 off, .int .i64 n] w fun e w' => e = .returned (.tuple #[.string ⟨(D.read off n).1.toArray⟩, .int .i64 (D.read off n).2]) ∧ w = w' := by
  obtain ⟨A, c, h1, h2, h3⟩ := h.disk
  exact read_in off n h2
theorem jsize_in {B : Nat} {X : List Nat} {w0 w : World} {jb g : Nat} {T : TapeS} {br : Bool} {D : DiskS} (h : JIn B X w0 w jb g T br D) :
    Calls Tryz.prog 51 #[.pointer (some ⟨g, 0, none⟩)] w fun e w' => e = .returned (.int .i64 (D.sure.length : Int)) ∧ w = w' := by
  obtain ⟨A, c, h1, h2, h3⟩ := h.disk
  exact size_in h2
theorem jpending_in {B : Nat} {X : List Nat} {w0 w : World} {jb g : Nat} {T : TapeS} {br : Bool} {D : DiskS} (h : JIn B X w0 w jb g T br D) :
    Calls Tryz.prog 32 #[.pointer (some ⟨g, 0, none⟩)] w fun e w' => e = .returned (.int .i64 (D.pend.length : Int)) ∧ w = w' := by
  obtain ⟨A, c, h1, h2, h3⟩ := h.disk
  exact pending_in h2
/-- Opening no disk. -/
theorem open_nil (w : World) : Calls Tryz.prog 25 #[.pointer none] w fun e w' => e = .returned (.tuple #[.pointer none, .int .i64 1]) ∧ w = w' := by
  go_enter Tryz.func25, Tryz.ntmps25
  go_wp2_with fail
  refine bodyPost_ret (v := .tuple #[.pointer none, .int .i64 1]) (by simp [results, Tryz.results25, go_sem]) rfl ?_
  exact ⟨rfl, rfl⟩
end Go.Proofs.YtafjolibfbccbaaGreatDoor
