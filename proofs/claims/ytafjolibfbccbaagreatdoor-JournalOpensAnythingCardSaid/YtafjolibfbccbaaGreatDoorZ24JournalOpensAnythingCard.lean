/-
  journal.check; (*journal.tape).load.
-/
import Derived.Test.YtafjolibfbccbaaGreatDoorZ23JournalOpensAnythingCard
import Derived.WalkLawsBesides
import Derived.Deep.RegionHeld3

namespace Go.Proofs.YtafjolibfbccbaaGreatDoor
open Go.RowKit
set_option maxRecDepth 100000
set_option maxHeartbeats 40000000

/-- The variable journal.errDamaged holds an error of errors.New's make. -/
def ErrAt (w : World) (a : Addr) : Prop := w.cell? ⟨(0 : Nat), 0, none⟩ = some (.iface 222 (.pointer (some a)))
def damagedV (a : Addr) : Value := .iface 222 (.pointer (some a))
theorem check_ok (w : World) : Calls Tryz.prog 100 #[.bool true] w fun e w' => e = .returned (.tuple #[]) ∧ w = w' := by
  go_enter Tryz.func100, Tryz.ntmps100
  go_wp2_with fail
  go_end0
  exact ⟨rfl, rfl⟩
theorem check_bad (a : Addr) (w : World) (he : ErrAt w a) : Calls Tryz.prog 100 #[.bool false] w fun e w' => e = .panicked [{ v := damagedV a, recovered := false }] ∧ w = w' := by
  have hc : w.cell? ⟨(0 : Nat), 0, none⟩ = some (.iface 222 (.pointer (some a))) := he
  go_enter Tryz.func100, Tryz.ntmps100
  go_wp2_with fail
  exact ⟨rfl, rfl, rfl⟩
/-- What the records of a content are; none: it is damaged. -/
def loadS (ks : List Int) (bs : List UInt8) : Nat → TapeS → Option TapeS
  | 0, T => some T
  | f + 1, T => if T.size < bs.length ∧ bs[T.size]?.getD 0 ≠ 0 then
      if bs[T.size]? = some 1 ∧ (stringS bs (T.size + 1)).2.2 = 0 ∧ (stringS bs (T.size + 1)).2.1.toNat + 32 ≤ bs.length ∧ storedS ks T (stringS bs (T.size + 1)).1 = (bs.drop T.size).take ((stringS bs (T.size + 1)).2.1.toNat + 32 - T.size)
      then loadS ks bs f (T.add ks (stringS bs (T.size + 1)).1) else none
    else some T
def sizeIn (w : World) (tb : Nat) : Nat := match w.cell? ⟨tb, 2, none⟩ with | some (.int _ n) => n.toNat | _ => 0
theorem sizeIn_of {w : World} {base tb tt : Nat} {T : TapeS} {rest : List Value} (h : IsTape w base tb tt T rest) : sizeIn w tb = T.size := by
  obtain ⟨A, c, _, hB, _⟩ := h
  unfold sizeIn
  rw [hB.cell 2]
  rfl
theorem IsTape.upd {w w' : World} {base tb tt : Nat} {T : TapeS} {rest : List Value} {l : List Nat} (h : IsTape w base tb tt T rest) (hu : Upd l w w') (h1 : tb ∉ l) (h2 : ∀ x ∈ l, x < base) (_ : 9 ≠ tt) : IsTape w' base tb tt T rest := by
  obtain ⟨A, c, h0, hB, hO⟩ := h
  exact ⟨A, c, h0, hB.upd hu h1, own_kept hO hu (fun k hk hm => by have := h2 k hm; have := it_own_block hO k hk; omega)⟩
theorem RoundAt.below {base : Nat} {w w' : World} {ks : List Int} (h : RoundAt w ks) (hb : Below base w w') (hn : 3 < base) : RoundAt w' ks := by
  obtain ⟨t, fr, hg⟩ := h
  exact ⟨t, fr, (hb.block _ hn).trans hg⟩
theorem index_str {P : Program} (W : World) {T : TypeId} (hT : P.underlying T = some .string) (s : ByteArray) {bs : List UInt8} (hb : s.data.toList = bs) (q : Nat) (x : UInt8) (hx : bs[q]? = some x) :
    (Instr.index T (.string s) (.int .i64 (q : Int))).run P W = .ok (.int .u8 (x.toNat : Int)) W := by
  have hl : bs.length = s.size := by rw [← hb]; exact Lib.size_eq s ▸ rfl
  have hq : q < s.size := by have := (List.getElem?_eq_some_iff.1 hx).1; omega
  have hv : s[q] = x := by
    subst hb
    have h9 := (List.getElem?_eq_some_iff.1 hx).2
    rw [← h9]
    rfl
  rw [run_index_string W _ s .i64 (q : Int) hT, dif_pos ⟨by omega, by omega⟩]
  simp only [Int.toNat_natCast, hv]
theorem stringS_ok (bs : List UInt8) (a : Nat) (r : List UInt8) (x : Int) (h : stringS bs a = (r, x, 0)) : ∃ k : Nat, x = (k : Int) ∧ a < k ∧ k ≤ bs.length ∧ r.length ≤ 65536 := by
  unfold stringS at h
  split at h
  · rename_i h1; simp only [Prod.mk.injEq] at h; exact absurd h.2.2 h1
  · rename_i h1
    obtain ⟨n, y, e, hi⟩ : ∃ n y e, intS bs a = (n, y, e) := ⟨_, _, _, rfl⟩
    rw [hi] at h h1
    simp only [ne_eq, Decidable.not_not] at h h1
    subst h1
    obtain ⟨k, rfl, hk1, hk2, _⟩ := intS_ok bs a n y hi
    simp only [Int.toNat_natCast] at h
    split at h
    · simp at h
    · rename_i h2
      simp only [Prod.mk.injEq, and_true] at h
      unfold strBad at h2
      refine ⟨k + n.toNat, by rw [← h.2]; omega, by omega, by omega, ?_⟩
      rw [← h.1, List.length_take]
      omega
theorem str_eq {a b : List UInt8} (h : a = b) : (a == b) = true := by simp [h]
theorem str_neq {a b : List UInt8} (h : ¬ a = b) : (a == b) = false := by simp [h]
def LoadPost (ks : List Int) (bs : List UInt8) (base tb tt : Nat) (T0 : TapeS) (rest : List Value) (a0 : Addr) (w : World) (e : Ending) (w' : World) : Prop :=
  Below base w w' ∧ match loadS ks bs (bs.length + 1) T0 with
    | some T => e = .returned (.tuple #[]) ∧ IsTape w' base tb tt T rest
    | none => e = .panicked [{ v := damagedV a0, recovered := false }]
theorem load_any (base tb tt : Nat) (T0 : TapeS) (rest : List Value) (s : ByteArray) (bs : List UInt8) (a0 : Addr) (ks : List Int) (w : World) (hT : IsTape w base tb tt T0 rest) (htt : 9 ≠ tt) (hbase : base ≤ w.heap.size) (hk : RoundAt w ks) (hkl : ks.length = 64)
    (hkb : 3 < base) (he : ErrAt w a0) (heb : 0 < base) (hb : s.data.toList = bs) (hs : s.size ≤ 100000000) (hcond : T0.recs.length ≤ T0.size ∧ T0.size ≤ bs.length ∧ T0.head.length = 32) :
    Calls Tryz.prog 78 #[.pointer (some ⟨tb, 0, none⟩), .string s] w (LoadPost ks bs base tb tt T0 rest a0 w) := by
  obtain ⟨n, hn⟩ : ∃ n, s.size = n := ⟨_, rfl⟩
  have hl : bs.length = n := by rw [← hb, ← hn]; exact Lib.size_eq s ▸ rfl
  have hnb : n ≤ 100000000 := by omega
  have hidx : ∀ (W : World) (q : Nat) (x : UInt8), bs[q]? = some x → (Instr.index 9 (.string s) (.int .i64 (q : Int))).run Tryz.prog W = .ok (.int .u8 (x.toNat : Int)) W := fun W q x hx => index_str W Tryz.underlying9 s hb q x hx
  have HIDX := hide hidx
  have HL := hide hl
  have HB := hide hb
  have HT := hide hT
  have HTT := hide htt
  have HBASE := hide hbase
  have HK := hide hk
  have HKL := hide hkl
  have HKB := hide hkb
  have HE := hide he
  have HEB := hide heb
  have HS0 := hide hs
  have HC := hide hcond
  clear hidx hl hb hT htt hbase hk hkl hkb he heb hs hcond
  go_enter Tryz.func78, Tryz.ntmps78
  go_wp2_with fail
  go_loopw [4] (fun _ wr => ∃ (T : TapeS) (f : Nat), Hid (loadS ks bs (bs.length + 1) T0 = loadS ks bs f T) ∧ Hid (bs.length < f + T.size) ∧ Hid (IsTape wr base tb tt T rest) ∧ Hid (Below base w wr) ∧ Hid (T.recs.length ≤ T.size ∧ T.size ≤ bs.length ∧ T.head.length = 32)) (fun _ wr => bs.length - sizeIn wr tb)
  case atStart => exact ⟨T0, bs.length + 1, rfl, hide (by omega), HT, hide (Below.refl _ _), HC⟩
  case round =>
    obtain ⟨T, f, hS, hF, hIT, hBel, hT3⟩ := hrel
    obtain ⟨wo, rfl⟩ : ∃ x : World, x = wr := ⟨_, rfl⟩
    obtain ⟨f, rfl⟩ : ∃ f', f = f' + 1 := ⟨f - 1, by have := hF.out; have := hT3.out.2.1; omega⟩
    obtain ⟨q, hq⟩ : ∃ q, T.size = q := ⟨_, rfl⟩
    obtain ⟨A, c, _, hBk, hOw⟩ := hIT.out
    have HBk := hide hBk
    clear hBk hOw
    have c2 : wo.cell? ⟨tb, 2, none⟩ = some (.int .i64 (q : Int)) := by rw [← hq]; exact (HBk.out.cell 2).trans rfl
    have hqb : q ≤ n := by have := hT3.out.2.1; have := HL.out; omega
    have HQ := hide hq
    clear hq
    by_cases hqn : q < n
    case neg =>
      have hqi : ¬ (q : Int) < (n : Int) := by omega
      have HE2 := hide (show loadS ks bs (f + 1) T = some T by rw [loadS, if_neg (fun h => by have := h.1; have := HQ.out; have := HL.out; omega)])
      go_wp2_with fail
      go_end0
      refine ⟨hBel.out, ?_⟩
      rw [hS.out, HE2.out]
      exact ⟨rfl, hIT.out⟩
    have hqi : (q : Int) < (n : Int) := by omega
    obtain ⟨x, hx⟩ : ∃ x, bs[q]? = some x := ⟨_, List.getElem?_eq_getElem (by have := HL.out; omega)⟩
    have hix := fun W => HIDX.out W q x hx
    obtain ⟨b, hb⟩ : ∃ b, x.toNat = b := ⟨_, rfl⟩
    rw [hb] at hix
    have hbx : ∀ k : Nat, k < 256 → (b = k ↔ x = UInt8.ofNat k) := fun k hk => by rw [← hb]; exact ⟨fun h => UInt8.toNat_inj.1 (by rw [h, UInt8.toNat_ofNat', Nat.mod_eq_of_lt hk]), fun h => by rw [h, UInt8.toNat_ofNat', Nat.mod_eq_of_lt hk]⟩
    have HX := hide hx
    have HBX := hide hbx
    clear hx hb hbx
    by_cases hb0 : b = 0
    case pos =>
      have hb0b : ((b : Int) != 0) = false := by simp [hb0]
      have HE2 := hide (show loadS ks bs (f + 1) T = some T by rw [loadS, if_neg (fun h => h.2 (by rw [HQ.out, HX.out, (HBX.out 0 (by decide)).1 hb0]; rfl))])
      clear hb0
      go_wp2_with fail
      go_end0
      refine ⟨hBel.out, ?_⟩
      rw [hS.out, HE2.out]
      exact ⟨rfl, hIT.out⟩
    have hb0b : ((b : Int) != 0) = true := by simp [hb0]
    have HGO := hide (show T.size < bs.length ∧ bs[T.size]?.getD 0 ≠ 0 from ⟨by have := HQ.out; have := HL.out; omega, fun h => hb0 ((HBX.out 0 (by decide)).2 (by rw [HQ.out, HX.out] at h; exact h))⟩)
    have hErr := (show ErrAt wo a0 from (hBel.out.cell (p := ⟨_, 0, none⟩) HEB.out).trans HE.out)
    have HErr := hide hErr
    clear hErr
    by_cases hb1 : b = 1
    case neg =>
      have hb1b : ((b : Int) == 1) = false := by simp; omega
      have HE2 := hide (show loadS ks bs (f + 1) T = none by rw [loadS, if_pos HGO.out, if_neg (fun h => hb1 ((HBX.out 1 (by decide)).2 (by have h1 := h.1; rw [HQ.out, HX.out] at h1; exact Option.some.inj h1)))])
      clear hb0 hb1
      go_wp2_with fail
      refine (check_bad a0 wo HErr.out).mono ?_
      rintro e w' ⟨rfl, rfl⟩
      refine ⟨rfl, hBel.out, ?_⟩
      rw [hS.out, HE2.out]
    have hb1b : ((b : Int) == 1) = true := by simp; omega
    have HX1 := hide (show bs[T.size]? = some 1 by rw [HQ.out, HX.out, (HBX.out 1 (by decide)).1 hb1]; rfl)
    have hw1 : IntKind.i64.wrap ((q : Int) + 1) = ((q + 1 : Nat) : Int) := by rw [Go.IntWalk.i64_in _ (by omega)]; omega
    have HSt := hide (string_any s bs (q + 1) wo HB.out (by have := HS0.out; omega) (by omega))
    obtain ⟨rec, nx, e, hr⟩ : ∃ r x e, stringS bs (q + 1) = (r, x, e) := ⟨_, _, _, rfl⟩
    rw [hr] at HSt
    have HR := hide hr
    clear hb0 hb1 hr
    go_wp2_with fail
    refine (check_ok wo).mono ?_
    rintro e9 w' ⟨rfl, rfl⟩
    go_wp2_with fail
    (try rw [show (q : Int) + 1 = ((q + 1 : Nat) : Int) by omega])
    refine HSt.out.mono ?_
    rintro e9 w' ⟨rfl, rfl⟩
    unfold stringV
    by_cases he0 : e = 0
    case neg =>
      have heb0 : ((e : Int) == 0) = false := by simp [he0]
      have HE2 := hide (show loadS ks bs (f + 1) T = none by rw [loadS, if_pos HGO.out, if_neg (fun h => he0 (by have h1 := h.2.1; rw [HQ.out, HR.out] at h1; exact h1))])
      clear he0
      go_wp2_with fail
      refine (check_bad a0 wo HErr.out).mono ?_
      rintro e w' ⟨rfl, rfl⟩
      refine ⟨rfl, hBel.out, ?_⟩
      rw [hS.out, HE2.out]
    subst he0
    obtain ⟨k, rfl, hk1, hk2, hk3⟩ := stringS_ok bs (q + 1) rec nx HR.out
    have hkn : k ≤ n := by have := HL.out; omega
    have hw32 : IntKind.i64.wrap ((k : Int) + 32) = (k : Int) + 32 := Go.IntWalk.i64_in _ (by omega)
    by_cases hk32 : k + 32 ≤ n
    case neg =>
      have hk32i : decide ((k : Int) + 32 ≤ (n : Int)) = false := decide_eq_false (by omega)
      have HE2 := hide (show loadS ks bs (f + 1) T = none by rw [loadS, if_pos HGO.out, if_neg (fun h => by have h1 := h.2.2.1; rw [HQ.out, HR.out] at h1; have := HL.out; simp only at h1; omega)])
      clear hk32
      go_wp2_with fail
      refine (check_bad a0 wo HErr.out).mono ?_
      rintro e w' ⟨rfl, rfl⟩
      refine ⟨rfl, hBel.out, ?_⟩
      rw [hS.out, HE2.out]
    have hk32i : decide ((k : Int) + 32 ≤ (n : Int)) = true := decide_eq_true (by omega)
    go_wp2_with fail
    refine (check_ok wo).mono ?_
    rintro e9 w' ⟨rfl, rfl⟩
    go_upto_region 5 with fail
    have hsl := fun W => slice_str (P := Tryz.prog) W Tryz.underlying9 s HB.out q (k + 32) (by omega) (by omega) (q : Int) ((k : Int) + 32) rfl (by omega)
    have HIdB := hide hBel.out.size
    have HKo := hide (RoundAt.below HK.out hBel.out HKB.out)
    refine wp_region_held_drew (S := (fun _ => True)) (by kernel_rfl) (by exact trivial) (fun hHeld => ?_)
    obtain ⟨wd, hwD⟩ : ∃ x, wo.drew = x := ⟨_, rfl⟩
    have u : Upd [] wo wd := by rw [← hwD]; exact (Upd.refl [] _).drew
    rw [hwD]
    clear hwD
    have hITd := hide (hIT.out.upd u (by simp) (by simp) HTT.out)
    have HKd := hide (HKo.out.upd u (by simp))
    have hBd := hide (hBel.out.trans (u.toBelow (by have := HIdB.out; have := HBASE.out; omega) (by simp)))
    clear u
    refine wpAnyH_take (i := 0) (oi := ?oi0M2) (v := ?v0M2) ?oi0_0M2 (by kernel_rfl) ?ff0M2 ?rr0M2 ?hq0M2 (Or.inl ⟨?hw0M2, ?hy0M2⟩) (by assumption) ?rest0M2
    case oi0_0M2 => conv => lhs; whnf; arg 1; whnf
    case hq0M2 => exact fun _ _ _ h => h
    case ff0M2 | rr0M2 => kernel_rfl
    case hw0M2 => rfl
    case hy0M2 => intro w hSw; (try dsimp only at hSw); first | (go_simp; done) | (go_simp; with_reducible rfl)
    try simp only [Act.put, List.setIfInBounds_toArray, List.set_cons_zero, List.set_cons_succ]
    refine wpAnyH_take (i := 1) (oi := ?oi1M2) (v := ?v1M2) ?oi0_1M2 (by kernel_rfl) ?ff1M2 ?rr1M2 ?hq1M2 (Or.inl ⟨?hw1M2, ?hy1M2⟩) (by assumption) ?rest1M2
    case oi0_1M2 => conv => lhs; whnf; arg 1; whnf
    case hq1M2 => exact fun _ _ _ h => h
    case ff1M2 | rr1M2 => kernel_rfl
    case hw1M2 => rfl
    case hy1M2 => intro w hSw; (try dsimp only at hSw); first | (go_simp; done) | (go_simp; with_reducible rfl)
    try simp only [Act.put, List.setIfInBounds_toArray, List.set_cons_zero, List.set_cons_succ]
    refine wpAnyH_take (i := 3) (oi := ?oi3M2) (v := ?v3M2) ?oi0_3M2 (by kernel_rfl) ?ff3M2 ?rr3M2 ?hq3M2 (Or.inl ⟨?hw3M2, ?hy3M2⟩) (by assumption) ?rest3M2
    case oi0_3M2 => conv => lhs; whnf; arg 1; whnf
    case hq3M2 => exact fun _ _ _ h => h
    case ff3M2 | rr3M2 => kernel_rfl
    case hw3M2 => rfl
    case hy3M2 => intro w hSw; (try dsimp only at hSw); first | (go_simp; done) | (go_simp; with_reducible rfl)
    try simp only [Act.put, List.setIfInBounds_toArray, List.set_cons_zero, List.set_cons_succ]
    refine wpAnyH_take (i := 4) (oi := ?oi4M2) (v := ?v4M2) ?oi0_4M2 (by kernel_rfl) ?ff4M2 ?rr4M2 ?hq4M2 (Or.inl ⟨?hw4M2, ?hy4M2⟩) (by assumption) ?rest4M2
    case oi0_4M2 => conv => lhs; whnf; arg 1; whnf
    case hq4M2 => exact fun _ _ _ h => h
    case ff4M2 | rr4M2 => kernel_rfl
    case hw4M2 => rfl
    case hy4M2 => intro w hSw; (try dsimp only at hSw); first | (go_simp; done) | (go_simp; with_reducible rfl)
    try simp only [Act.put, List.setIfInBounds_toArray, List.set_cons_zero, List.set_cons_succ]
    refine wpAnyH_take (i := 5) (oi := ?oi5M2) (v := ?v5M2) ?oi0_5M2 (by kernel_rfl) ?ff5M2 ?rr5M2 ?hq5M2 (Or.inl ⟨?hw5M2, ?hy5M2⟩) (by assumption) ?rest5M2
    case oi0_5M2 => conv => lhs; whnf; arg 1; whnf
    case hq5M2 => exact fun _ _ _ h => h
    case ff5M2 | rr5M2 => kernel_rfl
    case hw5M2 => rfl
    case hy5M2 => intro w hSw; (try dsimp only at hSw); first | (go_simp; done) | (go_simp; with_reducible rfl)
    try simp only [Act.put, List.setIfInBounds_toArray, List.set_cons_zero, List.set_cons_succ]
    refine wpAnyH_take (i := 6) (oi := ?oi6M2) (v := ?v6M2) ?oi0_6M2 (by kernel_rfl) ?ff6M2 ?rr6M2 ?hq6M2 (Or.inl ⟨?hw6M2, ?hy6M2⟩) (by assumption) ?rest6M2
    case oi0_6M2 => conv => lhs; whnf; arg 1; whnf
    case hq6M2 => exact fun _ _ _ h => h
    case ff6M2 | rr6M2 => kernel_rfl
    case hw6M2 => rfl
    case hy6M2 => intro w hSw; (try dsimp only at hSw); first | (go_simp; done) | (go_simp; with_reducible rfl)
    try simp only [Act.put, List.setIfInBounds_toArray, List.set_cons_zero, List.set_cons_succ]
    refine wpAnyH_take (i := 7) (oi := ?oi7M2) (v := ?v7M2) ?oi0_7M2 (by kernel_rfl) ?ff7M2 ?rr7M2 ?hq7M2 (Or.inl ⟨?hw7M2, ?hy7M2⟩) (by assumption) ?rest7M2
    case oi0_7M2 => conv => lhs; whnf; arg 1; whnf
    case hq7M2 => exact fun _ _ _ h => h
    case ff7M2 | rr7M2 => kernel_rfl
    case hw7M2 => rfl
    case hy7M2 => intro w hSw; (try dsimp only at hSw); first | (go_simp; done) | (go_simp; with_reducible rfl)
    try simp only [Act.put, List.setIfInBounds_toArray, List.set_cons_zero, List.set_cons_succ]
    refine wpAnyH_ready (rs := [2]) (by kernel_rfl) (by simp) (AllReadyH.cons (o := ?oiM3) ?oi0_M3 (fun K hK => ?_) AllReadyH.nil)
    case oi0_M3 => conv => lhs; whnf; arg 1; whnf
    go_simp
    go_at_call 38
    with_reducible (refine (tape_add base tb tt T rest ⟨rec.toArray⟩ ks wd hITd.out HTT.out (by have := hBd.out.size; have := HBASE.out; omega) HKd.out HKL.out HKB.out (by simp [ByteArray.size]; omega) (by have := hT3.out.2.2; omega) (by have := hT3.out; have := HL.out; omega) (by have := hT3.out; have := HL.out; omega)).mono ?_)
    rintro e9 w2 ⟨rfl, hI2, hb2⟩
    have HI2 := hide hI2
    have HB2 := hide (hBd.out.trans hb2)
    clear hI2 hb2 hITd HKd hBd
    obtain ⟨st, hst⟩ : ∃ x, storedS ks T rec = x := ⟨_, rfl⟩
    rw [show storedS ks T (⟨rec.toArray⟩ : ByteArray).data.toList = st from hst]
    have HST := hide hst
    clear hst
    unfold strV
    (try dsimp only)
    refine hK.out _ _ (by exact trivial) (fun hHeld => ?_)
    clear hK K
    try simp only [Act.put, List.setIfInBounds_toArray, List.set_cons_zero, List.set_cons_succ]
    by_cases hcm : st = (bs.drop q).take (k + 32 - q)
    case neg =>
      have hcb := str_neq hcm
      have HE2 := hide (show loadS ks bs (f + 1) T = none by rw [loadS, if_pos HGO.out, if_neg (fun h => hcm (by have h1 := h.2.2.2; rw [HQ.out, HR.out] at h1; simp only [Int.toNat_natCast] at h1; rw [← HST.out]; exact h1))])
      have HErr2 := hide (show ErrAt w2 a0 from (HB2.out.cell (p := ⟨_, 0, none⟩) HEB.out).trans HE.out)
      clear hcm
      refine wpAnyH_take (i := 8) (oi := ?oi8M4) (v := ?v8M4) ?oi0_8M4 (by kernel_rfl) ?ff8M4 ?rr8M4 ?hq8M4 (Or.inl ⟨?hw8M4, ?hy8M4⟩) (by assumption) ?rest8M4
      case oi0_8M4 => conv => lhs; whnf; arg 1; whnf
      case hq8M4 => exact fun _ _ _ h => h
      case ff8M4 | rr8M4 => kernel_rfl
      case hw8M4 => rfl
      case hy8M4 => intro w hSw; (try dsimp only at hSw); first | (go_simp; done) | (go_simp; with_reducible rfl)
      try simp only [Act.put, List.setIfInBounds_toArray, List.set_cons_zero, List.set_cons_succ]
      refine wpAnyH_ready (rs := [9]) (by kernel_rfl) (by simp) (AllReadyH.cons (o := ?oiM5) ?oi0_M5 (fun K hK => ?_) AllReadyH.nil)
      case oi0_M5 => conv => lhs; whnf; arg 1; whnf
      go_simp
      go_at_call 100
      refine (check_bad a0 w2 HErr2.out).mono ?_
      rintro e9 w' ⟨rfl, rfl⟩
      refine ⟨rfl, HB2.out, ?_⟩
      rw [hS.out, HE2.out]
    have hcb := str_eq hcm
    have HE2 := hide (show loadS ks bs (f + 1) T = loadS ks bs f (T.add ks rec) by rw [loadS, if_pos HGO.out, if_pos ⟨HX1.out, by rw [HQ.out, HR.out], by rw [HQ.out, HR.out]; have := HL.out; simp only; omega, by rw [HQ.out, HR.out, HST.out, hcm]; simp only [Int.toNat_natCast]⟩, HQ.out, HR.out])
    have HSZ := hide (show (T.add ks rec).size = k + 32 by
      have h1 : st.length = k + 32 - q := by rw [hcm, List.length_take, List.length_drop]; have := HL.out; omega
      rw [← HST.out] at h1
      unfold storedS at h1
      unfold TapeS.add
      simp only [List.length_cons, List.length_append, chainS_length] at h1
      have := HQ.out
      simp only
      omega)
    clear hcm
    refine wpAnyH_take (i := 8) (oi := ?oi8M6) (v := ?v8M6) ?oi0_8M6 (by kernel_rfl) ?ff8M6 ?rr8M6 ?hq8M6 (Or.inl ⟨?hw8M6, ?hy8M6⟩) (by assumption) ?rest8M6
    case oi0_8M6 => conv => lhs; whnf; arg 1; whnf
    case hq8M6 => exact fun _ _ _ h => h
    case ff8M6 | rr8M6 => kernel_rfl
    case hw8M6 => rfl
    case hy8M6 => intro w hSw; (try dsimp only at hSw); first | (go_simp; done) | (go_simp; with_reducible rfl)
    try simp only [Act.put, List.setIfInBounds_toArray, List.set_cons_zero, List.set_cons_succ]
    refine wpAnyH_ready (rs := [9]) (by kernel_rfl) (by simp) (AllReadyH.cons (o := ?oiM7) ?oi0_M7 (fun K hK => ?_) AllReadyH.nil)
    case oi0_M7 => conv => lhs; whnf; arg 1; whnf
    go_simp
    go_at_call 100
    refine (check_ok w2).mono ?_
    rintro e9 w' ⟨rfl, rfl⟩
    (try dsimp only)
    refine hK.out _ _ (by exact trivial) (fun hHeld => ?_)
    clear hK K
    try simp only [Act.put, List.setIfInBounds_toArray, List.set_cons_zero, List.set_cons_succ]
    refine wpAnyH_done (by kernel_rfl) ?_ _
    go_wp2_with fail
    go_roundw
    case rel => exact ⟨T.add ks rec, f, hide (by rw [hS.out, HE2.out]), hide (by have := HSZ.out; have := hF.out; have := HQ.out; omega), hide (show IsTape w2 base tb tt (T.add ks rec) rest from HI2.out), HB2, hide ⟨by unfold TapeS.add; simp only [List.length_append, List.length_singleton]; have := hT3.out.1; omega, by have := HSZ.out; have := HL.out; omega, by unfold TapeS.add; exact chainS_length _ _ _⟩⟩
    case measure => rw [sizeIn_of (show IsTape w2 base tb tt (T.add ks rec) rest from HI2.out), sizeIn_of hIT.out, HSZ.out, HQ.out]; have := HL.out; omega
end Go.Proofs.YtafjolibfbccbaaGreatDoor
