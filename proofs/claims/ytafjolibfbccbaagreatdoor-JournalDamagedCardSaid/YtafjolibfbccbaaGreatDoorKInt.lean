/-
  wire.Int and wire.String at any string.
-/
import Derived.Test.YtafjolibfbccbaaGreatDoorKWire
namespace Go.Proofs.YtafjolibfbccbaaGreatDoor
open Go.RowKit Go.Shelf
set_option maxRecDepth 100000
set_option maxHeartbeats 4000000

/-- The number that an encoded number stands for. -/
def unzig (z : Nat) : Int := if z % 2 = 0 then ((z / 2 : Nat) : Int) else -((z / 2 : Nat) : Int) - 1
def intBad (b i z : Nat) : Prop := (b = 0 ∧ 0 < i) ∨ unzig z < -4611686018427387903
instance (b i z : Nat) : Decidable (intBad b i z) := by unfold intBad; infer_instance
def intFrom (bs : List UInt8) (a : Nat) : Nat → Nat → Nat → Int × Int × Int
  | 0, _, _ => (0, 0, 10)
  | f + 1, i, z => match bs[a + i]? with
    | none => (0, 0, 10)
    | some b => if 128 ≤ b.toNat then intFrom bs a f (i + 1) (z + b.toNat % 128 * 2 ^ (7 * i))
      else if intBad b.toNat i (z + b.toNat % 128 * 2 ^ (7 * i)) then (0, 0, 10) else (unzig (z + b.toNat % 128 * 2 ^ (7 * i)), (a + i + 1 : Nat), 0)
def intS (bs : List UInt8) (a : Nat) : Int × Int × Int := if bs.length < a then (0, 0, 2) else intFrom bs a 9 0 0
def intV (r : Int × Int × Int) : Value := .tuple #[.int .i64 r.1, .int .i64 r.2.1, .int .i64 r.2.2]

theorem wi_and127 {b : Nat} (h : b < 256) : bits .and .u8 (b : Int) 127 = ((b % 128 : Nat) : Int) := by
  have : ∀ b : Nat, b < 256 → bits .and .u8 (b : Int) 127 = ((b % 128 : Nat) : Int) := by decide +kernel
  exact this b h
theorem wi_ofInt (a : Nat) (h : a < 18446744073709551616) : (BitVec.ofInt 64 (a : Int)).toNat = a := by
  rw [BitVec.ofInt_natCast, BitVec.toNat_ofNat]; exact Nat.mod_eq_of_lt (by omega)
theorem wi_or (z h i : Nat) (hz : z < 2 ^ i) (hs : z + h * 2 ^ i < 18446744073709551616) : bits .or .u64 (z : Int) ((h * 2 ^ i : Nat) : Int) = ((z + h * 2 ^ i : Nat) : Int) := by
  show IntKind.u64.wrap ((BitVec.ofInt 64 (z : Int) ||| BitVec.ofInt 64 ((h * 2 ^ i : Nat) : Int)).toNat : Int) = _
  rw [BitVec.toNat_or, wi_ofInt z (by omega), wi_ofInt (h * 2 ^ i) (by omega), Nat.or_comm, Nat.mul_comm h, ← Nat.two_pow_add_eq_or_of_lt hz h, IntKind.wrap_u64, Nat.add_comm, Nat.mul_comm]
  rw [Nat.mul_comm] at hs
  have : 2 ^ i * h = h * 2 ^ i := Nat.mul_comm _ _
  omega
theorem wi_xor64 (z : Nat) (hz : z < 9223372036854775808) : bits .xor .i64 ((z / 2 : Nat) : Int) (-((z % 2 : Nat) : Int)) = unzig z := by
  unfold unzig
  by_cases h : z % 2 = 0
  · rw [if_pos h, h]
    show IntKind.i64.wrap ((BitVec.ofInt 64 ((z / 2 : Nat) : Int) ^^^ BitVec.ofInt 64 0).toNat : Int) = _
    rw [show BitVec.ofInt 64 0 = 0#64 by decide, BitVec.xor_zero, wi_ofInt _ (by omega), Go.IntWalk.i64_in _ (by omega)]
  · have h1 : z % 2 = 1 := by omega
    rw [if_neg h, h1]
    show IntKind.i64.wrap ((BitVec.ofInt 64 ((z / 2 : Nat) : Int) ^^^ BitVec.ofInt 64 (-1)).toNat : Int) = _
    rw [show BitVec.ofInt 64 (-1) = BitVec.allOnes 64 by decide, BitVec.xor_allOnes, BitVec.toNat_not, wi_ofInt _ (by omega), IntKind.wrap_i64]
    omega
theorem wi_bit (z : Nat) (hz : z < 18446744073709551616) : bits .and .u64 (z : Int) 1 = ((z % 2 : Nat) : Int) := by
  show IntKind.u64.wrap ((BitVec.ofInt 64 (z : Int) &&& BitVec.ofInt 64 1).toNat : Int) = _
  rw [BitVec.toNat_and, wi_ofInt z hz, show (BitVec.ofInt 64 1).toNat = 1 by decide, Nat.and_one_is_mod, IntKind.wrap_u64]
  omega
theorem unzig_in (z : Nat) (hz : z < 9223372036854775808) : -4611686018427387904 ≤ unzig z ∧ unzig z ≤ 4611686018427387903 := by
  unfold unzig
  split <;> omega
theorem pow7 {i : Nat} (h : i ≤ 9) : 2 ^ (7 * i) ≤ 9223372036854775808 := by
  have : 2 ^ (7 * i) ≤ 2 ^ 63 := Nat.pow_le_pow_right (by omega) (by omega)
  simpa using this

theorem int_any (s : ByteArray) (bs : List UInt8) (a : Nat) (w : World) (hb : s.data.toList = bs) (hs : s.size ≤ 1000000000000) (ha : a ≤ 1000000000000) :
    Calls Tryz.prog 113 #[.string s, .int .i64 (a : Int)] w fun e w' => e = .returned (intV (intS bs a)) ∧ w = w' := by
  obtain ⟨n, hn⟩ : ∃ n, s.size = n := ⟨_, rfl⟩
  have hl : bs.length = n := by rw [← hb, ← hn]; exact Lib.size_eq s ▸ rfl
  have hnb : n ≤ 1000000000000 := by omega
  have hidx : ∀ (W : World) (q : Nat) (x : UInt8), bs[q]? = some x → (Instr.index 9 (.string s) (.int .i64 (q : Int))).run Tryz.prog W = .ok (.int .u8 (x.toNat : Int)) W := by
    intro W q x hx
    have hq : q < s.size := by have := (List.getElem?_eq_some_iff.1 hx).1; omega
    have hv : s[q] = x := by
      subst hb
      have h9 := (List.getElem?_eq_some_iff.1 hx).2
      rw [← h9]
      rfl
    rw [run_index_string W _ s .i64 (q : Int) Tryz.underlying9, dif_pos ⟨by omega, by omega⟩]
    simp only [Int.toNat_natCast, hv]
  have HIDX := hide hidx
  have HL := hide hl
  have HB := hide hb
  clear hidx hl hb hs
  by_cases hna : n < a
  · have hna' : (n : Int) < (a : Int) := by omega
    have HI := hide (show intS bs a = (0, 0, 2) by unfold intS; rw [HL.out, if_pos hna])
    go_enter Tryz.func113, Tryz.ntmps113
    go_wp2_with fail
    refine bodyPost_ret (v := .tuple #[.int .i64 0, .int .i64 0, .int .i64 2]) (by simp [results, Tryz.results113, go_sem]) rfl ⟨?_, rfl⟩
    rw [HI.out]; rfl
  have hna' : ¬ (n : Int) < (a : Int) := by omega
  have HI := hide (show intS bs a = intFrom bs a 9 0 0 by unfold intS; rw [HL.out, if_neg hna])
  go_enter Tryz.func113, Tryz.ntmps113
  go_wp2_with fail
  go_loop [7, 19] (fun s7 s19 => ∃ i z : Nat, i ≤ 9 ∧ z < 2 ^ (7 * i) ∧ s7 = .int .u64 z ∧ s19 = .int .i64 i ∧ Hid (intS bs a = intFrom bs a (9 - i) i z)) (fun _ s => 9 - (intOf s).toNat)
  case atStart => exact ⟨0, 0, by omega, by decide, rfl, rfl, HI⟩
  case round =>
    obtain ⟨i, z, hi, hz, rfl, rfl, hI⟩ := hrel
    by_cases hi9 : i < 9
    case neg =>
      obtain rfl : i = 9 := by omega
      have h99 : ¬ ((9 : Nat) : Int) < 9 := by omega
      clear hz
      go_wp2_with fail
      refine bodyPost_ret (v := .tuple #[.int .i64 0, .int .i64 0, .int .i64 10]) (by simp [results, Tryz.results113, go_sem]) rfl ⟨?_, rfl⟩
      rw [hI.out]; rfl
    have hii : (i : Int) < 9 := by omega
    have hiw : IntKind.i64.wrap ((i : Int) + 1) = (i : Int) + 1 := Go.IntWalk.i64_in _ (by omega)
    obtain ⟨q, hq⟩ : ∃ q, a + i = q := ⟨_, rfl⟩
    have hqw : IntKind.i64.wrap ((a : Int) + (i : Int)) = (q : Int) := by rw [Go.IntWalk.i64_in _ (by omega)]; omega
    obtain ⟨f, hf⟩ : ∃ f, 9 - i = f + 1 := ⟨8 - i, by omega⟩
    have hf2 : f = 9 - (i + 1) := by omega
    cases hx : bs[q]? with
    | none =>
      have hqn : (n : Int) ≤ (q : Int) := by have := List.getElem?_eq_none_iff.1 hx; have := HL.out; omega
      have HE := hide (show intS bs a = (0, 0, 10) by rw [hI.out, hf, intFrom, hq, hx])
      clear hx hz hf hf2 hq
      go_wp2_with fail
      refine bodyPost_ret (v := .tuple #[.int .i64 0, .int .i64 0, .int .i64 10]) (by simp [results, Tryz.results113, go_sem]) rfl ⟨?_, rfl⟩
      rw [HE.out]; rfl
    | some x =>
      have hqn : ¬ (n : Int) ≤ (q : Int) := by have := (List.getElem?_eq_some_iff.1 hx).1; have := HL.out; omega
      have hix := fun W => HIDX.out W q x hx
      have HF := hide (show intS bs a = if 128 ≤ x.toNat then intFrom bs a f (i + 1) (z + x.toNat % 128 * 2 ^ (7 * i)) else if intBad x.toNat i (z + x.toNat % 128 * 2 ^ (7 * i)) then (0, 0, 10) else (unzig (z + x.toNat % 128 * 2 ^ (7 * i)), (a + i + 1 : Nat), 0) by
        rw [hI.out, hf, intFrom, hq, hx])
      obtain ⟨b, hb⟩ : ∃ b, x.toNat = b := ⟨_, rfl⟩
      have hb256 : b < 256 := by rw [← hb]; exact x.toNat_lt
      rw [hb] at hix HF
      obtain ⟨h, hh⟩ : ∃ h, b % 128 = h := ⟨_, rfl⟩
      have hh128 : h < 128 := by omega
      have a1 := wi_and127 hb256
      rw [hh] at a1 HF
      have a2 : IntKind.u64.wrap (h : Int) = (h : Int) := by rw [IntKind.wrap_u64]; omega
      obtain ⟨i7, hi7⟩ : ∃ x, 7 * i = x := ⟨_, rfl⟩
      have a3 : IntKind.i64.wrap (7 * (i : Int)) = (i7 : Int) := by rw [Go.IntWalk.i64_in _ (by omega)]; omega
      have hi64 : i7 < 64 := by omega
      have hi64i : (i7 : Int) < 64 := by omega
      have hp9 := pow7 (i := i + 1) (by omega)
      rw [show 7 * (i + 1) = i7 + 7 by omega, Nat.pow_add] at hp9
      rw [hi7] at hz HF
      have hhp : h * 2 ^ i7 ≤ 127 * 2 ^ i7 := Nat.mul_le_mul_right _ (by omega)
      obtain ⟨z2, hz2⟩ : ∃ x, z + h * 2 ^ i7 = x := ⟨_, rfl⟩
      have hz2b : z2 < 2 ^ (7 * (i + 1)) := by rw [show 7 * (i + 1) = i7 + 7 by omega, Nat.pow_add]; omega
      have hz263 : z2 < 9223372036854775808 := by omega
      obtain ⟨hv, hhv⟩ : ∃ x, h * 2 ^ i7 = x := ⟨_, rfl⟩
      have a4 : IntKind.u64.wrap ((h : Int) * 2 ^ i7) = (hv : Int) := by
        have e : (h : Int) * 2 ^ i7 = (hv : Int) := by rw [← hhv]; norm_cast
        rw [e, IntKind.wrap_u64]; omega
      have a5 := wi_or z h i7 hz (by omega)
      rw [hz2, hhv] at a5
      rw [hz2] at HF
      clear hx hp9 hhp hhv hz2 hh hb hz hI
      by_cases hb128 : 128 ≤ b
      · have hbi : (128 : Int) ≤ (b : Int) := by omega
        have HG := hide (show intS bs a = intFrom bs a (9 - (i + 1)) (i + 1) z2 by rw [HF.out, if_pos hb128, hf2])
        clear hf hf2 hi7
        go_wp2_with fail
        go_round
        case rel => exact ⟨i + 1, z2, by omega, hz2b, rfl, by go_num, HG⟩
        case measure => simp [intOf] <;> omega
      · have hbi : ¬ (128 : Int) ≤ (b : Int) := by omega
        obtain ⟨nn, hnn⟩ : ∃ x, unzig z2 = x := ⟨_, rfl⟩
        have hbad : intBad b i z2 ↔ (b = 0 ∧ 0 < i) ∨ nn < -4611686018427387903 := by unfold intBad; rw [hnn]
        have HG := hide (show intS bs a = if intBad b i z2 then (0, 0, 10) else (nn, ((a + i + 1 : Nat) : Int), 0) by rw [HF.out, if_neg hb128, hnn])
        have hnb2 := unzig_in z2 hz263
        rw [hnn] at hnb2
        obtain ⟨hn1, hn2⟩ := hnb2
        obtain ⟨zh, hzh⟩ : ∃ x, z2 / 2 = x := ⟨_, rfl⟩
        obtain ⟨z1, hz1⟩ : ∃ x, z2 % 2 = x := ⟨_, rfl⟩
        have c1 : (z2 : Int) / 2 = (zh : Int) := by omega
        have c2 := wi_bit z2 (by omega)
        have c4 := wi_xor64 z2 hz263
        rw [hz1] at c2 c4
        rw [hzh, hnn] at c4
        have hz1b : z1 < 2 := by omega
        have c3 : IntKind.i64.wrap (-(z1 : Int)) = -(z1 : Int) := Go.IntWalk.i64_in _ (by omega)
        have c5 : IntKind.i64.wrap (zh : Int) = (zh : Int) := Go.IntWalk.i64_in _ (by omega)
        have c6 : IntKind.i64.wrap ((q : Int) + 1) = (q : Int) + 1 := Go.IntWalk.i64_in _ (by omega)
        have HBAD := hide hbad
        have HQ := hide hq
        clear hf hf2 hi7 hnn hzh hz1 hbad hq hz2b hz263
        by_cases hb0 : b = 0
        · have hb0b : ((b : Int) == 0) = true := by simp [hb0]
          by_cases hi0 : 0 < i
          · have hi0i : (0 : Int) < (i : Int) := by omega
            have HE := hide (show intS bs a = (0, 0, 10) by rw [HG.out, if_pos (HBAD.out.2 (.inl ⟨hb0, hi0⟩))])
            clear hb0
            go_wp2_with fail
            refine bodyPost_ret (v := .tuple #[.int .i64 0, .int .i64 0, .int .i64 10]) (by simp [results, Tryz.results113, go_sem]) rfl ⟨?_, rfl⟩
            rw [HE.out]; rfl
          · have hi0i : ¬ (0 : Int) < (i : Int) := by omega
            by_cases hnm : nn < -4611686018427387903
            · have HE := hide (show intS bs a = (0, 0, 10) by rw [HG.out, if_pos (HBAD.out.2 (.inr hnm))])
              clear hb0
              go_wp2_with fail
              refine bodyPost_ret (v := .tuple #[.int .i64 0, .int .i64 0, .int .i64 10]) (by simp [results, Tryz.results113, go_sem]) rfl ⟨?_, rfl⟩
              rw [HE.out]; rfl
            · have HE := hide (show intS bs a = (nn, ((a + i + 1 : Nat) : Int), 0) by rw [HG.out, if_neg (fun h => (HBAD.out.1 h).elim (fun h => hi0 h.2) hnm)])
              clear hb0
              go_wp2_with fail
              refine bodyPost_ret (v := .tuple #[.int .i64 nn, .int .i64 ((q : Int) + 1), .int .i64 0]) (by simp [results, Tryz.results113, go_sem]) rfl ⟨?_, rfl⟩
              rw [HE.out, ← HQ.out]; rfl
        · have hb0b : ((b : Int) == 0) = false := by simp [hb0]
          by_cases hnm : nn < -4611686018427387903
          · have HE := hide (show intS bs a = (0, 0, 10) by rw [HG.out, if_pos (HBAD.out.2 (.inr hnm))])
            clear hb0
            go_wp2_with fail
            refine bodyPost_ret (v := .tuple #[.int .i64 0, .int .i64 0, .int .i64 10]) (by simp [results, Tryz.results113, go_sem]) rfl ⟨?_, rfl⟩
            rw [HE.out]; rfl
          · have HE := hide (show intS bs a = (nn, ((a + i + 1 : Nat) : Int), 0) by rw [HG.out, if_neg (fun h => (HBAD.out.1 h).elim (fun h => hb0 h.1) hnm)])
            clear hb0
            go_wp2_with fail
            refine bodyPost_ret (v := .tuple #[.int .i64 nn, .int .i64 ((q : Int) + 1), .int .i64 0]) (by simp [results, Tryz.results113, go_sem]) rfl ⟨?_, rfl⟩
            rw [HE.out, ← HQ.out]; rfl
/-- Where a decoding ends. -/
theorem intFrom_ok (bs : List UInt8) (a : Nat) : ∀ (f i z : Nat) (n x : Int), f + i ≤ 9 → z < 2 ^ (7 * i) → intFrom bs a f i z = (n, x, 0) → ∃ k : Nat, x = (k : Int) ∧ a < k ∧ k ≤ bs.length ∧ k ≤ a + 9 ∧ -4611686018427387903 ≤ n ∧ n ≤ 4611686018427387903 := by
  intro f
  induction f with
  | zero => intro i z n x _ _ h; simp [intFrom] at h
  | succ f ih =>
    intro i z n x hf hz h
    rw [intFrom] at h
    cases hx : bs[a + i]? with
    | none => rw [hx] at h; simp at h
    | some b =>
      rw [hx] at h
      simp only at h
      have hlt := (List.getElem?_eq_some_iff.1 hx).1
      have hz2 : z + b.toNat % 128 * 2 ^ (7 * i) < 2 ^ (7 * (i + 1)) := by
        have h1 : b.toNat % 128 * 2 ^ (7 * i) ≤ 127 * 2 ^ (7 * i) := Nat.mul_le_mul_right _ (by omega)
        rw [show 7 * (i + 1) = 7 * i + 7 by omega, Nat.pow_add]
        omega
      by_cases h1 : 128 ≤ b.toNat
      · rw [if_pos h1] at h
        exact ih (i + 1) _ n x (by omega) hz2 h
      · rw [if_neg h1] at h
        by_cases h2 : intBad b.toNat i (z + b.toNat % 128 * 2 ^ (7 * i))
        · rw [if_pos h2] at h; simp at h
        · rw [if_neg h2] at h
          simp only [Prod.mk.injEq, and_true] at h
          have hb := unzig_in _ (Nat.lt_of_lt_of_le hz2 (pow7 (by omega)))
          have h3 : ¬ unzig (z + b.toNat % 128 * 2 ^ (7 * i)) < -4611686018427387903 := fun h => h2 (.inr h)
          exact ⟨a + i + 1, h.2.symm, by omega, by omega, by omega, by omega, by omega⟩
theorem intS_ok (bs : List UInt8) (a : Nat) (n x : Int) (h : intS bs a = (n, x, 0)) : ∃ k : Nat, x = (k : Int) ∧ a < k ∧ k ≤ bs.length ∧ k ≤ a + 9 ∧ -4611686018427387903 ≤ n ∧ n ≤ 4611686018427387903 := by
  unfold intS at h
  by_cases ha : bs.length < a
  · rw [if_pos ha] at h; simp at h
  · rw [if_neg ha] at h
    exact intFrom_ok bs a 9 0 0 n x (by omega) (by decide) h
theorem intFrom_bad (bs : List UInt8) (a : Nat) : ∀ (f i z : Nat) (n x e : Int), intFrom bs a f i z = (n, x, e) → e = 0 ∨ e = 10 := by
  intro f
  induction f with
  | zero => intro i z n x e h; simp [intFrom] at h; omega
  | succ f ih =>
    intro i z n x e h
    rw [intFrom] at h
    cases hx : bs[a + i]? with
    | none => rw [hx] at h; simp at h; omega
    | some b =>
      rw [hx] at h
      simp only at h
      split at h
      · exact ih _ _ n x e h
      · split at h <;> simp at h <;> omega
def strBad (n : Int) (len k : Nat) : Prop := n < 0 ∨ 65536 < n ∨ (len : Int) - (k : Int) < n
instance (n : Int) (len k : Nat) : Decidable (strBad n len k) := by unfold strBad; infer_instance
/-- wire.String: the string, where it ends, the error. -/
def stringS (bs : List UInt8) (a : Nat) : List UInt8 × Int × Int :=
  if (intS bs a).2.2 ≠ 0 then ([], 0, (intS bs a).2.2) else
  if strBad (intS bs a).1 bs.length (intS bs a).2.1.toNat then ([], 0, 10) else
  ((bs.drop (intS bs a).2.1.toNat).take (intS bs a).1.toNat, (intS bs a).2.1 + (intS bs a).1, 0)
def stringV (r : List UInt8 × Int × Int) : Value := .tuple #[.string ⟨r.1.toArray⟩, .int .i64 r.2.1, .int .i64 r.2.2]
theorem str_extract (s : ByteArray) (a b : Nat) : s.extract a b = ⟨((s.data.toList.drop a).take (b - a)).toArray⟩ := by
  apply ByteArray.ext
  apply Array.toList_inj.1
  rw [ByteArray.data_extract, Array.toList_extract, List.extract_eq_take_drop]
theorem slice_str {P : Program} (W : World) {T : TypeId} (hT : P.underlying T = some .string) (s : ByteArray) {bs : List UInt8} (hb : s.data.toList = bs) (i j : Nat) (h1 : i ≤ j) (h2 : j ≤ s.size) (x y : Int) (hx : x = (i : Int)) (hy : y = (j : Int)) :
    (Instr.slice T (.string s) (some (.int .i64 x)) (some (.int .i64 y)) none).run P W = .ok (.string ⟨((bs.drop i).take (j - i)).toArray⟩) W := by
  subst hx hy hb
  rw [run_slice_string W T s .i64 .i64 (i : Int) (j : Int) hT (by omega) (by omega) (by omega), Int.toNat_natCast, Int.toNat_natCast, str_extract]
theorem slice_str_l {P : Program} (W : World) {T : TypeId} (hT : P.underlying T = some .string) (s : ByteArray) {bs : List UInt8} (hb : s.data.toList = bs) (i : Nat) (h2 : i ≤ s.size) (x : Int) (hx : x = (i : Int)) :
    (Instr.slice T (.string s) (some (.int .i64 x)) none none).run P W = .ok (.string ⟨(bs.drop i).toArray⟩) W := by
  subst hx hb
  rw [run_slice_string_l W T s hT .i64 (i : Int) (by omega) (by omega), Int.toNat_natCast, str_extract]
  rw [List.take_of_length_le]
  rw [List.length_drop]
  have : s.data.toList.length = s.size := Lib.size_eq s ▸ rfl
  omega
theorem string_any (s : ByteArray) (bs : List UInt8) (a : Nat) (w : World) (hb : s.data.toList = bs) (hs : s.size ≤ 1000000000000) (ha : a ≤ 1000000000000) :
    Calls Tryz.prog 101 #[.string s, .int .i64 (a : Int)] w fun e w' => e = .returned (stringV (stringS bs a)) ∧ w = w' := by
  have HC := hide (int_any s bs a w hb hs ha)
  obtain ⟨n, x, e, hr⟩ : ∃ n x e, intS bs a = (n, x, e) := ⟨_, _, _, rfl⟩
  have hl : bs.length = s.size := by rw [← hb]; exact Lib.size_eq s ▸ rfl
  rw [hr] at HC
  have HR := hide hr
  have HB := hide hb
  by_cases he : e = 0
  case neg =>
    have hne : ((e : Int) != 0) = true := by simp [he]
    have HE := hide (show stringS bs a = ([], 0, e) by unfold stringS; rw [hr, if_pos he])
    clear hr hb he hs hl
    go_enter Tryz.func101, Tryz.ntmps101
    go_wp2_with fail
    refine HC.out.mono ?_
    rintro e' w' ⟨rfl, rfl⟩
    unfold intV
    go_wp2_with fail
    refine bodyPost_ret (v := .tuple #[.string ⟨#[]⟩, .int .i64 0, .int .i64 e]) (by simp [results, Tryz.results101, go_sem]) rfl ⟨?_, rfl⟩
    rw [HE.out]; rfl
  subst he
  obtain ⟨k, rfl, hk1, hk2, hk3, hn1, hn2⟩ := intS_ok bs a n x hr
  obtain ⟨m, hm⟩ : ∃ m, s.size = m := ⟨_, rfl⟩
  have hkm : k ≤ m := by omega
  have hmb : m ≤ 1000000000000 := by omega
  have HF := hide (show stringS bs a = if strBad n m k then ([], 0, 10) else ((bs.drop k).take n.toNat, (k : Int) + n, 0) by
    unfold stringS
    rw [hr, if_neg (by simp)]
    simp only [Int.toNat_natCast]
    rw [show bs.length = m by omega])
  clear hr hb hs hl hk1 hk2 hk3
  by_cases hbad : strBad n m k
  · have HE := hide (show stringS bs a = ([], 0, 10) by rw [HF.out, if_pos hbad])
    have HBAD := hide hbad
    clear hbad
    go_enter Tryz.func101, Tryz.ntmps101
    go_wp2_with fail
    refine HC.out.mono ?_
    rintro e' w' ⟨rfl, rfl⟩
    unfold intV
    by_cases h1 : n < 0
    · go_wp2_with fail
      refine bodyPost_ret (v := .tuple #[.string ⟨#[]⟩, .int .i64 0, .int .i64 10]) (by simp [results, Tryz.results101, go_sem]) rfl ⟨?_, rfl⟩
      rw [HE.out]; rfl
    by_cases h2 : 65536 < n
    · go_wp2_with fail
      refine bodyPost_ret (v := .tuple #[.string ⟨#[]⟩, .int .i64 0, .int .i64 10]) (by simp [results, Tryz.results101, go_sem]) rfl ⟨?_, rfl⟩
      rw [HE.out]; rfl
    have h3 : (m : Int) - (k : Int) < n := by have := HBAD.out; unfold strBad at this; omega
    go_wp2_with fail
    refine bodyPost_ret (v := .tuple #[.string ⟨#[]⟩, .int .i64 0, .int .i64 10]) (by simp [results, Tryz.results101, go_sem]) rfl ⟨?_, rfl⟩
    rw [HE.out]; rfl
  · have HBAD := hide hbad
    have h1 : ¬ n < 0 := by unfold strBad at hbad; omega
    obtain ⟨q, rfl⟩ : ∃ q : Nat, n = (q : Int) := ⟨n.toNat, by omega⟩
    have h2 : ¬ (65536 : Int) < (q : Int) := by unfold strBad at hbad; omega
    have h3 : ¬ (m : Int) - (k : Int) < (q : Int) := by unfold strBad at hbad; omega
    have HE := hide (show stringS bs a = ((bs.drop k).take q, (k : Int) + (q : Int), 0) by rw [HF.out, if_neg hbad]; rfl)
    have hkq : (k : Int) + (q : Int) ≤ (m : Int) := by omega
    have hkq' : k + q ≤ m := by omega
    have hw1 : IntKind.i64.wrap ((k : Int) + (q : Int)) = (k : Int) + (q : Int) := Go.IntWalk.i64_in _ (by omega)
    have hsl := fun W => slice_str (P := Tryz.prog) W Tryz.underlying9 s HB.out k (k + q) (by omega) (by omega) (k : Int) ((k : Int) + (q : Int)) rfl (by omega)
    rw [show k + q - k = q by omega] at hsl
    clear hbad
    go_enter Tryz.func101, Tryz.ntmps101
    go_wp2_with fail
    refine HC.out.mono ?_
    rintro e' w' ⟨rfl, rfl⟩
    unfold intV
    go_wp2_with fail
    refine bodyPost_ret (v := .tuple #[.string ⟨((bs.drop k).take q).toArray⟩, .int .i64 ((k : Int) + (q : Int)), .int .i64 0]) (by simp [results, Tryz.results101, go_sem]) rfl ⟨?_, rfl⟩
    rw [HE.out]; rfl
end Go.Proofs.YtafjolibfbccbaaGreatDoor
