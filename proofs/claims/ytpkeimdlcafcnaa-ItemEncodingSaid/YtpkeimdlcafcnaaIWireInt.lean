/-
  wire.Int on the beginning of an encoding.
-/
import Derived.Test.YtpkeimdlcafcnaaIPlainE
namespace Go.Proofs.Ytpkeimdlcafcnaa
open Go.RowKit Go.Shelf
set_option maxRecDepth 100000
set_option maxHeartbeats 40000000

theorem wi_and {b : Nat} (h : b < 256) : bits .and .u8 (b : Int) 127 = ((b % 128 : Nat) : Int) := by
  have : ∀ b : Nat, b < 256 → bits .and .u8 (b : Int) 127 = ((b % 128 : Nat) : Int) := by decide +kernel
  exact this b h
theorem wi_u64 {b : Nat} (h : b < 1000) : IntKind.u64.wrap (b : Int) = b := by rw [IntKind.wrap_u64]; omega
theorem wi_or0 {b : Nat} (h : b < 128) : bits .or .u64 0 (b : Int) = b := by
  have : ∀ b : Nat, b < 128 → bits .or .u64 0 (b : Int) = b := by decide +kernel
  exact this b h
theorem wi_and1 {x z : Nat} (h : x < 200) (e : 2 * x = z) : bits .and .u64 (z : Int) 1 = 0 := by
  have : ∀ x : Nat, x < 200 → bits .and .u64 ((2 * x : Nat) : Int) 1 = 0 := by decide +kernel
  rw [← e]; exact this x h
theorem wi_xor {x : Nat} (h : x < 200) : bits .xor .i64 (x : Int) 0 = x := by
  have : ∀ x : Nat, x < 200 → bits .xor .i64 (x : Int) 0 = x := by decide +kernel
  exact this x h
theorem wireInt1 (s : ByteArray) (b : Nat) (x : Nat) (w : World) (hs : 0 < s.size) (hb : s[0].toNat = b) (hb1 : b < 128) (hx : 2 * x = b) (hsz : s.size ≤ maxLen) :
    Calls Try.prog 36 #[.string s, .int .i64 0] w fun e w' => e = .returned (.tuple #[.int .i64 x, .int .i64 1, .int .i64 0]) ∧ w = w' := by
  have hs0 : ¬ s.size = 0 := by omega
  have hmx : s.size ≤ 9223372036854775807 := by unfold maxLen at hsz; omega
  have a1 := wi_and (b := b) (by omega)
  rw [Nat.mod_eq_of_lt hb1] at a1
  have a2 := wi_u64 (b := b) (by omega)
  have a3 := wi_or0 hb1
  have a4 := wi_and1 (x := x) (z := b) (by omega) hx
  have a5 := wi_xor (x := x) (by omega)
  have a6 : (b : Int) / 2 = x := by omega
  have a7 : IntKind.i64.wrap (x : Int) = x := Go.IntWalk.i64_in _ (by omega)
  have a8 : ¬ (x : Int) < -4611686018427387903 := by omega
  have HX := hide hx
  clear hx hsz
  go_enter Try.func36, Try.ntmps36
  go_wp2_with fail
  go_loopw [7, 19] (fun s7 s19 wr => s7 = .int .u64 0 ∧ s19 = .int .i64 0 ∧ Hid (w = wr)) (fun _ _ _ => 0)
  case atStart => exact ⟨rfl, rfl, rfl⟩
  case round =>
    obtain ⟨rfl, rfl, hw⟩ := hrel
    obtain rfl := hw.out
    clear hw
    by_cases hb0 : b = 0
    · have hb0b : ((b : Int) == 0) = true := by simp [hb0]
      clear hb0
      go_wp2_with fail
      refine bodyPost_ret (v := .tuple #[.int .i64 x, .int .i64 1, .int .i64 0]) (by simp [results, Try.results36, go_sem]) rfl ⟨rfl, rfl⟩
    · have hb0b : ((b : Int) == 0) = false := by simp [hb0]
      clear hb0
      go_wp2_with fail
      refine bodyPost_ret (v := .tuple #[.int .i64 x, .int .i64 1, .int .i64 0]) (by simp [results, Try.results36, go_sem]) rfl ⟨rfl, rfl⟩
theorem wi_or7 {x z l h : Nat} (hx : x < 200) (e : 2 * x = z) (el : z % 128 = l) (eh : z / 128 = h) : bits .or .u64 (l : Int) ((h : Int) * 128) = z := by
  have : ∀ x : Nat, x < 200 → bits .or .u64 ((2 * x % 128 : Nat) : Int) (((2 * x / 128 : Nat) : Int) * 128) = ((2 * x : Nat) : Int) := by decide +kernel
  subst e
  subst el eh
  exact this x hx
theorem wireInt2 (s : ByteArray) (b0 b1 l z : Nat) (x : Nat) (w : World) (hs : 1 < s.size) (hb0 : s[0].toNat = b0) (hb1 : s[1].toNat = b1) (hx : x < 200) (hz : 2 * x = z) (hl : z % 128 = l) (hh : z / 128 = b1) (hb : b0 = l + 128) (hp : 0 < b1) (hsz : s.size ≤ maxLen) :
    Calls Try.prog 36 #[.string s, .int .i64 0] w fun e w' => e = .returned (.tuple #[.int .i64 x, .int .i64 2, .int .i64 0]) ∧ w = w' := by
  have hs0 : ¬ s.size = 0 := by omega
  have hs00 : 0 < s.size := by omega
  have hmx : s.size ≤ 9223372036854775807 := by unfold maxLen at hsz; omega
  have b0b : b0 < 256 := by omega
  have b0g : 128 ≤ b0 := by omega
  have b1b : b1 < 128 := by omega
  have a1 : bits .and .u8 (b0 : Int) 127 = (l : Int) := by rw [wi_and b0b]; congr 1; omega
  have a11 : bits .and .u8 (b1 : Int) 127 = (b1 : Int) := by rw [wi_and (by omega)]; congr 1; omega
  have a2 : IntKind.u64.wrap (l : Int) = l := wi_u64 (by omega)
  have a21 : IntKind.u64.wrap (b1 : Int) = b1 := wi_u64 (by omega)
  have a22 : IntKind.u64.wrap ((b1 : Int) * 128) = (b1 : Int) * 128 := by rw [IntKind.wrap_u64]; omega
  have a3 : bits .or .u64 0 (l : Int) = l := wi_or0 (by omega)
  have a31 := wi_or7 hx hz hl hh
  have a4 := wi_and1 hx hz
  have a5 := wi_xor hx
  have a6 : (z : Int) / 2 = x := by omega
  have a7 : IntKind.i64.wrap (x : Int) = x := Go.IntWalk.i64_in _ (by omega)
  have a8 : ¬ (x : Int) < -4611686018427387903 := by omega
  have a9 : ((b1 : Int) == 0) = false := by simp; omega
  clear hx hz hl hh hb hsz
  go_enter Try.func36, Try.ntmps36
  go_wp2_with fail
  go_loopw [7, 19] (fun s7 s19 wr => ((s7 = .int .u64 0 ∧ s19 = .int .i64 0) ∨ (s7 = .int .u64 l ∧ s19 = .int .i64 1)) ∧ Hid (w = wr)) (fun _ k _ => 1 - (intOf k).toNat)
  case atStart => exact ⟨.inl ⟨rfl, rfl⟩, rfl⟩
  case round =>
    obtain ⟨⟨rfl, rfl⟩ | ⟨rfl, rfl⟩, hw⟩ := hrel
    · obtain rfl := hw.out
      clear hw
      go_wp2_with fail
      go_roundw
      case rel => exact ⟨.inr ⟨rfl, rfl⟩, by first | exact hide rfl | exact hide trivial⟩
      case measure => simp [intOf]
    · obtain rfl := hw.out
      clear hw
      go_wp2_with fail
      go_ret3
      exact ⟨rfl, rfl⟩
theorem enc_small {i : It} (h : ItOk i) : (encS i).length ≤ 1000 := by
  have h1 := flatPut_length (allS i) (allS_bounds h)
  have h2 : (allS i).length ≤ 24 := by
    rw [allS_form]
    simp only [List.length_cons, List.length_append, flatSp_length]
    have := h.2.1.1.2
    have := h.2.1.2.2
    omega
  unfold encS
  omega
theorem u8_nat {n : Nat} (h : n < 256) : (UInt8.ofNat n).toNat = n := by simp; omega
theorem wireInt (i : It) (h : ItOk i) (w : World) :
    Calls Try.prog 36 #[.string ⟨(encS i).toArray⟩, .int .i64 0] w fun e w' => (∃ n : Int, e = .returned (.tuple #[.int .i64 i.id, .int .i64 n, .int .i64 0])) ∧ w = w' := by
  have hsm := enc_small h
  obtain ⟨r, hr⟩ := enc_head i
  obtain ⟨x, hx⟩ : ∃ x : Nat, i.id = x := ⟨i.id.toNat, by have := h.1.1; omega⟩
  have hx200 : x < 200 := by have := h.1.1; omega
  have hp : putS i.id = grpsB (2 * x) := by
    show grpsB (zigS i.id) = _
    unfold zigS
    rw [if_neg (by omega)]
    congr 1
    omega
  rw [hr, hp] at hsm ⊢
  rw [hx]
  have hml : (1000 : Nat) ≤ maxLen := by decide
  by_cases hb : 2 * x < 128
  · rw [grpsB_last hb] at hsm ⊢
    refine (wireInt1 ⟨([UInt8.ofNat (2 * x)] ++ r).toArray⟩ (2 * x) x w (by show 0 < ([UInt8.ofNat (2 * x)] ++ r).toArray.size; simp) (u8_nat (by omega)) hb rfl (by show ([UInt8.ofNat (2 * x)] ++ r).toArray.size ≤ _; rw [List.size_toArray]; omega)).mono ?_
    rintro e w' ⟨rfl, rfl⟩
    exact ⟨⟨1, rfl⟩, rfl⟩
  · rw [grpsB_more hb, grpsB_last (by omega)] at hsm ⊢
    refine (wireInt2 ⟨(UInt8.ofNat (2 * x % 128 + 128) :: [UInt8.ofNat (2 * x / 128)] ++ r).toArray⟩ (2 * x % 128 + 128) (2 * x / 128) (2 * x % 128) (2 * x) x w (by show 1 < (UInt8.ofNat (2 * x % 128 + 128) :: [UInt8.ofNat (2 * x / 128)] ++ r).toArray.size; simp) (u8_nat (by omega)) (u8_nat (by omega)) hx200 rfl rfl rfl rfl (by omega) (by show (UInt8.ofNat (2 * x % 128 + 128) :: [UInt8.ofNat (2 * x / 128)] ++ r).toArray.size ≤ _; rw [List.size_toArray]; omega)).mono ?_
    rintro e w' ⟨rfl, rfl⟩
    exact ⟨⟨2, rfl⟩, rfl⟩
end Go.Proofs.Ytpkeimdlcafcnaa
