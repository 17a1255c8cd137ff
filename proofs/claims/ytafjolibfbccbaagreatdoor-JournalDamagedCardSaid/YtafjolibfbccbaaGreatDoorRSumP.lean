/-
  The reference's digest in plain words: its constants, its rotations, the padding.
-/
import Derived.Test.YtafjolibfbccbaaGreatDoorKJoin
namespace Go.Proofs.YtafjolibfbccbaaGreatDoor
open Go.RowKit
set_option maxRecDepth 100000
set_option maxHeartbeats 1000000

def refK : List Int := [1116352408, 1899447441, 3049323471, 3921009573, 961987163, 1508970993, 2453635748, 2870763221, 3624381080, 310598401, 607225278, 1426881987, 1925078388, 2162078206, 2614888103, 3248222580, 3835390401, 4022224774, 264347078, 604807628, 770255983, 1249150122, 1555081692, 1996064986, 2554220882, 2821834349, 2952996808, 3210313671, 3336571891, 3584528711, 113926993, 338241895, 666307205, 773529912, 1294757372, 1396182291, 1695183700, 1986661051, 2177026350, 2456956037, 2730485921, 2820302411, 3259730800, 3345764771, 3516065817, 3600352804, 4094571909, 275423344, 430227734, 506948616, 659060556, 883997877, 958139571, 1322822218, 1537002063, 1747873779, 1955562222, 2024104815, 2227730452, 2361852424, 2428436474, 2756734187, 3204031479, 3329325298]
theorem refK_length : refK.length = 64 := rfl
theorem refK_word : ∀ x ∈ refK, Word x := by unfold Word; decide
theorem or_swap (a b : Int) : bits .or .u32 a b = bits .or .u32 b a := by
  show IntKind.u32.wrap ((BitVec.ofInt 32 a ||| BitVec.ofInt 32 b).toNat : Int) = IntKind.u32.wrap ((BitVec.ofInt 32 b ||| BitVec.ofInt 32 a).toNat : Int)
  rw [BitVec.or_comm]
theorem xor_zero_word {x : Int} (h : Word x) : bits .xor .u32 0 x = x := by
  obtain ⟨n, rfl⟩ : ∃ n : Nat, x = n := ⟨x.toNat, by have := h.1; omega⟩
  have hn : n < 4294967296 := by have := h.2; omega
  have h2 : (BitVec.ofInt 32 (n : Int)).toNat = n := by
    rw [BitVec.ofInt_natCast, BitVec.toNat_ofNat]; exact Nat.mod_eq_of_lt (by omega)
  show IntKind.u32.wrap ((BitVec.ofInt 32 0 ^^^ BitVec.ofInt 32 (n : Int)).toNat : Int) = _
  rw [show BitVec.ofInt 32 0 = 0#32 from rfl, BitVec.zero_xor, h2, IntKind.wrap_u32]
  omega
theorem rotS_word (n : Nat) (x : Int) : Word (rotS n x) := bits_word _ _ _
theorem mixS_two (a b : Nat) (x : Int) : mixS [a, b] x = bits .xor .u32 (rotS a x) (rotS b x) := by
  show bits .xor .u32 (bits .xor .u32 0 (rotS a x)) (rotS b x) = _
  rw [xor_zero_word (rotS_word a x)]
theorem mixS_three (a b c : Nat) (x : Int) : mixS [a, b, c] x = bits .xor .u32 (bits .xor .u32 (rotS a x) (rotS b x)) (rotS c x) := by
  show bits .xor .u32 (bits .xor .u32 (bits .xor .u32 0 (rotS a x)) (rotS b x)) (rotS c x) = _
  rw [xor_zero_word (rotS_word a x)]
theorem rotS_flip (n : Nat) (x : Int) : rotS n x = bits .or .u32 (x / 2 ^ n) (x * 2 ^ (32 - n) % 4294967296) := or_swap _ _
end Go.Proofs.YtafjolibfbccbaaGreatDoor
