/-
  The words of the digest: plain definitions; bits.RotateLeft32, mixed.
-/
import Derived.Test.YtafjolibfbccbaaGreatDoorZ4JournalOpensAnythingCard
import Derived.Laws.Bits64
import Derived.Laws.ShiftsVar

namespace Go.Proofs.YtafjolibfbccbaaGreatDoor
open Go.RowKit
set_option maxRecDepth 100000
set_option maxHeartbeats 4000000

/-- A word rotated right by n. -/
def rotS (n : Nat) (x : Int) : Int := bits .or .u32 (x * 2 ^ (32 - n) % 4294967296) (x / 2 ^ n)
def mixS (l : List Nat) (x : Int) : Int := l.foldl (fun o n => bits .xor .u32 o (rotS n x)) 0
theorem mixS_snoc (l : List Nat) (n : Nat) (x : Int) : mixS (l ++ [n]) x = bits .xor .u32 (mixS l x) (rotS n x) := by
  unfold mixS
  rw [List.foldl_append]
  rfl
def Word (x : Int) : Prop := 0 ≤ x ∧ x ≤ 4294967295
theorem rot_and : ∀ n : Nat, n < 32 → 1 ≤ n → bits .and .u64 (IntKind.u64.wrap (-(n : Int))) 31 = ((32 - n : Nat) : Int) := by decide
theorem rotate_any (x : Int) (n : Nat) (w : World) (h1 : 1 ≤ n) (h2 : n < 32) (hx : Word x) :
    Calls Tryz.prog 149 #[.int .u32 x, .int .i64 (-(n : Int))] w fun e w' => e = .returned (.int .u32 (rotS n x)) ∧ w = w' := by
  obtain ⟨q, hq⟩ : ∃ q : Nat, 32 - n = q := ⟨_, rfl⟩
  have ha := rot_and n h2 h1
  rw [hq] at ha
  have hs : IntKind.u64.wrap (32 - (q : Int)) = (n : Int) := by rw [IntKind.wrap_u64]; omega
  have hq32 : q < 32 := by omega
  have hqi : (q : Int) < 32 := by omega
  have hni : (n : Int) < 32 := by omega
  have HR := hide (show rotS n x = bits .or .u32 (x * 2 ^ q % 4294967296) (x / 2 ^ n) by unfold rotS; rw [hq])
  obtain ⟨hx0, hx1⟩ := hx
  clear hq
  go_enter Tryz.func149, Tryz.ntmps149
  go_wp2_with fail
  go_ret
  exact ⟨by rw [HR.out]; rfl, rfl⟩
theorem bits_word (op : BinOp) (a b : Int) : Word (bits op .u32 a b) := by
  unfold Word bits
  rw [IntKind.wrap_u32]
  omega
theorem mixS_word (l : List Nat) (x : Int) : Word (mixS l x) := by
  rcases List.eq_nil_or_concat l with rfl | ⟨p, n, rfl⟩
  · exact ⟨Int.le_refl _, by show (0 : Int) ≤ 4294967295; omega⟩
  · rw [List.concat_eq_append, mixS_snoc]
    exact bits_word _ _ _
/-- mixed -/
theorem mixed_any {n₀ : Nat} (x : Int) (l : List Nat) (a : Option Addr) (c : Nat) (w : World) (hx : Word x) (hl : ∀ n ∈ l, 1 ≤ n ∧ n < 32) (hI : Ints n₀ w (.slice a l.length c) (l.map (fun n : Nat => (n : Int)))) (hm : l.length ≤ 100) :
    Calls Tryz.prog 145 #[.int .u32 x, .slice a l.length c] w fun e w' => e = .returned (.int .u32 (mixS l x)) ∧ w = w' := by
  obtain ⟨m, hlm⟩ : ∃ m, l.length = m := ⟨_, rfl⟩
  rw [hlm] at hI hm ⊢
  have HI := hide hI
  have HL := hide hl
  have HLM := hide hlm
  clear hI hl hlm
  go_enter Tryz.func145, Tryz.ntmps145
  go_wp2_with fail
  go_loop [5, 10] (fun s5 s10 => ∃ (k : Nat) (z : Int), k ≤ m ∧ s10 = .int .i64 k ∧ s5 = .int .u32 z ∧ Hid (z = mixS (l.take k) x)) (fun _ s => m - (intOf s).toNat)
  case atStart => exact ⟨0, 0, Nat.zero_le _, rfl, rfl, hide (by rw [List.take_zero]; rfl)⟩
  case round =>
    obtain ⟨k, z, hk, rfl, rfl, hz⟩ := hrel
    by_cases hkm : k < m
    case neg =>
      obtain rfl : k = m := by omega
      have hki : ¬ (k : Int) < k := by omega
      have HE := hide (show z = mixS l x by rw [hz.out, List.take_of_length_le (by have := HLM.out; omega)])
      go_wp2_with fail
      go_ret
      exact ⟨by rw [HE.out]; rfl, rfl⟩
    have hki : (k : Int) < m := by omega
    have hkw : IntKind.i64.wrap ((k : Int) + 1) = (k : Int) + 1 := Go.IntWalk.i64_in _ (by omega)
    obtain ⟨n, hn⟩ : ∃ n, l[k]? = some n := ⟨_, List.getElem?_eq_getElem (by have := HLM.out; omega)⟩
    obtain ⟨b, o, ea, _, hc⟩ := HI.out.form.2 k (n : Int) (by rw [List.getElem?_map, hn]; rfl)
    subst ea
    have hnb := HL.out n (List.mem_of_getElem? hn)
    have hnw : IntKind.i64.wrap (-(n : Int)) = -(n : Int) := Go.IntWalk.i64_in _ (by omega)
    have HS := hide (show mixS (l.take (k + 1)) x = bits .xor .u32 z (rotS n x) by rw [List.take_add_one, hn, Option.toList_some, mixS_snoc, ← hz.out])
    clear hn
    go_wp2_with fail
    refine (rotate_any x n w hnb.1 hnb.2 hx).mono ?_
    rintro e w' ⟨rfl, rfl⟩
    go_wp2_with fail
    go_round
    case rel => exact ⟨k + 1, bits .xor .u32 z (rotS n x), by omega, by go_num, rfl, hide HS.out.symm⟩
    case measure => simp [intOf] <;> omega
end Go.Proofs.YtafjolibfbccbaaGreatDoor
