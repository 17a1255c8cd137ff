/-
  words.digest: the 32 bytes of eight words.
-/
import Derived.Test.YtafjolibfbccbaaGreatDoorHAdd
namespace Go.Proofs.YtafjolibfbccbaaGreatDoor
open Go.RowKit
set_option maxRecDepth 100000
set_option maxHeartbeats 40000000

def dByte (s : List Int) (j : Nat) : Int := IntKind.u8.wrap (wat s (j / 4) / 2 ^ (24 - 8 * (j % 4)))
def digS (s : List Int) : List UInt8 := (List.range 32).map fun j => UInt8.ofNat (dByte s j).toNat
/-- The first n bytes, and zeros behind them. -/
def dCells (s : List Int) (n : Nat) : List Value := (List.range 32).map fun j => .int .u8 (if j < n then dByte s j else 0)
theorem digS_length (s : List Int) : (digS s).length = 32 := by simp [digS]
theorem dByte_in (s : List Int) (j : Nat) : 0 ≤ dByte s j ∧ dByte s j < 256 := by
  unfold dByte
  rw [IntKind.wrap_u8]
  omega
theorem dCells_all (s : List Int) : dCells s (4 * 8) = bCells (digS s) := by
  unfold dCells bCells digS
  rw [List.map_map]
  apply List.map_congr_left
  intro j hj
  rw [if_pos (by simpa using hj)]
  have h := dByte_in s j
  show _ = Value.int .u8 ((UInt8.ofNat (dByte s j).toNat).toNat : Int)
  rw [UInt8.toNat_ofNat', Nat.mod_eq_of_lt (by omega)]
  congr 1
  omega
theorem dCells_free (s : List Int) (n : Nat) (h : n < 32) : (dCells s n)[n]? = some (.int .u8 0) := by
  unfold dCells
  rw [List.getElem?_map, List.getElem?_range h]
  simp
theorem dCells_set (s : List Int) (n : Nat) (h : n < 32) : (dCells s n).set n (.int .u8 (dByte s n)) = dCells s (n + 1) := by
  unfold dCells
  apply List.ext_getElem?
  intro i
  rw [List.getElem?_set, List.getElem?_map, List.getElem?_map]
  by_cases hi : i < 32
  · rw [List.getElem?_range hi]
    by_cases hk : n = i
    · subst hk
      simp [h]
    · rw [if_neg hk]
      simp only [Option.map_some]
      by_cases h1 : i < n
      · rw [if_pos h1, if_pos (by omega)]
      · rw [if_neg h1, if_neg (by omega)]
  · rw [List.getElem?_eq_none (by simp; omega)]
    simp; omega
theorem digest_any (s : List Int) (w : World) (hs : s.length = 8) (hw : ∀ x ∈ s, Word x) :
    Calls Tryz.prog 130 #[.agg (s.map (Value.int .u32)).toArray] w fun e w' => e = .returned (.string ⟨(digS s).toArray⟩) ∧ Upd [] w w' := by
  obtain ⟨x0, x1, x2, x3, x4, x5, x6, x7, rfl⟩ := eight_of s hs
  have HW := hide hw
  clear hw hs
  show Calls Tryz.prog 130 #[.agg #[.int .u32 x0, .int .u32 x1, .int .u32 x2, .int .u32 x3, .int .u32 x4, .int .u32 x5, .int .u32 x6, .int .u32 x7]] w _
  have hidx : ∀ (W : World) (i : Nat), i < 8 → (Instr.index 193 (.agg #[.int .u32 x0, .int .u32 x1, .int .u32 x2, .int .u32 x3, .int .u32 x4, .int .u32 x5, .int .u32 x6, .int .u32 x7]) (.int .i64 (i : Int))).run Tryz.prog W = .ok (.int .u32 (wat [x0, x1, x2, x3, x4, x5, x6, x7] i)) W := by
    intro W i hi
    refine index_agg W Tryz.underlying193 Tryz.underlying109 (by kernel_rfl) i hi _ _ ?_
    match i, hi with
    | 0, _ => rfl
    | 1, _ => rfl
    | 2, _ => rfl
    | 3, _ => rfl
    | 4, _ => rfl
    | 5, _ => rfl
    | 6, _ => rfl
    | 7, _ => rfl
  have HIDX := hide hidx
  clear hidx
  obtain ⟨s, hs⟩ : ∃ s, [x0, x1, x2, x3, x4, x5, x6, x7] = s := ⟨_, rfl⟩
  rw [hs] at HIDX HW ⊢
  have HS := hide hs
  clear hs
  go_enter Tryz.func130, Tryz.ntmps130
  go_upto_region 2 with fail
  obtain ⟨w1, hw⟩ : ∃ x, w.alloc (.cells #[.int .u32 x0, .int .u32 x1, .int .u32 x2, .int .u32 x3, .int .u32 x4, .int .u32 x5, .int .u32 x6, .int .u32 x7] 193) = x := ⟨_, rfl⟩
  have HB1 := hide (show Blk w1 w.heap.size 193 [.int .u32 x0, .int .u32 x1, .int .u32 x2, .int .u32 x3, .int .u32 x4, .int .u32 x5, .int .u32 x6, .int .u32 x7] by rw [← hw]; exact Blk.new w _ _)
  have U1 := hide (show Upd [] w w1 by rw [← hw]; exact (Upd.refl [] _).alloc _)
  have hz1 : w1.heap.size = w.heap.size + 1 := by rw [← hw]; simp
  rw [hw]
  clear hw
  obtain ⟨w2, hw⟩ : ∃ x, w1.alloc (.cells #[.int .u8 0, .int .u8 0, .int .u8 0, .int .u8 0, .int .u8 0, .int .u8 0, .int .u8 0, .int .u8 0, .int .u8 0, .int .u8 0, .int .u8 0, .int .u8 0, .int .u8 0, .int .u8 0, .int .u8 0, .int .u8 0, .int .u8 0, .int .u8 0, .int .u8 0, .int .u8 0, .int .u8 0, .int .u8 0, .int .u8 0, .int .u8 0, .int .u8 0, .int .u8 0, .int .u8 0, .int .u8 0, .int .u8 0, .int .u8 0, .int .u8 0, .int .u8 0] 217) = x := ⟨_, rfl⟩
  have HB2 := hide (show Blk w2 w1.heap.size 217 [.int .u8 0, .int .u8 0, .int .u8 0, .int .u8 0, .int .u8 0, .int .u8 0, .int .u8 0, .int .u8 0, .int .u8 0, .int .u8 0, .int .u8 0, .int .u8 0, .int .u8 0, .int .u8 0, .int .u8 0, .int .u8 0, .int .u8 0, .int .u8 0, .int .u8 0, .int .u8 0, .int .u8 0, .int .u8 0, .int .u8 0, .int .u8 0, .int .u8 0, .int .u8 0, .int .u8 0, .int .u8 0, .int .u8 0, .int .u8 0, .int .u8 0, .int .u8 0] by rw [← hw]; exact Blk.new w1 _ _)
  have U2 := hide (show Upd [] w w2 by rw [← hw]; exact U1.out.alloc _)
  have HB12 := hide (show Blk w2 w.heap.size 193 [.int .u32 x0, .int .u32 x1, .int .u32 x2, .int .u32 x3, .int .u32 x4, .int .u32 x5, .int .u32 x6, .int .u32 x7] by rw [← hw]; exact HB1.out.alloc _)
  rw [hz1] at HB2
  clear hz1
  rw [hw]
  clear hw HB1 U1
  have c0 : w2.cell? ⟨w.heap.size, 0, none⟩ = some (.int .u32 x0) := (HB12.out.cell 0).trans rfl
  have c1 : w2.cell? ⟨w.heap.size, 1, none⟩ = some (.int .u32 x1) := (HB12.out.cell 1).trans rfl
  have c2 : w2.cell? ⟨w.heap.size, 2, none⟩ = some (.int .u32 x2) := (HB12.out.cell 2).trans rfl
  have c3 : w2.cell? ⟨w.heap.size, 3, none⟩ = some (.int .u32 x3) := (HB12.out.cell 3).trans rfl
  have c4 : w2.cell? ⟨w.heap.size, 4, none⟩ = some (.int .u32 x4) := (HB12.out.cell 4).trans rfl
  have c5 : w2.cell? ⟨w.heap.size, 5, none⟩ = some (.int .u32 x5) := (HB12.out.cell 5).trans rfl
  have c6 : w2.cell? ⟨w.heap.size, 6, none⟩ = some (.int .u32 x6) := (HB12.out.cell 6).trans rfl
  have c7 : w2.cell? ⟨w.heap.size, 7, none⟩ = some (.int .u32 x7) := (HB12.out.cell 7).trans rfl
  obtain ⟨b, hb⟩ : ∃ b, w.heap.size + 1 = b := ⟨_, rfl⟩
  rw [hb] at HB2 ⊢
  have HBB := hide hb
  clear hb
  go_upto_region 3 with fail
  clear c0 c1 c2 c3 c4 c5 c6 c7
  replace HB2 := hide (show Blk w2 b 217 (dCells s 0) from HB2.out)
  go_loopw [8] (fun s8 wr => ∃ i : Nat, i ≤ 8 ∧ s8 = .int .i64 i ∧ Hid (Blk wr b 217 (dCells s (4 * i))) ∧ Hid (Upd [b] w2 wr)) (fun s _ => 8 - (intOf s).toNat)
  case atStart => exact ⟨0, Nat.zero_le _, rfl, HB2, hide (Upd.refl _ _)⟩
  case round =>
    obtain ⟨i, hi, rfl, hB, hu⟩ := hrel
    obtain ⟨wo, rfl⟩ : ∃ x : World, x = wr := ⟨_, rfl⟩
    by_cases hi8 : i < 8
    case neg =>
      obtain rfl : i = 8 := by omega
      have hB32 := hide (show Blk wo b 217 (bCells (digS s)) from dCells_all s ▸ hB.out)
      have hconv := run_conv_bytes hB32.out 39 5 9 Tryz.underlying39 Tryz.underlying5 Tryz.underlying9 0 32 32 (by rw [digS_length]; exact Nat.le_refl _)
      have hlong : ¬ ((8 : Nat) : Int) < 8 := by omega
      go_wp2_with fail
      go_ret
      exact ⟨ret_eq (show Value.string ⟨(List.take 32 (digS s)).toArray⟩ = _ by rw [List.take_of_length_le (by rw [digS_length]; exact Nat.le_refl _)]), U2.out.trans hu.out (by simp; have := HBB.out; omega)⟩
    have hii : (i : Int) < 8 := by omega
    have hiw : IntKind.i64.wrap ((i : Int) + 1) = (i : Int) + 1 := Go.IntWalk.i64_in _ (by omega)
    have hix := fun W => HIDX.out W i hi8
    obtain ⟨xw, hxw⟩ : ∃ x, wat s i = x := ⟨_, rfl⟩
    rw [hxw] at hix
    have HXW := hide hxw
    have hwd := wat_word HW.out i
    rw [hxw] at hwd
    have hw0 := hwd.1
    have HWD := hide hwd
    clear hxw hwd
    go_upto_region 6 with fail
    go_loopw [12] (fun s12 wr => ∃ k : Nat, k ≤ 4 ∧ s12 = .int .i64 k ∧ Hid (Blk wr b 217 (dCells s (4 * i + k))) ∧ Hid (Upd [b] wo wr)) (fun s _ => 4 - (intOf s).toNat)
    case atStart => exact ⟨0, Nat.zero_le _, rfl, hB, hide (Upd.refl _ _)⟩
    case round =>
      obtain ⟨k, hk, rfl, hBk, huk⟩ := hrel
      obtain ⟨wx, rfl⟩ : ∃ x : World, x = wr := ⟨_, rfl⟩
      by_cases hk4 : k < 4
      case neg =>
        obtain rfl : k = 4 := by omega
        have hlong : ¬ ((4 : Nat) : Int) < 4 := by omega
        go_wp2_with fail
        go_roundw
        case rel => exact ⟨i + 1, by omega, by go_num, hBk, hide (hu.out.trans huk.out (by simp))⟩
        case measure => simp [intOf] <;> omega
      have hki : (k : Int) < 4 := by omega
      have hkw : IntKind.i64.wrap ((k : Int) + 1) = (k : Int) + 1 := Go.IntWalk.i64_in _ (by omega)
      obtain ⟨n, hn⟩ : ∃ n, 4 * i + k = n := ⟨_, rfl⟩
      rw [hn] at hBk
      have hn32 : n < 32 := by omega
      have hnl : (n : Int) < 32 := by omega
      have e1 : IntKind.i64.wrap (4 * (i : Int)) = 4 * (i : Int) := Go.IntWalk.i64_in _ (by omega)
      have e2 : IntKind.i64.wrap (4 * (i : Int) + (k : Int)) = (n : Int) := by rw [Go.IntWalk.i64_in _ (by omega)]; omega
      obtain ⟨q, hq⟩ : ∃ q, 24 - 8 * k = q := ⟨_, rfl⟩
      have hq32 : q < 32 := by omega
      have hqi : (q : Int) < 32 := by omega
      have e3 : IntKind.i64.wrap (8 * (k : Int)) = 8 * (k : Int) := Go.IntWalk.i64_in _ (by omega)
      have e4 : IntKind.i64.wrap (24 - 8 * (k : Int)) = (q : Int) := by rw [Go.IntWalk.i64_in _ (by omega)]; omega
      have HNX := hide (show (dCells s n).set n (.int .u8 (xw / 2 ^ q % 256)) = dCells s (4 * i + (k + 1)) by rw [← Nat.add_assoc, hn, ← dCells_set s n hn32]; unfold dByte; rw [show n / 4 = i by omega, show n % 4 = k by omega, HXW.out, hq, IntKind.wrap_u8])
      have fn := hBk.out.frozen n
      have cn : wx.cell? ⟨b, n, none⟩ = some (.int .u8 0) := (hBk.out.cell n).trans (dCells_free s n hn32)
      have HN := hide hn
      have HQ := hide hq
      clear hn hq
      go_wp2_with fail
      go_roundw
      case rel => exact ⟨k + 1, by omega, by go_num, hide (by rw [← HNX.out]; exact hBk.out.set_ n _), hide (huk.out.setCell (.inl (by simp)) _)⟩
      case measure => simp [intOf] <;> omega
end Go.Proofs.YtafjolibfbccbaaGreatDoor
