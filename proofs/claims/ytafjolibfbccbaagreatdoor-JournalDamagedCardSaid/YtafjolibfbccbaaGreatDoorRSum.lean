/-
  The reference's digest of a string, and a chain's head.
-/
import Derived.Test.YtafjolibfbccbaaGreatDoorRBlock
import Derived.Test.YtafjolibfbccbaaGreatDoorKSaneW
namespace Go.Proofs.YtafjolibfbccbaaGreatDoor
open Go.RowKit
set_option maxRecDepth 100000
set_option maxHeartbeats 40000000

theorem own_capB {w : World} {base e size n c : Nat} {A : Option Addr} {xs : List Value} (h : w.ownsRow base e size (.slice A n c) n xs) : n ≤ c := by
  rcases h.2 with ⟨hv, h0⟩ | ⟨g, cap, cur, hv, _, _, h1, _⟩
  · omega
  · cases hv; exact h1
theorem own_maxB {w : World} {base e size n c : Nat} {A : Option Addr} {xs : List Value} (h : w.ownsRow base e size (.slice A n c) n xs) : c ≤ maxLen := by
  rcases h.2 with ⟨hv, h0⟩ | ⟨g, cap, cur, hv, _, _, _, h1, _⟩
  · cases hv; exact Nat.zero_le _
  · cases hv; exact h1
theorem own_conv {W : World} {base g n c : Nat} {l : List UInt8} (hrow : W.ownsRow base 5 1 (.slice (some ⟨g, 0, none⟩) n c) n (bCells l)) :
    (convert 39 9 (.slice (some ⟨g, 0, none⟩) n c)).run Tryz.prog W = .ok (.string ⟨l.toArray⟩) W := by
  obtain ⟨bs, hbs⟩ : ∃ bs, ByteArray.mk l.toArray = bs := ⟨_, rfl⟩
  have hn : l.length = n := by have := hrow.1; rw [bCells_length, Nat.mul_one] at this; exact this
  have hsz : bs.size = n := by rw [← hbs]; simp [ByteArray.size]; exact hn
  have hby : Lib.Bytes W g 0 bs := fun i hi => by
    have hil : i < l.length := by omega
    have h2 := World.ownsRow.cells hrow (g := g) rfl i (bCell l[i]) (by unfold bCells; rw [List.getElem?_map, List.getElem?_eq_getElem hil]; rfl)
    rw [plain_add rfl, Nat.zero_add] at h2
    rw [Nat.zero_add, h2]
    subst hbs
    rfl
  have hconv := Lib.run_convert_whole (P := Tryz.prog) W 39 5 9 Tryz.underlying39 Tryz.underlying5 Tryz.underlying9 g 0 bs hby c
  rw [hsz] at hconv
  rw [hconv, hbs]
theorem dig_cell (st : List Int) (j : Nat) (h : j < 32) : ∃ b, (digS st)[j]? = some b ∧ bCell b = .int .u8 (dByte st j) := by
  refine ⟨UInt8.ofNat (dByte st j).toNat, by unfold digS; rw [List.getElem?_map, List.getElem?_range h]; rfl, ?_⟩
  have h9 := dByte_in st j
  unfold bCell
  rw [UInt8.toNat_ofNat']
  congr 1
  omega
theorem dig_next (st : List Int) (k : Nat) (x : Int) (h : k < 8) (hx : wat st k = x) : bCells ((digS st).take (4 * k + 4)) = bCells ((digS st).take (4 * k)) ++ [.int .u8 (IntKind.u8.wrap (x / 16777216)), .int .u8 (IntKind.u8.wrap (x / 65536)), .int .u8 (IntKind.u8.wrap (x / 256)), .int .u8 (IntKind.u8.wrap x)] := by
  obtain ⟨b0, e0, f0⟩ := dig_cell st (4 * k) (by omega)
  obtain ⟨b1, e1, f1⟩ := dig_cell st (4 * k + 1) (by omega)
  obtain ⟨b2, e2, f2⟩ := dig_cell st (4 * k + 2) (by omega)
  obtain ⟨b3, e3, f3⟩ := dig_cell st (4 * k + 3) (by omega)
  unfold dByte at f0 f1 f2 f3
  rw [show 4 * k / 4 = k by omega, show 4 * k % 4 = 0 by omega, hx, show (2 : Int) ^ (24 - 8 * 0) = 16777216 by decide] at f0
  rw [show (4 * k + 1) / 4 = k by omega, show (4 * k + 1) % 4 = 1 by omega, hx, show (2 : Int) ^ (24 - 8 * 1) = 65536 by decide] at f1
  rw [show (4 * k + 2) / 4 = k by omega, show (4 * k + 2) % 4 = 2 by omega, hx, show (2 : Int) ^ (24 - 8 * 2) = 256 by decide] at f2
  rw [show (4 * k + 3) / 4 = k by omega, show (4 * k + 3) % 4 = 3 by omega, hx, show (2 : Int) ^ (24 - 8 * 3) = 1 by decide, Int.ediv_one] at f3
  rw [show 4 * k + 4 = 4 * k + 1 + 1 + 1 + 1 by omega, List.take_add_one, List.take_add_one, List.take_add_one, List.take_add_one, e0, show 4 * k + 1 + 1 = 4 * k + 2 by omega, e1, e2, show 4 * k + 2 + 1 = 4 * k + 3 by omega, e3]
  simp only [Option.toList_some, bCells_append, List.append_assoc]
  rw [show bCells [b0] = [bCell b0] from rfl, show bCells [b1] = [bCell b1] from rfl, show bCells [b2] = [bCell b2] from rfl, show bCells [b3] = [bCell b3] from rfl, f0, f1, f2, f3]
  rfl
theorem extended_any (s : ByteArray) (w : World) (hs : s.size ≤ 1000000000) :
    Calls Tryz.prog 58 #[.string s] w fun e w' => ∃ A c, e = .returned (.slice A (padS s.data.toList).length c) ∧ w'.ownsRow w.heap.size 5 1 (.slice A (padS s.data.toList).length c) (padS s.data.toList).length (bCells (padS s.data.toList)) ∧ Upd [] w w' := by
  obtain ⟨bs, hbs⟩ : ∃ bs, s.data.toList = bs := ⟨_, rfl⟩
  obtain ⟨m, hm⟩ : ∃ m, s.size = m := ⟨_, rfl⟩
  have hbl : bs.length = m := by rw [← hbs, ← hm]; exact Lib.size_eq s ▸ rfl
  have hm9 : m ≤ 1000000000 := by omega
  rw [hbs]
  have HBS := hide hbs
  have HM := hide hm
  have HBL := hide hbl
  clear hbs hbl hs
  go_enter Tryz.func58, Tryz.ntmps58
  go_wp2_with fail
  go_loopw [3, 4] (fun s3 s4 wr => ∃ (k : Nat) (A : Option Addr) (c : Nat), k ≤ m ∧ s3 = .slice A k c ∧ s4 = .int .i64 k ∧ Hid (wr.ownsRow w.heap.size 5 1 (.slice A k c) k (bCells (bs.take k))) ∧ Hid (Upd [] w wr)) (fun _ s _ => m - (intOf s).toNat)
  case atStart => exact ⟨0, none, 0, Nat.zero_le _, rfl, rfl, hide (World.ownsRow_nil _ _ _ _), hide (Upd.refl _ _)⟩
  case round =>
    obtain ⟨k, A, c, hk, rfl, rfl, hO, hU⟩ := hrel
    obtain ⟨wo, rfl⟩ : ∃ x : World, x = wr := ⟨_, rfl⟩
    by_cases hkm : k < m
    case pos =>
      have hki : (k : Int) < m := by omega
      have hkw : IntKind.i64.wrap ((k : Int) + 1) = (k : Int) + 1 := Go.IntWalk.i64_in _ (by omega)
      obtain ⟨x, hx⟩ : ∃ x, bs[k]? = some x := ⟨_, List.getElem?_eq_getElem (by have := HBL.out; omega)⟩
      have hix := fun W => index_str (P := Tryz.prog) W Tryz.underlying9 s HBS.out k x hx
      obtain ⟨y, hy⟩ : ∃ y : Nat, x.toNat = y := ⟨_, rfl⟩
      rw [hy] at hix
      have HE := hide (show bCells (bs.take (k + 1)) = bCells (bs.take k) ++ [.int .u8 (y : Int)] by rw [List.take_add_one, hx, Option.toList_some, bCells_append, ← hy]; rfl)
      clear hx hy
      have O1 := hide (show ∀ u ∈ [Value.int .u8 (y : Int)], u.oneCell' = true by simp [Value.oneCell'])
      have O3 := hide (show k + 1 ≤ maxLen by unfold maxLen; omega)
      have O4 := hide (show (k + 1) * 1 ≤ 140737488355328 by omega)
      have OB := hide (hO.out.alloc (.cells #[.int .u8 (y : Int)] 5))
      have OS := hide (show w.heap.size ≤ (wo.alloc (.cells #[.int .u8 (y : Int)] 5)).heap.size by have := hU.out.size; rw [World.size_alloc]; omega)
      go_wp2_with (at_builtin; refine wpList_append_base rfl (.tmp 12) (.tmp 16) _ rfl w.heap.size 5 _ 1 1 Tryz.underlying39 it_info_byte rfl (by decide) A k c _ rfl OB.out ⟨wo.heap.size, 0, none⟩ 1 1 [.int .u8 (y : Int)] rfl rfl (cell_one_new _ _ _) O1.out O3.out O4.out OS.out ?_; intro A5 c5 w5 h5 u5 _; have H5 := hide h5; have V5 := hide ((hU.out.alloc _).trans u5 (fun z hz => .inr (it_own_block hO.out z (by rw [ownBlock_slice]; simpa using hz)))); clear h5 u5)
      go_roundw
      case rel => exact ⟨k + 1, A5, c5, by omega, rfl, by go_num, hide (by rw [HE.out]; exact H5.out), V5⟩
      case measure => simp [intOf] <;> omega
    obtain rfl : k = m := by omega
    have hki : ¬ (k : Int) < k := by omega
    have HO := hide (show (wo.ownsRow w.heap.size 5 1 (.slice A k c) k (bCells (bs))) from by have h9 := hO.out; rw [List.take_of_length_le (by rw [HBL.out]; exact Nat.le_refl _)] at h9; exact h9)
    clear hO hk hkm
    have O1 := hide (show ∀ u ∈ [Value.int .u8 128], u.oneCell' = true by simp [Value.oneCell'])
    have O3 := hide (show k + 1 ≤ maxLen by unfold maxLen; omega)
    have O4 := hide (show (k + 1) * 1 ≤ 140737488355328 by omega)
    have OB := hide (HO.out.alloc (.cells #[.int .u8 128] 5))
    have OS := hide (show w.heap.size ≤ (wo.alloc (.cells #[.int .u8 128] 5)).heap.size by have := hU.out.size; rw [World.size_alloc]; omega)
    go_wp2_with (at_builtin; refine wpList_append_base rfl (.tmp 18) (.tmp 19) _ rfl w.heap.size 5 _ 1 1 Tryz.underlying39 it_info_byte rfl (by decide) A k c _ rfl OB.out ⟨wo.heap.size, 0, none⟩ 1 1 [.int .u8 128] rfl rfl (cell_one_new _ _ _) O1.out O3.out O4.out OS.out ?_; intro A5 c5 w5 h5 u5 _; have H5 := hide h5; have V5 := hide ((hU.out.alloc _).trans u5 (fun z hz => .inr (it_own_block HO.out z (by rw [ownBlock_slice]; simpa using hz)))); clear h5 u5)
    have HO6 := hide (show (w5.ownsRow w.heap.size 5 1 (.slice A5 (k + 1) c5) (k + 1) (bCells (bs ++ (128 :: List.replicate 0 0)))) by
      have h9 := H5.out
      rw [show bCells bs ++ [Value.int .u8 128] = bCells (bs ++ (128 :: List.replicate 0 0)) by rw [bCells_append]; rfl] at h9
      exact h9)
    have V6 := V5
    clear H5 V5 O1 O3 O4 OB OS HO hU
    obtain ⟨z, hz⟩ : ∃ z, padN k = z := ⟨_, rfl⟩
    have hzb : z < 64 := by rw [← hz]; unfold padN; omega
    have HZM := hide (show (k + 1 + z) % 64 = 56 by rw [← hz]; unfold padN; omega)
    have HZL := hide (show ∀ j, j < z → (k + 1 + j) % 64 ≠ 56 by intro j hj; rw [← hz] at hj; unfold padN at hj; omega)
    have HZZ := hide (show padN k = z from hz)
    clear hz
    go_loopw [3] (fun s3 wr => ∃ (j : Nat) (A : Option Addr) (c : Nat), j ≤ z ∧ s3 = .slice A (k + 1 + j) c ∧ Hid (wr.ownsRow w.heap.size 5 1 (.slice A (k + 1 + j) c) (k + 1 + j) (bCells (bs ++ (128 :: List.replicate j 0)))) ∧ Hid (Upd [] w wr)) (fun s _ => k + 1 + z - sliceLen s)
    case atStart => exact ⟨0, A5, c5, Nat.zero_le _, rfl, HO6, V6⟩
    case round =>
      clear HO6 V6
      obtain ⟨j, A, c, hj, rfl, hO, hU⟩ := hrel
      obtain ⟨wo, rfl⟩ : ∃ x : World, x = wr := ⟨_, rfl⟩
      obtain ⟨nn, hnn⟩ : ∃ x, k + 1 + j = x := ⟨_, rfl⟩
      rw [hnn] at hO ⊢
      have htm : ((nn : Int)).tmod 64 = ((nn % 64 : Nat) : Int) := by rw [Int.tmod_eq_emod_of_nonneg (by omega)]; omega
      by_cases hjz : j < z
      case pos =>
        have hne : (((nn : Int) % 64) != 56) = true := by
          have h1 := HZL.out j hjz
          rw [hnn] at h1
          simp; omega
        have hne2 : (((nn % 64 : Nat) : Int) != 56) = true := by
          have h1 := HZL.out j hjz
          rw [hnn] at h1
          simp; omega
        have hnb : nn ≤ 1000000100 := by omega
        have HNN := hide hnn
        clear hnn
        have O1 := hide (show ∀ u ∈ [Value.int .u8 0], u.oneCell' = true by simp [Value.oneCell'])
        have O3 := hide (show nn + 1 ≤ maxLen by unfold maxLen; omega)
        have O4 := hide (show (nn + 1) * 1 ≤ 140737488355328 by omega)
        have OB := hide (hO.out.alloc (.cells #[.int .u8 0] 5))
        have OS := hide (show w.heap.size ≤ (wo.alloc (.cells #[.int .u8 0] 5)).heap.size by have := hU.out.size; rw [World.size_alloc]; omega)
        go_wp2_with (at_builtin; refine wpList_append_base rfl (.tmp 25) (.tmp 26) _ rfl w.heap.size 5 _ 1 1 Tryz.underlying39 it_info_byte rfl (by decide) A nn c _ rfl OB.out ⟨wo.heap.size, 0, none⟩ 1 1 [.int .u8 0] rfl rfl (cell_one_new _ _ _) O1.out O3.out O4.out OS.out ?_; intro A5 c5 w5 h5 u5 _; have H5 := hide h5; have V5 := hide ((hU.out.alloc _).trans u5 (fun z hz => .inr (it_own_block hO.out z (by rw [ownBlock_slice]; simpa using hz)))); clear h5 u5)
        go_roundw
        case rel => exact ⟨j + 1, A5, c5, by omega, by rw [show k + 1 + (j + 1) = nn + 1 by have := HNN.out; omega], hide (by
          rw [show k + 1 + (j + 1) = nn + 1 by have := HNN.out; omega]
          have h9 := H5.out
          rw [show ([Value.int .u8 0] : List Value) = bCells [0] from rfl, ← bCells_append, show bs ++ (128 :: List.replicate j 0) ++ [0] = bs ++ (128 :: List.replicate (j + 1) 0) by rw [List.replicate_succ']; simp] at h9
          exact h9), V5⟩
        case measure => have := HNN.out; simp [sliceLen] <;> omega
      obtain rfl : j = z := by omega
      have hne : (((nn : Int) % 64) != 56) = false := by
        have h1 := HZM.out
        rw [hnn] at h1
        simp; omega
      have hne2 : (((nn % 64 : Nat) : Int) != 56) = false := by
        have h1 := HZM.out
        rw [hnn] at h1
        simp; omega
      obtain ⟨B0, hB0⟩ : ∃ x, bs ++ (128 :: List.replicate j 0) = x := ⟨_, rfl⟩
      rw [hB0] at hO
      have hnb : nn ≤ 1000000100 := by omega
      have HB0L := hide (show B0.length = nn by rw [← hB0, ← hnn]; simp; have := HBL.out; omega)
      have HB0 := hide hB0
      have HO := hO
      have HU := hU
      clear hB0 hnn hO hU hjz hj HZM HZL
      go_wp2_with fail
      clear hne hne2 htm
      go_loopw [3, 5] (fun s3 s5 wr => ∃ (i : Nat) (A : Option Addr) (c : Nat), i ≤ 8 ∧ s3 = .slice A (nn + i) c ∧ s5 = .int .i64 (7 - (i : Int)) ∧ Hid (wr.ownsRow w.heap.size 5 1 (.slice A (nn + i) c) (nn + i) (bCells (B0 ++ (lenB k).take i))) ∧ Hid (Upd [] w wr)) (fun _ s _ => (intOf s + 1).toNat)
      case atStart => exact ⟨0, A, c, Nat.zero_le _, rfl, rfl, hide (by rw [List.take_zero, List.append_nil]; exact HO.out), HU⟩
      case round =>
        clear HO HU
        obtain ⟨i, A, c, hi, rfl, rfl, hO, hU⟩ := hrel
        obtain ⟨wo, rfl⟩ : ∃ x : World, x = wr := ⟨_, rfl⟩
        obtain ⟨nj, hnj⟩ : ∃ x, nn + i = x := ⟨_, rfl⟩
        rw [hnj] at hO ⊢
        by_cases hi8 : i < 8
        case pos =>
          obtain ⟨q, hq⟩ : ∃ q, 7 - i = q := ⟨_, rfl⟩
          rw [show (7 - (i : Int)) = (q : Int) by omega]
          have hqg : (0 : Int) ≤ (q : Int) := by omega
          obtain ⟨M8, hM8⟩ : ∃ x, 8 * k = x := ⟨_, rfl⟩
          obtain ⟨q8, hq8⟩ : ∃ x, 8 * q = x := ⟨_, rfl⟩
          have e1 : IntKind.i64.wrap (8 * (k : Int)) = (M8 : Int) := by rw [Go.IntWalk.i64_in _ (by omega)]; omega
          have e2 : IntKind.i64.wrap (8 * (q : Int)) = (q8 : Int) := by rw [Go.IntWalk.i64_in _ (by omega)]; omega
          have hq64 : q8 < 64 := by omega
          have hqi : (q8 : Int) < 64 := by omega
          have eq1 : IntKind.i64.wrap ((q : Int) - 1) = (q : Int) - 1 := Go.IntWalk.i64_in _ (by omega)
          have HV := hide (show (Value.int .u8 ((M8 : Int) / 2 ^ q8 % 256)) = bCell (UInt8.ofNat (8 * k / 2 ^ (8 * (7 - i)))) by
            rw [hq, hq8, hM8]
            show _ = Value.int .u8 ((UInt8.ofNat (M8 / 2 ^ q8)).toNat : Int)
            rw [UInt8.toNat_ofNat']
            norm_cast)
          have hnb2 : nj ≤ 1000000200 := by omega
          have HNJ := hide hnj
          have HQ := hide hq
          clear hnj hq hM8 hq8
          have O1 := hide (show ∀ u ∈ [Value.int .u8 ((M8 : Int) / 2 ^ q8 % 256)], u.oneCell' = true by simp [Value.oneCell'])
          have O3 := hide (show nj + 1 ≤ maxLen by unfold maxLen; omega)
          have O4 := hide (show (nj + 1) * 1 ≤ 140737488355328 by omega)
          have OB := hide (hO.out.alloc (.cells #[.int .u8 ((M8 : Int) / 2 ^ q8 % 256)] 5))
          have OS := hide (show w.heap.size ≤ (wo.alloc (.cells #[.int .u8 ((M8 : Int) / 2 ^ q8 % 256)] 5)).heap.size by have := hU.out.size; rw [World.size_alloc]; omega)
          go_wp2_with (at_builtin; refine wpList_append_base rfl (.tmp 32) (.tmp 40) _ rfl w.heap.size 5 _ 1 1 Tryz.underlying39 it_info_byte rfl (by decide) A nj c _ rfl OB.out ⟨wo.heap.size, 0, none⟩ 1 1 [.int .u8 ((M8 : Int) / 2 ^ q8 % 256)] rfl rfl (cell_one_new _ _ _) O1.out O3.out O4.out OS.out ?_; intro A5 c5 w5 h5 u5 _; have H5 := hide h5; have V5 := hide ((hU.out.alloc _).trans u5 (fun z hz => .inr (it_own_block hO.out z (by rw [ownBlock_slice]; simpa using hz)))); clear h5 u5)
          go_roundw
          case rel => exact ⟨i + 1, A5, c5, by omega, by rw [show nn + (i + 1) = nj + 1 by have := HNJ.out; omega], by rw [show (7 - ((i + 1 : Nat) : Int)) = (q : Int) - 1 by have := HQ.out; omega], hide (by
            rw [show nn + (i + 1) = nj + 1 by have := HNJ.out; omega, lenB_next k i hi8, ← List.append_assoc, bCells_append, show bCells [UInt8.ofNat (8 * k / 2 ^ (8 * (7 - i)))] = [bCell (UInt8.ofNat (8 * k / 2 ^ (8 * (7 - i))))] from rfl, ← HV.out]
            exact H5.out), V5⟩
          case measure => have := HQ.out; simp [intOf] <;> omega
        obtain rfl : i = 8 := by omega
        rw [show (7 - ((8 : Nat) : Int)) = -1 by omega]
        have HP := hide (show B0 ++ (lenB k).take 8 = padS bs by rw [List.take_of_length_le (by simp [lenB]), ← HB0.out]; unfold padS; rw [HBL.out, HZZ.out]; simp)
        have HPL := hide (show (padS bs).length = nj by rw [← HP.out, ← hnj, List.length_append, HB0L.out]; simp [lenB])
        go_wp2_with fail
        rw [HP.out] at hO
        go_ret
        rw [HPL.out]
        exact ⟨A, c, rfl, hO.out, hU.out⟩
theorem refSum (s : ByteArray) (w : World) (hs : s.size ≤ 1000000000) :
    Calls Tryz.prog 28 #[.string s] w fun e w' => e = .returned (.string ⟨(sumS refK s.data.toList).toArray⟩) ∧ Upd [] w w' := by
  have HX := hide (fun W => extended_any s W hs)
  obtain ⟨pb, hpb⟩ : ∃ x, padS s.data.toList = x := ⟨_, rfl⟩
  have hbl := padS_blocks s.data.toList
  have hpl0 := padS_length s.data.toList
  have hsz : s.data.toList.length = s.size := Lib.size_eq s ▸ rfl
  have hpd : padN s.data.toList.length < 64 := by unfold padN; omega
  rw [hpb] at HX hbl hpl0
  obtain ⟨nb, hnb⟩ : ∃ x, pb.length / 64 = x := ⟨_, rfl⟩
  rw [hnb] at hbl
  obtain ⟨pl, hpl⟩ : ∃ x, pb.length = x := ⟨_, rfl⟩
  rw [hpl] at HX hbl hpl0
  have hplb : pl ≤ 1000000100 := by omega
  have hpl9 : 0 < pl := by omega
  have HSUM := hide (show sumS refK s.data.toList = digS (stateS refK pb (List.range nb)) by unfold sumS; rw [hpb, hnb])
  have HPL := hide hpl
  have HPB := hide hbl
  clear hpb hnb hpl hpl0 hsz hpd hbl hs
  rw [HSUM.out]
  go_enter Tryz.func28, Tryz.ntmps28
  go_wp2_with fail
  obtain ⟨w1, hw⟩ : ∃ x, w.alloc (.cells #[.int .u32 1779033703, .int .u32 3144134277, .int .u32 1013904242, .int .u32 2773480762, .int .u32 1359893119, .int .u32 2600822924, .int .u32 528734635, .int .u32 1541459225] 109) = x := ⟨_, rfl⟩
  have HH1 := hide (show WordsAt w1 w.heap.size h0S by rw [← hw]; exact WordsAt.blk (t := 109) (Blk.new w _ _))
  have U1 := hide (show Upd [] w w1 by rw [← hw]; exact (Upd.refl [] _).alloc _)
  rw [hw]
  clear hw
  refine (HX.out w1).mono ?_
  rintro e w2 ⟨A, c, rfl, ho, u⟩
  obtain ⟨g, rfl⟩ := own_some ho hpl9
  have HB2 := hide ho
  have HH2 := hide (HH1.out.upd u)
  have U2 := hide (U1.out.trans u (by simp))
  obtain ⟨h0, hh0⟩ : ∃ x, w.heap.size = x := ⟨_, rfl⟩
  rw [hh0] at HH2 ⊢
  have hcap : pl ≤ c := own_capB ho
  have hcm := own_maxB ho
  unfold maxLen at hcm
  clear ho u HX HH1 U1 hh0
  go_wp2_with fail
  go_loopw [3, 5] (fun s3 s5 wr => ∃ (k hb hc : Nat), k ≤ nb ∧ s3 = .slice (some ⟨hb, 0, none⟩) 8 hc ∧ s5 = .int .i64 ((64 * k : Nat) : Int) ∧ Hid (WordsAt wr hb (stateS refK pb (List.range k))) ∧ Hid (Upd [] w2 wr)) (fun _ s _ => pl - (intOf s).toNat)
  case atStart => exact ⟨0, h0, 8, Nat.zero_le _, rfl, rfl, HH2, hide (Upd.refl _ _)⟩
  case round =>
    clear HH2
    obtain ⟨k, hb, hc, hk, rfl, rfl, hH, hU⟩ := hrel
    obtain ⟨wo, rfl⟩ : ∃ x : World, x = wr := ⟨_, rfl⟩
    obtain ⟨lo, hlo⟩ : ∃ x, 64 * k = x := ⟨_, rfl⟩
    rw [hlo]
    by_cases hkn : k < nb
    case pos =>
      obtain ⟨hi, hhi⟩ : ∃ x, lo + 64 = x := ⟨_, rfl⟩
      have hpbl := HPB.out
      have hli : (lo : Int) < pl := by omega
      have hw1 : IntKind.i64.wrap ((lo : Int) + 64) = (hi : Int) := by rw [Go.IntWalk.i64_in _ (by omega)]; omega
      have g0 : (0 : Int) ≤ (lo : Int) := by omega
      have g1 : (lo : Int) ≤ (hi : Int) := by omega
      have g2 : (hi : Int) ≤ (c : Int) := by omega
      have g3 : ((hi : Int) - (lo : Int)).toNat = 64 := by omega
      have g4 : (hi : Int).toNat - (lo : Int).toNat = 64 := by omega
      have g5 : hi - lo = 64 := by omega
      have hbl : (blockAt pb k).length = 64 := by unfold blockAt; rw [List.length_take, List.length_drop, HPL.out]; omega
      have HB := hide (own_kept HB2.out hU.out (by simp))
      have hba : BytesAt wo g lo (blockAt pb k) := fun i x hx => by
        have hil : i < 64 := by have := (List.getElem?_eq_some_iff.1 hx).1; omega
        unfold blockAt at hx
        rw [List.getElem?_take_of_lt hil, List.getElem?_drop, hlo] at hx
        have h9 := World.ownsRow.cells HB.out (g := g) rfl (lo + i) (bCell x) (by unfold bCells; rw [List.getElem?_map, hx]; rfl)
        rw [plain_add rfl, Nat.zero_add] at h9
        exact h9
      have hsw := stateS_word refK pb (List.range k)
      have HBK := hide (fun c' => block_any hb hc g lo c' (stateS refK pb (List.range k)) (blockAt pb k) wo hH.out hsw.1 hsw.2 hba hbl)
      have HLO := hide hlo
      have HHI := hide hhi
      clear hbl hba hsw hlo hhi hpbl HB hH
      go_wp2_with fail
      refine (HBK.out _).mono ?_
      rintro e w5 ⟨g5, c5, rfl, hw5, u⟩
      rw [← stateS_snoc, ← List.range_succ] at hw5
      have HW5 := hide hw5
      have HU5 := hide (hU.out.trans u (by simp))
      clear hw5 u HBK
      go_wp2_with fail
      go_roundw
      case rel => exact ⟨k + 1, g5, c5, by omega, rfl, by rw [show 64 * (k + 1) = hi by have := HLO.out; have := HHI.out; omega], HW5, HU5⟩
      case measure => have := HHI.out; simp [intOf] <;> omega
    obtain rfl : k = nb := by omega
    have hpbl := HPB.out
    have hli : ¬ (lo : Int) < pl := by omega
    obtain ⟨st, hst⟩ : ∃ x, stateS refK pb (List.range k) = x := ⟨_, rfl⟩
    have hsw := stateS_word refK pb (List.range k)
    rw [hst] at hH hsw
    have HST := hide hst
    have HSL := hide hsw.1
    have HH := hide hH.out
    have HU := hide (U2.out.trans hU.out (by simp))
    clear hst hsw hH hU HB2 U2 hlo hpbl HSUM HPB HPL
    go_wp2_with fail
    clear hli
    go_loopw [6, 7] (fun s6 s7 wr => ∃ (k : Nat) (A : Option Addr) (c : Nat), k ≤ 8 ∧ s6 = .slice A (4 * k) c ∧ s7 = .int .i64 k ∧ Hid (wr.ownsRow wo.heap.size 5 1 (.slice A (4 * k) c) (4 * k) (bCells ((digS st).take (4 * k)))) ∧ Hid (Upd [] wo wr)) (fun _ s _ => 8 - (intOf s).toNat)
    case atStart => exact ⟨0, none, 0, Nat.zero_le _, rfl, rfl, hide (World.ownsRow_nil _ _ _ _), hide (Upd.refl _ _)⟩
    case round =>
      clear hk hkn
      obtain ⟨k, A, c, hk, rfl, rfl, hO, hUx⟩ := hrel
      obtain ⟨wx, rfl⟩ : ∃ x : World, x = wr := ⟨_, rfl⟩
      obtain ⟨n4, hn4⟩ : ∃ x, 4 * k = x := ⟨_, rfl⟩
      rw [hn4] at hO ⊢
      by_cases hk8 : k < 8
      case pos =>
        have hki : (k : Int) < 8 := by omega
        have hkw : IntKind.i64.wrap ((k : Int) + 1) = (k : Int) + 1 := Go.IntWalk.i64_in _ (by omega)
        obtain ⟨x, hx⟩ : ∃ x, st[k]? = some x := ⟨_, List.getElem?_eq_getElem (by rw [HSL.out]; exact hk8)⟩
        have HX := hide (keepc _ _ _ _ hUx.out (HH.out k x hx))
        have HX0 := hide (HH.out k x hx)
        have HDN := hide (dig_next st k x hk8 (by unfold wat; rw [hx]; rfl))
        rw [hn4] at HDN
        have HN4 := hide hn4
        have hnb4 : n4 ≤ 32 := by omega
        have HO := hO
        have HUx := hUx
        clear hO hUx hx hn4
        go_wp2_with fail
        refine wp_region_held_drew (S := (fun w' => w'.cell? ⟨hb, k, none⟩ = some (.int .u32 x))) (by kernel_rfl) (by exact HX.out) (fun hHeld => ?_)
        obtain ⟨v1, hwD⟩ : ∃ x, wx.drew = x := ⟨_, rfl⟩
        have u : Upd [] wx v1 := by rw [← hwD]; exact (Upd.refl [] _).drew
        rw [hwD] at hHeld ⊢
        clear hwD
        replace HUx := hide (HUx.out.trans u (by simp))
        replace HO := hide (own_kept HO.out u (by simp))
        replace HX := hide (keepc _ _ _ _ u HX.out)
        clear u
        refine wpAnyH_take (i := 0) (oi := ?oi0M2) (v := ?v0M2) ?oi0_0M2 (by kernel_rfl) ?ff0M2 ?rr0M2 ?hq0M2 (Or.inl ⟨?hw0M2, ?hy0M2⟩) (by assumption) ?rest0M2
        case oi0_0M2 =>
          conv =>
            lhs
            whnf
            arg 1
            whnf
        case hq0M2 => exact fun _ _ _ h => h
        case ff0M2 => kernel_rfl
        case rr0M2 => kernel_rfl
        case hw0M2 => rfl
        case hy0M2 =>
          intro w hSw
          (try dsimp only at hSw)
          first
          | (go_simp; done)
          | (go_simp; with_reducible rfl)
        try simp only [Act.put, List.setIfInBounds_toArray, List.set_cons_zero, List.set_cons_succ]
        refine wpAnyH_take (i := 1) (oi := ?oi1M2) (v := ?v1M2) ?oi0_1M2 (by kernel_rfl) ?ff1M2 ?rr1M2 ?hq1M2 (Or.inl ⟨?hw1M2, ?hy1M2⟩) (by assumption) ?rest1M2
        case oi0_1M2 =>
          conv =>
            lhs
            whnf
            arg 1
            whnf
        case hq1M2 => exact fun _ _ _ h => h
        case ff1M2 => kernel_rfl
        case rr1M2 => kernel_rfl
        case hw1M2 => rfl
        case hy1M2 =>
          intro w hSw
          (try dsimp only at hSw)
          first
          | (go_simp; done)
          | (go_simp; with_reducible rfl)
        try simp only [Act.put, List.setIfInBounds_toArray, List.set_cons_zero, List.set_cons_succ]
        refine wpAnyH_take (i := 2) (oi := ?oi2M2) (v := ?v2M2) ?oi0_2M2 (by kernel_rfl) ?ff2M2 ?rr2M2 ?hq2M2 (Or.inl ⟨?hw2M2, ?hy2M2⟩) (by assumption) ?rest2M2
        case oi0_2M2 =>
          conv =>
            lhs
            whnf
            arg 1
            whnf
        case hq2M2 => exact fun _ _ _ h => h
        case ff2M2 => kernel_rfl
        case rr2M2 => kernel_rfl
        case hw2M2 => rfl
        case hy2M2 =>
          intro w hSw
          (try dsimp only at hSw)
          first
          | (go_simp; done)
          | (go_simp; with_reducible rfl)
        try simp only [Act.put, List.setIfInBounds_toArray, List.set_cons_zero, List.set_cons_succ]
        refine wpAnyH_take (i := 3) (oi := ?oi3M2) (v := ?v3M2) ?oi0_3M2 (by kernel_rfl) ?ff3M2 ?rr3M2 ?hq3M2 (Or.inl ⟨?hw3M2, ?hy3M2⟩) (by assumption) ?rest3M2
        case oi0_3M2 =>
          conv =>
            lhs
            whnf
            arg 1
            whnf
        case hq3M2 => exact fun _ _ _ h => h
        case ff3M2 => kernel_rfl
        case rr3M2 => kernel_rfl
        case hw3M2 => rfl
        case hy3M2 =>
          intro w hSw
          (try dsimp only at hSw)
          first
          | (go_simp; done)
          | (go_simp; with_reducible rfl)
        try simp only [Act.put, List.setIfInBounds_toArray, List.set_cons_zero, List.set_cons_succ]
        refine wpAnyH_take (i := 4) (oi := ?oi4M2) (v := ?v4M2) ?oi0_4M2 (by kernel_rfl) ?ff4M2 ?rr4M2 ?hq4M2 (Or.inl ⟨?hw4M2, ?hy4M2⟩) (by assumption) ?rest4M2
        case oi0_4M2 =>
          conv =>
            lhs
            whnf
            arg 1
            whnf
        case hq4M2 => exact fun _ _ _ h => h
        case ff4M2 => kernel_rfl
        case rr4M2 => kernel_rfl
        case hw4M2 => rfl
        case hy4M2 =>
          intro w hSw
          (try dsimp only at hSw)
          first
          | (go_simp; done)
          | (go_simp; with_reducible rfl)
        try simp only [Act.put, List.setIfInBounds_toArray, List.set_cons_zero, List.set_cons_succ]
        refine wpAnyH_take (i := 5) (oi := ?oi5M2) (v := ?v5M2) ?oi0_5M2 (by kernel_rfl) ?ff5M2 ?rr5M2 ?hq5M2 (Or.inl ⟨?hw5M2, ?hy5M2⟩) (by assumption) ?rest5M2
        case oi0_5M2 =>
          conv =>
            lhs
            whnf
            arg 1
            whnf
        case hq5M2 => exact fun _ _ _ h => h
        case ff5M2 => kernel_rfl
        case rr5M2 => kernel_rfl
        case hw5M2 => rfl
        case hy5M2 =>
          intro w hSw
          (try dsimp only at hSw)
          first
          | (go_simp; done)
          | (go_simp; with_reducible rfl)
        try simp only [Act.put, List.setIfInBounds_toArray, List.set_cons_zero, List.set_cons_succ]
        refine wpAnyH_take (i := 6) (oi := ?oi6M2) (v := ?v6M2) ?oi0_6M2 (by kernel_rfl) ?ff6M2 ?rr6M2 ?hq6M2 (Or.inl ⟨?hw6M2, ?hy6M2⟩) (by assumption) ?rest6M2
        case oi0_6M2 =>
          conv =>
            lhs
            whnf
            arg 1
            whnf
        case hq6M2 => exact fun _ _ _ h => h
        case ff6M2 => kernel_rfl
        case rr6M2 => kernel_rfl
        case hw6M2 => rfl
        case hy6M2 =>
          intro w hSw
          (try dsimp only at hSw)
          first
          | (go_simp; done)
          | (go_simp; with_reducible rfl)
        try simp only [Act.put, List.setIfInBounds_toArray, List.set_cons_zero, List.set_cons_succ]
        refine wpAnyH_take (i := 7) (oi := ?oi7M2) (v := ?v7M2) ?oi0_7M2 (by kernel_rfl) ?ff7M2 ?rr7M2 ?hq7M2 (Or.inl ⟨?hw7M2, ?hy7M2⟩) (by assumption) ?rest7M2
        case oi0_7M2 =>
          conv =>
            lhs
            whnf
            arg 1
            whnf
        case hq7M2 => exact fun _ _ _ h => h
        case ff7M2 => kernel_rfl
        case rr7M2 => kernel_rfl
        case hw7M2 => rfl
        case hy7M2 =>
          intro w hSw
          (try dsimp only at hSw)
          first
          | (go_simp; done)
          | (go_simp; with_reducible rfl)
        try simp only [Act.put, List.setIfInBounds_toArray, List.set_cons_zero, List.set_cons_succ]
        refine wpAnyH_take (i := 8) (oi := ?oi8M2) (v := ?v8M2) ?oi0_8M2 (by kernel_rfl) ?ff8M2 ?rr8M2 ?hq8M2 (Or.inl ⟨?hw8M2, ?hy8M2⟩) (by assumption) ?rest8M2
        case oi0_8M2 =>
          conv =>
            lhs
            whnf
            arg 1
            whnf
        case hq8M2 => exact fun _ _ _ h => h
        case ff8M2 => kernel_rfl
        case rr8M2 => kernel_rfl
        case hw8M2 => rfl
        case hy8M2 =>
          intro w hSw
          (try dsimp only at hSw)
          first
          | (go_simp; done)
          | (go_simp; with_reducible rfl)
        try simp only [Act.put, List.setIfInBounds_toArray, List.set_cons_zero, List.set_cons_succ]
        refine wpAnyH_take (i := 9) (oi := ?oi9M2) (v := ?v9M2) ?oi0_9M2 (by kernel_rfl) ?ff9M2 ?rr9M2 ?hq9M2 (Or.inl ⟨?hw9M2, ?hy9M2⟩) (by assumption) ?rest9M2
        case oi0_9M2 =>
          conv =>
            lhs
            whnf
            arg 1
            whnf
        case hq9M2 => exact fun _ _ _ h => h
        case ff9M2 => kernel_rfl
        case rr9M2 => kernel_rfl
        case hw9M2 => rfl
        case hy9M2 =>
          intro w hSw
          (try dsimp only at hSw)
          first
          | (go_simp; done)
          | (go_simp; with_reducible rfl)
        try simp only [Act.put, List.setIfInBounds_toArray, List.set_cons_zero, List.set_cons_succ]
        refine wpAnyH_take (i := 10) (oi := ?oi10M2) (v := ?v10M2) ?oi0_10M2 (by kernel_rfl) ?ff10M2 ?rr10M2 ?hq10M2 (Or.inl ⟨?hw10M2, ?hy10M2⟩) (by assumption) ?rest10M2
        case oi0_10M2 =>
          conv =>
            lhs
            whnf
            arg 1
            whnf
        case hq10M2 => exact fun _ _ _ h => h
        case ff10M2 => kernel_rfl
        case rr10M2 => kernel_rfl
        case hw10M2 => rfl
        case hy10M2 =>
          intro w hSw
          (try dsimp only at hSw)
          first
          | (go_simp; done)
          | (go_simp; with_reducible rfl)
        try simp only [Act.put, List.setIfInBounds_toArray, List.set_cons_zero, List.set_cons_succ]
        refine wpAnyH_take (i := 11) (oi := ?oi11M2) (v := ?v11M2) ?oi0_11M2 (by kernel_rfl) ?ff11M2 ?rr11M2 ?hq11M2 (Or.inl ⟨?hw11M2, ?hy11M2⟩) (by assumption) ?rest11M2
        case oi0_11M2 =>
          conv =>
            lhs
            whnf
            arg 1
            whnf
        case hq11M2 => exact fun _ _ _ h => h
        case ff11M2 => kernel_rfl
        case rr11M2 => kernel_rfl
        case hw11M2 => rfl
        case hy11M2 =>
          intro w hSw
          (try dsimp only at hSw)
          first
          | (go_simp; done)
          | (go_simp; with_reducible rfl)
        try simp only [Act.put, List.setIfInBounds_toArray, List.set_cons_zero, List.set_cons_succ]
        refine wpAnyH_take (i := 12) (oi := ?oi12M2) (v := ?v12M2) ?oi0_12M2 (by kernel_rfl) ?ff12M2 ?rr12M2 ?hq12M2 (Or.inl ⟨?hw12M2, ?hy12M2⟩) (by assumption) ?rest12M2
        case oi0_12M2 =>
          conv =>
            lhs
            whnf
            arg 1
            whnf
        case hq12M2 => exact fun _ _ _ h => h
        case ff12M2 => kernel_rfl
        case rr12M2 => kernel_rfl
        case hw12M2 => rfl
        case hy12M2 =>
          intro w hSw
          (try dsimp only at hSw)
          first
          | (go_simp; done)
          | (go_simp; with_reducible rfl)
        try simp only [Act.put, List.setIfInBounds_toArray, List.set_cons_zero, List.set_cons_succ]
        refine wpAnyH_take (i := 13) (oi := ?oi13M2) (v := ?v13M2) ?oi0_13M2 (by kernel_rfl) ?ff13M2 ?rr13M2 ?hq13M2 (Or.inl ⟨?hw13M2, ?hy13M2⟩) (by assumption) ?rest13M2
        case oi0_13M2 =>
          conv =>
            lhs
            whnf
            arg 1
            whnf
        case hq13M2 => exact fun _ _ _ h => h
        case ff13M2 => kernel_rfl
        case rr13M2 => kernel_rfl
        case hw13M2 => rfl
        case hy13M2 =>
          intro w hSw
          (try dsimp only at hSw)
          first
          | (go_simp; done)
          | (go_simp; with_reducible rfl)
        try simp only [Act.put, List.setIfInBounds_toArray, List.set_cons_zero, List.set_cons_succ]
        refine wpAnyH_take (i := 14) (oi := ?oi14M2) (v := ?v14M2) ?oi0_14M2 (by kernel_rfl) ?ff14M2 ?rr14M2 ?hq14M2 (Or.inl ⟨?hw14M2, ?hy14M2⟩) (by assumption) ?rest14M2
        case oi0_14M2 =>
          conv =>
            lhs
            whnf
            arg 1
            whnf
        case hq14M2 => exact fun _ _ _ h => h
        case ff14M2 => kernel_rfl
        case rr14M2 => kernel_rfl
        case hw14M2 => rfl
        case hy14M2 =>
          intro w hSw
          (try dsimp only at hSw)
          first
          | (go_simp; done)
          | (go_simp; with_reducible rfl)
        try simp only [Act.put, List.setIfInBounds_toArray, List.set_cons_zero, List.set_cons_succ]
        refine wpAnyH_take (i := 15) (oi := ?oi15M2) (v := ?v15M2) ?oi0_15M2 (by kernel_rfl) ?ff15M2 ?rr15M2 ?hq15M2 (Or.inl ⟨?hw15M2, ?hy15M2⟩) (by assumption) ?rest15M2
        case oi0_15M2 =>
          conv =>
            lhs
            whnf
            arg 1
            whnf
        case hq15M2 => exact fun _ _ _ h => h
        case ff15M2 => kernel_rfl
        case rr15M2 => kernel_rfl
        case hw15M2 => rfl
        case hy15M2 =>
          intro w hSw
          (try dsimp only at hSw)
          first
          | (go_simp; done)
          | (go_simp; with_reducible rfl)
        try simp only [Act.put, List.setIfInBounds_toArray, List.set_cons_zero, List.set_cons_succ]
        refine wpAnyH_take (i := 16) (oi := ?oi16M2) (v := ?v16M2) ?oi0_16M2 (by kernel_rfl) ?ff16M2 ?rr16M2 ?hq16M2 (Or.inl ⟨?hw16M2, ?hy16M2⟩) (by assumption) ?rest16M2
        case oi0_16M2 =>
          conv =>
            lhs
            whnf
            arg 1
            whnf
        case hq16M2 => exact fun _ _ _ h => h
        case ff16M2 => kernel_rfl
        case rr16M2 => kernel_rfl
        case hw16M2 => rfl
        case hy16M2 =>
          intro w hSw
          (try dsimp only at hSw)
          first
          | (go_simp; done)
          | (go_simp; with_reducible rfl)
        try simp only [Act.put, List.setIfInBounds_toArray, List.set_cons_zero, List.set_cons_succ]
        refine wpAnyH_take (i := 17) (oi := ?oi17M2) (v := ?v17M2) ?oi0_17M2 (by kernel_rfl) ?ff17M2 ?rr17M2 ?hq17M2 (Or.inl ⟨?hw17M2, ?hy17M2⟩) (by assumption) ?rest17M2
        case oi0_17M2 =>
          conv =>
            lhs
            whnf
            arg 1
            whnf
        case hq17M2 => exact fun _ _ _ h => h
        case ff17M2 => kernel_rfl
        case rr17M2 => kernel_rfl
        case hw17M2 => rfl
        case hy17M2 =>
          intro w hSw
          (try dsimp only at hSw)
          first
          | (go_simp; done)
          | (go_simp; with_reducible rfl)
        try simp only [Act.put, List.setIfInBounds_toArray, List.set_cons_zero, List.set_cons_succ]
        refine wpAnyH_take (i := 18) (oi := ?oi18M2) (v := ?v18M2) ?oi0_18M2 (by kernel_rfl) ?ff18M2 ?rr18M2 ?hq18M2 (Or.inl ⟨?hw18M2, ?hy18M2⟩) (by assumption) ?rest18M2
        case oi0_18M2 =>
          conv =>
            lhs
            whnf
            arg 1
            whnf
        case hq18M2 => exact fun _ _ _ h => h
        case ff18M2 => kernel_rfl
        case rr18M2 => kernel_rfl
        case hw18M2 => rfl
        case hy18M2 =>
          intro w hSw
          (try dsimp only at hSw)
          first
          | (go_simp; done)
          | (go_simp; with_reducible rfl)
        try simp only [Act.put, List.setIfInBounds_toArray, List.set_cons_zero, List.set_cons_succ]
        refine wpAnyH_take (i := 19) (oi := ?oi19M2) (v := ?v19M2) ?oi0_19M2 (by kernel_rfl) ?ff19M2 ?rr19M2 ?hq19M2 (Or.inl ⟨?hw19M2, ?hy19M2⟩) (by assumption) ?rest19M2
        case oi0_19M2 =>
          conv =>
            lhs
            whnf
            arg 1
            whnf
        case hq19M2 => exact fun _ _ _ h => h
        case ff19M2 => kernel_rfl
        case rr19M2 => kernel_rfl
        case hw19M2 => rfl
        case hy19M2 =>
          intro w hSw
          (try dsimp only at hSw)
          first
          | (go_simp; done)
          | (go_simp; with_reducible rfl)
        try simp only [Act.put, List.setIfInBounds_toArray, List.set_cons_zero, List.set_cons_succ]
        refine wpAnyH_take (i := 20) (oi := ?oi20M2) (v := ?v20M2) ?oi0_20M2 (by kernel_rfl) ?ff20M2 ?rr20M2 ?hq20M2 (Or.inl ⟨?hw20M2, ?hy20M2⟩) (by assumption) ?rest20M2
        case oi0_20M2 =>
          conv =>
            lhs
            whnf
            arg 1
            whnf
        case hq20M2 => exact fun _ _ _ h => h
        case ff20M2 => kernel_rfl
        case rr20M2 => kernel_rfl
        case hw20M2 => rfl
        case hy20M2 =>
          intro w hSw
          (try dsimp only at hSw)
          first
          | (go_simp; done)
          | (go_simp; with_reducible rfl)
        try simp only [Act.put, List.setIfInBounds_toArray, List.set_cons_zero, List.set_cons_succ]
        refine wpAnyH_take (i := 21) (oi := ?oi21M2) (v := ?v21M2) ?oi0_21M2 (by kernel_rfl) ?ff21M2 ?rr21M2 ?hq21M2 (Or.inl ⟨?hw21M2, ?hy21M2⟩) (by assumption) ?rest21M2
        case oi0_21M2 =>
          conv =>
            lhs
            whnf
            arg 1
            whnf
        case hq21M2 => exact fun _ _ _ h => h
        case ff21M2 => kernel_rfl
        case rr21M2 => kernel_rfl
        case hw21M2 => rfl
        case hy21M2 =>
          intro w hSw
          (try dsimp only at hSw)
          first
          | (go_simp; done)
          | (go_simp; with_reducible rfl)
        try simp only [Act.put, List.setIfInBounds_toArray, List.set_cons_zero, List.set_cons_succ]
        refine wpAnyH_take (i := 22) (oi := ?oi22M2) (v := ?v22M2) ?oi0_22M2 (by kernel_rfl) ?ff22M2 ?rr22M2 ?hq22M2 (Or.inl ⟨?hw22M2, ?hy22M2⟩) (by assumption) ?rest22M2
        case oi0_22M2 =>
          conv =>
            lhs
            whnf
            arg 1
            whnf
        case hq22M2 => exact fun _ _ _ h => h
        case ff22M2 => kernel_rfl
        case rr22M2 => kernel_rfl
        case hw22M2 => rfl
        case hy22M2 =>
          intro w hSw
          (try dsimp only at hSw)
          first
          | (go_simp; done)
          | (go_simp; with_reducible rfl)
        try simp only [Act.put, List.setIfInBounds_toArray, List.set_cons_zero, List.set_cons_succ]
        refine wpAnyH_take (i := 23) (oi := ?oi23M2) (v := ?v23M2) ?oi0_23M2 (by kernel_rfl) ?ff23M2 ?rr23M2 ?hq23M2 (Or.inl ⟨?hw23M2, ?hy23M2⟩) (by assumption) ?rest23M2
        case oi0_23M2 =>
          conv =>
            lhs
            whnf
            arg 1
            whnf
        case hq23M2 => exact fun _ _ _ h => h
        case ff23M2 => kernel_rfl
        case rr23M2 => kernel_rfl
        case hw23M2 => rfl
        case hy23M2 =>
          intro w hSw
          (try dsimp only at hSw)
          first
          | (go_simp; done)
          | (go_simp; with_reducible rfl)
        try simp only [Act.put, List.setIfInBounds_toArray, List.set_cons_zero, List.set_cons_succ]
        refine wpAnyH_ready (rs := [24]) (by kernel_rfl) (by simp) (AllReadyH.cons (o := ?oiM3) ?oi0_M3 (fun K hK => ?_) AllReadyH.nil)
        case oi0_M3 =>
          conv =>
            lhs
            whnf
            arg 1
            whnf
        go_simp
        obtain ⟨v2, hw⟩ : ∃ W9, v1.alloc (.cells #[.int .u8 (IntKind.u8.wrap (x / 16777216)), .int .u8 (IntKind.u8.wrap (x / 65536)), .int .u8 (IntKind.u8.wrap (x / 256)), .int .u8 (IntKind.u8.wrap (x))] 5) = W9 := ⟨_, rfl⟩
        have u : Upd [] v1 v2 := by rw [← hw]; exact (Upd.refl [] _).alloc _
        have HNW := hide (show ∀ j v, ([.int .u8 (IntKind.u8.wrap (x / 16777216)), .int .u8 (IntKind.u8.wrap (x / 65536)), .int .u8 (IntKind.u8.wrap (x / 256)), .int .u8 (IntKind.u8.wrap (x))] : List Value)[j]? = some v → v2.cell? ((⟨v1.heap.size, 0, none⟩ : Addr).add j) = some v by rw [← hw]; exact cells_new v1 [.int .u8 (IntKind.u8.wrap (x / 16777216)), .int .u8 (IntKind.u8.wrap (x / 65536)), .int .u8 (IntKind.u8.wrap (x / 256)), .int .u8 (IntKind.u8.wrap (x))] 5)
        rw [hw]
        clear hw
        replace HUx := hide (HUx.out.trans u (by simp))
        replace HO := hide (own_kept HO.out u (by simp))
        replace HX := hide (keepc _ _ _ _ u HX.out)
        have hS := keepc _ _ _ _ u hHeld
        clear u hHeld
        (try dsimp only)
        refine hK.out _ _ (by exact hS) (fun hHeld => ?_)
        clear hK K
        try simp only [Act.put, List.setIfInBounds_toArray, List.set_cons_zero, List.set_cons_succ]
        clear hS
        refine wpAnyH_ready (rs := [25]) (by kernel_rfl) (by simp) (AllReadyH.cons (o := ?oiM4) ?oi0_M4 (fun K hK => ?_) AllReadyH.nil)
        case oi0_M4 =>
          conv =>
            lhs
            whnf
            arg 1
            whnf
        refine step_append_keep rfl (.tmp 28) (.tmp 52) _ rfl wo.heap.size 5 (.int .u8 0) 1 Tryz.underlying39 it_info_byte rfl A n4 c _ rfl HO.out ⟨v1.heap.size, 0, none⟩ 4 4 [.int .u8 (IntKind.u8.wrap (x / 16777216)), .int .u8 (IntKind.u8.wrap (x / 65536)), .int .u8 (IntKind.u8.wrap (x / 256)), .int .u8 (IntKind.u8.wrap (x))] rfl rfl HNW.out (by simp [Value.oneCell']) (by unfold maxLen; omega) (by omega) HUx.out.size ?_
        intro A5 c5 w5 h5 u hk5
        have HO5 := hide h5
        have hU5 := HUx.out.trans u (fun x hx => .inr (it_own_block HO.out x (by rw [ownBlock_slice]; first | (simpa using hx) | (simp at hx; rw [hx]; rfl))))
        clear hHeld u hk5 h5
        have hS := keepc _ _ _ _ hU5 HX0.out
        have HU5 := hide hU5
        clear hU5
        (try dsimp only)
        refine hK.out _ _ (by exact hS) (fun hHeld => ?_)
        clear hK K
        try simp only [Act.put, List.setIfInBounds_toArray, List.set_cons_zero, List.set_cons_succ]
        clear hS
        refine wpAnyH_take (i := 26) (oi := ?oi26M5) (v := ?v26M5) ?oi0_26M5 (by kernel_rfl) ?ff26M5 ?rr26M5 ?hq26M5 (Or.inl ⟨?hw26M5, ?hy26M5⟩) (by assumption) ?rest26M5
        case oi0_26M5 =>
          conv =>
            lhs
            whnf
            arg 1
            whnf
        case hq26M5 => exact fun _ _ _ h => h
        case ff26M5 => kernel_rfl
        case rr26M5 => kernel_rfl
        case hw26M5 => rfl
        case hy26M5 =>
          intro w hSw
          (try dsimp only at hSw)
          first
          | (go_simp; done)
          | (go_simp; with_reducible rfl)
        try simp only [Act.put, List.setIfInBounds_toArray, List.set_cons_zero, List.set_cons_succ]
        refine wpAnyH_done (by kernel_rfl) ?_ _
        go_wp2_with fail
        go_roundw
        case rel => exact ⟨k + 1, A5, c5, by omega, by rw [show 4 * (k + 1) = n4 + 4 by have := HN4.out; omega], by go_num, hide (by
          rw [show 4 * (k + 1) = n4 + 4 by have := HN4.out; omega, HDN.out]; exact HO5.out), HU5⟩
        case measure => simp [intOf] <;> omega
      obtain rfl : k = 8 := by omega
      obtain rfl : 32 = n4 := by omega
      have hki : ¬ (((8 : Nat) : Int)) < 8 := by omega
      obtain ⟨og, rfl⟩ := own_some hO.out (by omega)
      rw [List.take_of_length_le (by rw [digS_length]; exact Nat.le_refl _)] at hO
      have hcv := own_conv hO.out
      clear hn4
      go_wp2_with fail
      go_ret
      exact ⟨by rw [HST.out]; rfl, HU.out.trans hUx.out (by simp)⟩
theorem refChain (a b : ByteArray) (w : World) (ha : a.size ≤ 100000000) (hb : b.size ≤ 100000000) :
    Calls Tryz.prog 57 #[.string a, .string b] w fun e w' => e = .returned (.string ⟨(chainS refK a.data.toList b.data.toList).toArray⟩) ∧ Upd [] w w' := by
  have HS := hide (fun W => refSum ((⟨#[2]⟩ ++ a) ++ b) W (by simp only [ByteArray.size_append]; have : (⟨#[2]⟩ : ByteArray).size = 1 := rfl; omega))
  have HE := hide (show (⟨(sumS refK ((⟨#[2]⟩ ++ a) ++ b).data.toList).toArray⟩ : ByteArray) = ⟨(chainS refK a.data.toList b.data.toList).toArray⟩ by unfold chainS; simp [ByteArray.data_append])
  obtain ⟨za, hza⟩ : ∃ x, a.size = x := ⟨_, rfl⟩
  obtain ⟨zb, hzb⟩ : ∃ x, b.size = x := ⟨_, rfl⟩
  rw [hza] at ha
  rw [hzb] at hb
  have o1 : (⟨#[2]⟩ : ByteArray).size = 1 := rfl
  have o2 : (⟨#[2]⟩ ++ a : ByteArray).size = 1 + za := by rw [ByteArray.size_append, hza]; rfl
  have hs1 : ¬ 9223372036854775807 < 1 + za := by omega
  have hs2 : ¬ 9223372036854775807 < 1 + za + zb := by omega
  go_enter Tryz.func57, Tryz.ntmps57
  go_wp2_with fail
  refine (HS.out w).mono ?_
  rintro e w1 ⟨rfl, u⟩
  have HU := hide u
  clear u
  rw [HE.out]
  go_wp2_with fail
  go_ret
  exact ⟨rfl, HU.out⟩
end Go.Proofs.YtafjolibfbccbaaGreatDoor
