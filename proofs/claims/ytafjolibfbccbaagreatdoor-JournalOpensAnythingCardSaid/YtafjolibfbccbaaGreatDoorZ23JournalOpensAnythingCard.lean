/-
  strings.Join of two strings, without a string between; digest's marked and Chain.
  The reference's digest in plain words: its constants, its rotations, the padding.
  (*journal.tape).add: a record more.
-/
import Derived.Test.YtafjolibfbccbaaGreatDoorZ9JournalOpensAnythingCard
import Derived.Test.YtafjolibfbccbaaGreatDoorZ22JournalOpensAnythingCard
import Derived.LoopN
import Derived.Deep.RegionHeld3
import Derived.Test.YtafjolibfbccbaaGreatDoorZ20JournalOpensAnythingCard

namespace Go.Proofs.YtafjolibfbccbaaGreatDoor
open Go.RowKit
set_option maxRecDepth 100000
set_option maxHeartbeats 4000000

theorem strCells_lib (s : ByteArray) : Lib.strCells s = Lib.byteCells s.data.toList := by
  simp [Lib.strCells, Lib.byteCells]
theorem join_two (a b : ByteArray) (g : Nat) (w : World) (ca : w.cell? ⟨g, 0, none⟩ = some (.string a)) (cb : w.cell? ⟨g, 1, none⟩ = some (.string b)) (ha : a.size ≤ 1000000000) (hb : b.size ≤ 1000000000) :
    Calls Tryz.prog 111 #[.slice (some ⟨g, 0, none⟩) 2 2, .string ⟨#[]⟩] w fun e w' => e = .returned (.string ⟨(a.data.toList ++ b.data.toList).toArray⟩) ∧ Upd [] w w' := by
  have hg := World.block_lt_of_cell? _ _ ca
  have HA := hide ha
  have HB := hide hb
  obtain ⟨na, hna⟩ : ∃ x, a.size = x := ⟨_, rfl⟩
  obtain ⟨nb, hnb⟩ : ∃ x, b.size = x := ⟨_, rfl⟩
  have h1 : na ≤ 1000000000 := by omega
  have h2 : nb ≤ 1000000000 := by omega
  clear ha hb
  go_enter Tryz.func111, Tryz.ntmps111
  go_wp2_with fail
  refine wp_loop_rounds 3 ?_
  rw [rounds_succ]
  go_wp2_with fail
  rw [rounds_succ]
  go_wp2_with fail
  rw [rounds_succ]
  go_wp2_with fail
  obtain ⟨w1, hw1⟩ : ∃ x, w.alloc (.cells #[.pointer none, .slice none 0 0] 78) = x := ⟨_, rfl⟩
  obtain ⟨q, hq⟩ : ∃ x, w.heap.size = x := ⟨_, rfl⟩
  have hbk : w1.heap[q]? = some (.cells #[.pointer none, .slice none 0 0] 78 (0, 0)) := by rw [← hw1, ← hq]; exact heap_alloc_new w _
  have hs1 : w1.heap.size = q + 1 := by rw [← hw1, ← hq]; simp
  have hb1 : Below q w w1 := by rw [← hw1]; exact (Below.refl _ _).alloc (by omega) _
  rw [hw1, hq, show ((na : Int) + (nb : Int)) = ((na + nb : Nat) : Int) by omega]
  rw [hq] at hg
  have HQ := hide hq
  have HNA := hide hna
  have HNB := hide hnb
  refine (Tryz.Builder_Grow_fresh q q (na + nb) w1 (Nat.le_refl _) hbk (by omega) (by omega)).mono ?_
  rintro e w2 ⟨rfl, k2, b2⟩
  have ca2 := (b2.cell (p := ⟨g, 0, none⟩) hg).trans ((hb1.cell (p := ⟨g, 0, none⟩) hg).trans ca)
  have B2 := hide (hb1.trans b2)
  have S2 := hide (show q ≤ w2.heap.size by have := b2.size; omega)
  have K2 := hide k2
  have CA := hide ca
  have CB := hide cb
  clear ca cb hbk hs1 hb1 b2 k2 hw1 hna hnb hq
  go_wp2_with fail
  refine (writeString_any q q [] a w2 (.inr K2.out) (by simp; have := HA.out; omega) S2.out).mono ?_
  rintro e w3 ⟨rfl, k3, b3⟩
  have B3 := hide (B2.out.trans b3)
  have S3 := hide (show q ≤ w3.heap.size by have := b3.size; have := S2.out; omega)
  have K3 := hide k3
  have cb3 := (B3.out.cell (p := ⟨g, 1, none⟩) hg).trans CB.out
  clear b3 k3 ca2
  go_wp2_with fail
  refine wp_loop_rounds 2 ?_
  rw [rounds_succ]
  go_wp2_with fail
  refine (writeString_any q q _ ⟨#[]⟩ w3 K3.out (by simp [Lib.strCells_length]; show a.size + 0 ≤ _; have := HA.out; omega) S3.out).mono ?_
  rintro e w4 ⟨rfl, k4, b4⟩
  have B4 := hide (B3.out.trans b4)
  have S4 := hide (show q ≤ w4.heap.size by have := b4.size; have := S3.out; omega)
  have K4 := hide k4
  clear b4 k4
  go_wp2_with fail
  refine (writeString_any q q _ b w4 K4.out (by simp [Lib.strCells_length]; show a.size + 0 + b.size ≤ _; have := HA.out; have := HB.out; omega) S4.out).mono ?_
  rintro e w5 ⟨rfl, k5, b5⟩
  have B5 := hide (B4.out.trans b5)
  have S5 := hide (show q ≤ w5.heap.size by have := b5.size; have := S4.out; omega)
  have K5 := hide (show IsBld q q (Lib.byteCells (a.data.toList ++ b.data.toList)) w5 by
    have e : [] ++ Lib.strCells a ++ Lib.strCells ⟨#[]⟩ ++ Lib.strCells b = Lib.byteCells (a.data.toList ++ b.data.toList) := by
      rw [strCells_lib, strCells_lib, strCells_lib]
      simp [Lib.byteCells]
    rwa [e] at k5)
  clear b5 k5
  go_wp2_with fail
  rw [rounds_succ]
  go_wp2_with fail
  refine (Tryz.Builder_String_any q q _ w5 K5.out S5.out).mono ?_
  rintro e w6 ⟨rfl, b6⟩
  have B6 := hide (B5.out.trans b6)
  clear b6
  go_wp2_with fail
  go_ret
  exact ⟨rfl, (Upd.refl [] w).below (by rw [HQ.out]; exact B6.out)⟩
/-- marked -/
theorem marked_any (mk : ByteArray) (w : World) :
    Calls Tryz.prog 95 #[.string mk] w fun e w' => e = .returned (.func (.func 109) #[] #[.pointer (some ⟨w.heap.size, 0, none⟩)]) ∧ w.alloc (.cells #[.string mk] 9) = w' := by
  have hmf : ∀ (fn : Fn) (first cap : Array Value) (w : World), (Instr.makeFunc fn first cap).run Tryz.prog w = .ok (.func fn first cap) w := fun _ _ _ _ => rfl
  go_enter Tryz.func95, Tryz.ntmps95
  go_wp2
  go_ret
  exact ⟨rfl, rfl⟩
theorem marked_two (mk a b : ByteArray) (g pb : Nat) (ks : List Int) (w : World) (cm : w.cell? ⟨pb, 0, none⟩ = some (.string mk)) (ca : w.cell? ⟨g, 0, none⟩ = some (.string a)) (cb : w.cell? ⟨g, 1, none⟩ = some (.string b))
    (hk : RoundAt w ks) (hkl : ks.length = 64) (hm : mk.size ≤ 100) (ha : a.size ≤ 100000000) (hb : b.size ≤ 100000000) :
    Calls Tryz.prog 109 #[.slice (some ⟨g, 0, none⟩) 2 2, .pointer (some ⟨pb, 0, none⟩)] w fun e w' => e = .returned (.string ⟨(sumS ks (mk.data.toList ++ (a.data.toList ++ b.data.toList))).toArray⟩) ∧ Upd [] w w' := by
  have CM := hide cm
  have CA := hide ca
  have CB := hide cb
  have HK := hide hk
  have HKL := hide hkl
  have HA := hide ha
  have HB := hide hb
  have HM := hide hm
  clear cm ca cb hk hkl ha hb hm
  have hsz : ¬ 9223372036854775807 < mk.size + (a.size + b.size) := by have := HA.out; have := HB.out; have := HM.out; omega
  go_enter Tryz.func109, Tryz.ntmps109
  go_upto_region 1 with fail
  refine wp_region_held_drew (S := (fun w' => w'.cell? ⟨pb, 0, none⟩ = some (.string mk))) (by kernel_rfl) (by exact CM.out) (fun hHeld => ?_)
  obtain ⟨wd, hwD⟩ : ∃ x, w.drew = x := ⟨_, rfl⟩
  have u : Upd [] w wd := by rw [← hwD]; exact (Upd.refl [] _).drew
  rw [hwD] at hHeld ⊢
  clear hwD
  have U := hide u
  replace CM := hide (keepc _ _ _ _ u CM.out)
  replace CA := hide (keepc _ _ _ _ u CA.out)
  replace CB := hide (keepc _ _ _ _ u CB.out)
  replace HK := hide (HK.out.upd u (by simp))
  clear u
  refine wpAnyH_take (i := 0) (oi := ?oi0M2) (v := ?v0M2) ?oi0_0M2 (by kernel_rfl) ?ff0M2 ?rr0M2 ?hq0M2 (Or.inl ⟨?hw0M2, ?hy0M2⟩) (by assumption) ?rest0M2
  case oi0_0M2 => conv => lhs; whnf; arg 1; whnf
  case hq0M2 => exact fun _ _ _ h => h
  case ff0M2 | rr0M2 => kernel_rfl
  case hw0M2 => rfl
  case hy0M2 => intro w hSw; (try dsimp only at hSw); first | (go_simp; done) | (go_simp; with_reducible rfl)
  try simp only [Act.put, List.setIfInBounds_toArray, List.set_cons_zero, List.set_cons_succ]
  refine wpAnyH_take (i := 1) (oi := ?oi1M2) (v := ?v1M2) ?oi0_1M2 (by kernel_rfl) ?ff1M2 ?rr1M2 ?hq1M2 (Or.inl ⟨?hw1M2, ?hy1M2⟩) (by assumption) ?rest1M2
  case oi0_1M2 => conv => lhs; whnf; arg 1; whnf
  case hq1M2 => exact fun _ _ _ h => h
  case ff1M2 | rr1M2 => kernel_rfl
  case hw1M2 => rfl
  case hy1M2 => intro w hSw; (try dsimp only at hSw); first | (go_simp; done) | (go_simp; with_reducible rfl)
  try simp only [Act.put, List.setIfInBounds_toArray, List.set_cons_zero, List.set_cons_succ]
  refine wpAnyH_ready (rs := [2]) (by kernel_rfl) (by simp) (AllReadyH.cons (o := ?oiM3) ?oi0_M3 (fun K hK => ?_) AllReadyH.nil)
  case oi0_M3 => conv => lhs; whnf; arg 1; whnf
  go_simp
  go_at_call 111
  with_reducible (refine (join_two a b g wd CA.out CB.out (by have := HA.out; omega) (by have := HB.out; omega)).mono ?_)
  rintro e w1 ⟨rfl, u⟩
  replace U := hide (U.out.trans u (by simp))
  replace CM := hide (keepc _ _ _ _ u CM.out)
  replace CA := hide (keepc _ _ _ _ u CA.out)
  replace CB := hide (keepc _ _ _ _ u CB.out)
  replace HK := hide (HK.out.upd u (by simp))
  clear u
  (try dsimp only)
  refine hK.out _ _ (by exact CM.out) (fun hHeld => ?_)
  clear hK K
  try simp only [Act.put, List.setIfInBounds_toArray, List.set_cons_zero, List.set_cons_succ]
  refine wpAnyH_take (i := 3) (oi := ?oi3M4) (v := ?v3M4) ?oi0_3M4 (by kernel_rfl) ?ff3M4 ?rr3M4 ?hq3M4 (Or.inl ⟨?hw3M4, ?hy3M4⟩) (by assumption) ?rest3M4
  case oi0_3M4 => conv => lhs; whnf; arg 1; whnf
  case hq3M4 => exact fun _ _ _ h => h
  case ff3M4 | rr3M4 => kernel_rfl
  case hw3M4 => rfl
  case hy3M4 => intro w hSw; (try dsimp only at hSw); first | (go_simp; done) | (go_simp; with_reducible rfl)
  try simp only [Act.put, List.setIfInBounds_toArray, List.set_cons_zero, List.set_cons_succ]
  refine wpAnyH_ready (rs := [4]) (by kernel_rfl) (by simp) (AllReadyH.cons (o := ?oiM5) ?oi0_M5 (fun K hK => ?_) AllReadyH.nil)
  case oi0_M5 => conv => lhs; whnf; arg 1; whnf
  go_simp
  go_at_call 110
  obtain ⟨bs, hbs⟩ : ∃ x : ByteArray, mk ++ ⟨(a.data.toList ++ b.data.toList).toArray⟩ = x := ⟨_, rfl⟩
  (try rw [hbs])
  have hbl : bs.data.toList = mk.data.toList ++ (a.data.toList ++ b.data.toList) := by rw [← hbs]; simp
  have hbz : bs.size ≤ 1000000000 := by
    have h1 : bs.size = bs.data.toList.length := (Lib.size_eq bs).symm ▸ rfl
    have h2 : mk.data.toList.length = mk.size := Lib.size_eq mk ▸ rfl
    have h3 : a.data.toList.length = a.size := Lib.size_eq a ▸ rfl
    have h4 : b.data.toList.length = b.size := Lib.size_eq b ▸ rfl
    rw [h1, hbl, List.length_append, List.length_append]
    have := HA.out; have := HB.out; have := HM.out; omega
  with_reducible (refine (sum_any bs ks w1 hbz HK.out HKL.out).mono ?_)
  rintro e w2 ⟨rfl, u⟩
  rw [hbl]
  replace U := hide (U.out.trans u (by simp))
  replace CM := hide (keepc _ _ _ _ u CM.out)
  replace CA := hide (keepc _ _ _ _ u CA.out)
  replace CB := hide (keepc _ _ _ _ u CB.out)
  replace HK := hide (HK.out.upd u (by simp))
  clear u hbs hbl hbz
  (try dsimp only)
  refine hK.out _ _ (by exact CM.out) (fun hHeld => ?_)
  clear hK K
  try simp only [Act.put, List.setIfInBounds_toArray, List.set_cons_zero, List.set_cons_succ]
  refine wpAnyH_take (i := 5) (oi := ?oi5M6) (v := ?v5M6) ?oi0_5M6 (by kernel_rfl) ?ff5M6 ?rr5M6 ?hq5M6 (Or.inl ⟨?hw5M6, ?hy5M6⟩) (by assumption) ?rest5M6
  case oi0_5M6 => conv => lhs; whnf; arg 1; whnf
  case hq5M6 => exact fun _ _ _ h => h
  case ff5M6 | rr5M6 => kernel_rfl
  case hw5M6 => rfl
  case hy5M6 => intro w hSw; (try dsimp only at hSw); first | (go_simp; done) | (go_simp; with_reducible rfl)
  try simp only [Act.put, List.setIfInBounds_toArray, List.set_cons_zero, List.set_cons_succ]
  refine wpAnyH_done (by kernel_rfl) ?_ _
  go_wp2_with fail
  go_ret
  exact ⟨rfl, U.out⟩
/-- The head of a chain with a further record. -/
def chainS (ks : List Int) (a b : List UInt8) : List UInt8 := sumS ks (2 :: (a ++ b))
theorem chain_any (a b : ByteArray) (ks : List Int) (w : World) (hk : RoundAt w ks) (hkl : ks.length = 64) (ha : a.size ≤ 100000000) (hb : b.size ≤ 100000000) :
    Calls Tryz.prog 70 #[.string a, .string b] w fun e w' => e = .returned (.string ⟨(chainS ks a.data.toList b.data.toList).toArray⟩) ∧ Upd [] w w' := by
  have HK := hide hk
  have HKL := hide hkl
  have HA := hide ha
  have HB := hide hb
  clear hk hkl ha hb
  go_enter Tryz.func70, Tryz.ntmps70
  go_wp2_with fail
  refine (marked_any ⟨#[2]⟩ w).mono ?_
  rintro e w1 ⟨rfl, hw1⟩
  obtain ⟨q, hq⟩ : ∃ x, w.heap.size = x := ⟨_, rfl⟩
  have U1 := hide (show Upd [] w w1 by rw [← hw1]; exact (Upd.refl [] _).alloc _)
  have B1 := hide (show Blk w1 q 9 [.string ⟨#[2]⟩] by rw [← hw1, ← hq]; exact Blk.new w _ _)
  rw [hq]
  clear hw1 hq
  go_wp2_with fail
  obtain ⟨w2, hw2⟩ : ∃ x, w1.alloc (.cells #[.string a, .string b] 9) = x := ⟨_, rfl⟩
  have u2 : Upd [] w1 w2 := by rw [← hw2]; exact (Upd.refl [] _).alloc _
  have B2 := hide (show Blk w2 w1.heap.size 9 [.string a, .string b] by rw [← hw2]; exact Blk.new w1 _ _)
  have C2 := hide ((keepB B1.out u2).cell 0)
  have U2 := hide (U1.out.trans u2 (by simp))
  have K2 := hide (HK.out.upd U2.out (by simp))
  rw [hw2]
  clear hw2 u2 B1 U1
  refine (marked_two ⟨#[2]⟩ a b w1.heap.size q ks w2 (C2.out.trans rfl) ((B2.out.cell 0).trans rfl) ((B2.out.cell 1).trans rfl) K2.out HKL.out (by decide) HA.out HB.out).mono ?_
  rintro e w3 ⟨rfl, u3⟩
  have U3 := hide (U2.out.trans u3 (by simp))
  clear u3
  go_wp2_with fail
  go_ret
  exact ⟨rfl, U3.out⟩
theorem chainS_length (ks : List Int) (a b : List UInt8) : (chainS ks a b).length = 32 := sumS_length _ _
end Go.Proofs.YtafjolibfbccbaaGreatDoor

namespace Go.Proofs.YtafjolibfbccbaaGreatDoor
open Go.RowKit
set_option maxRecDepth 100000
set_option maxHeartbeats 1000000

def refK : List Int := [1116352408, 1899447441, 3049323471, 3921009573, 961987163, 1508970993, 2453635748, 2870763221, 3624381080, 310598401, 607225278, 1426881987, 1925078388, 2162078206, 2614888103, 3248222580, 3835390401, 4022224774, 264347078, 604807628, 770255983, 1249150122, 1555081692, 1996064986, 2554220882, 2821834349, 2952996808, 3210313671, 3336571891, 3584528711, 113926993, 338241895, 666307205, 773529912, 1294757372, 1396182291, 1695183700, 1986661051, 2177026350, 2456956037, 2730485921, 2820302411, 3259730800, 3345764771, 3516065817, 3600352804, 4094571909, 275423344, 430227734, 506948616, 659060556, 883997877, 958139571, 1322822218, 1537002063, 1747873779, 1955562222, 2024104815, 2227730452, 2361852424, 2428436474, 2756734187, 3204031479, 3329325298]
theorem refK_length : refK.length = 64 := rfl
theorem refK_word : ∀ x ∈ refK, Word x := by unfold Word; decide
theorem or_swap (a b : Int) : bits .or .u32 a b = bits .or .u32 b a := by
  show IntKind.u32.wrap ((BitVec.ofInt 32 a ||| BitVec.ofInt 32 b).toNat : Int) = IntKind.u32.wrap ((BitVec.ofInt 32 b ||| BitVec.ofInt 32 a).toNat : Int)
  rw [BitVec.or_comm]
theorem xor_zero_word {x : Int} (h : Word x) : bits .xor .u32 0 x = x := by
  obtain ⟨n, rfl⟩ : ∃ n : Nat, x = n := ⟨x.toNat, by have := h.1; omega⟩
  have hn : n < 4294967296 := by have := h.2; omega
  have h2 : (BitVec.ofInt 32 (n : Int)).toNat = n := by
    rw [BitVec.ofInt_natCast, BitVec.toNat_ofNat]; exact Nat.mod_eq_of_lt (by omega)
  show IntKind.u32.wrap ((BitVec.ofInt 32 0 ^^^ BitVec.ofInt 32 (n : Int)).toNat : Int) = _
  rw [show BitVec.ofInt 32 0 = 0#32 from rfl, BitVec.zero_xor, h2, IntKind.wrap_u32]
  omega
theorem rotS_word (n : Nat) (x : Int) : Word (rotS n x) := bits_word _ _ _
theorem mixS_two (a b : Nat) (x : Int) : mixS [a, b] x = bits .xor .u32 (rotS a x) (rotS b x) := by
  show bits .xor .u32 (bits .xor .u32 0 (rotS a x)) (rotS b x) = _
  rw [xor_zero_word (rotS_word a x)]
theorem mixS_three (a b c : Nat) (x : Int) : mixS [a, b, c] x = bits .xor .u32 (bits .xor .u32 (rotS a x) (rotS b x)) (rotS c x) := by
  show bits .xor .u32 (bits .xor .u32 (bits .xor .u32 0 (rotS a x)) (rotS b x)) (rotS c x) = _
  rw [xor_zero_word (rotS_word a x)]
theorem rotS_flip (n : Nat) (x : Int) : rotS n x = bits .or .u32 (x / 2 ^ n) (x * 2 ^ (32 - n) % 4294967296) := or_swap _ _
end Go.Proofs.YtafjolibfbccbaaGreatDoor

namespace Go.Proofs.YtafjolibfbccbaaGreatDoor
open Go.RowKit
set_option maxRecDepth 100000
set_option maxHeartbeats 40000000

def strV (l : List UInt8) : Value := .string ⟨l.toArray⟩
/-- The records of a journal, the head of their chain, how many bytes they take. -/
structure TapeS where
  recs : List (List UInt8)
  head : List UInt8
  size : Nat
def TapeS.add (ks : List Int) (T : TapeS) (r : List UInt8) : TapeS := ⟨T.recs ++ [r], chainS ks T.head r, T.size + (putStrS r).length + 33⟩
/-- How a further record is stored. -/
def storedS (ks : List Int) (T : TapeS) (r : List UInt8) : List UInt8 := 1 :: (putStrS r ++ chainS ks T.head r)
/-- The tape lies at the head of block tb; rest lies behind it. -/
def IsTapeAt (w : World) (base tb tt : Nat) (A : Option Addr) (c : Nat) (T : TapeS) (rest : List Value) : Prop :=
  base ≤ tb ∧ Blk w tb tt (.slice A T.recs.length c :: strV T.head :: .int .i64 (T.size : Int) :: rest) ∧ w.ownsRow base 9 1 (.slice A T.recs.length c) T.recs.length (T.recs.map strV)
def IsTape (w : World) (base tb tt : Nat) (T : TapeS) (rest : List Value) : Prop := ∃ A c, IsTapeAt w base tb tt A c T rest
theorem info_str : (Tryz.prog.info? 9).map (fun i => (i.zero, i.size, i.bytes)) = some (some (.string ⟨#[]⟩), 1, 16) := by kernel_rfl
theorem tape_add_at (base tb tt : Nat) (A : Option Addr) (c : Nat) (T : TapeS) (rest : List Value) (r : ByteArray) (ks : List Int) (w : World) (hT : IsTapeAt w base tb tt A c T rest) (htt : 9 ≠ tt) (hbase : base ≤ w.heap.size) (hk : RoundAt w ks) (hkl : ks.length = 64)
    (hkb : 3 < base) (hr : r.size ≤ 65536) (hh : T.head.length ≤ 1000) (hn : T.recs.length ≤ 1000000000000) (hsz : T.size ≤ 1000000000000) :
    Calls Tryz.prog 38 #[.pointer (some ⟨tb, 0, none⟩), .string r] w fun e w' => e = .returned (strV (storedS ks T r.data.toList)) ∧ ∃ A' c', IsTapeAt w' base tb tt A' c' (T.add ks r.data.toList) rest ∧ Upd (tb :: (A.map (·.block)).toList) w w' := by
  obtain ⟨hbt, hB, hO⟩ := hT
  obtain ⟨N, hN⟩ : ∃ N, T.recs.length = N := ⟨_, rfl⟩
  rw [hN] at hB hO hn
  have HB := hide hB
  have HO := hide hO
  have HK := hide hk
  have HKL := hide hkl
  have HN := hide hN
  have HTT := hide htt
  have HBT := hide hbt
  have HBASE := hide hbase
  have HKB := hide hkb
  have HR := hide hr
  have HSZ := hide hsz
  have hh2 : (⟨T.head.toArray⟩ : ByteArray).size ≤ 100000000 := by simp [ByteArray.size]; omega
  have HH := hide hh2
  have HHL := hide hh
  clear hB hO hk hkl hN htt hbt hbase hkb hr hh hh2 hsz
  have c1 : w.cell? ⟨tb, 1, none⟩ = some (strV T.head) := (HB.out.cell 1).trans rfl
  unfold strV at c1
  go_enter Tryz.func38, Tryz.ntmps38
  go_wp2_with fail
  with_reducible (refine (chain_any ⟨T.head.toArray⟩ r ks w HK.out HKL.out HH.out (by have := HR.out; omega)).mono ?_)
  rintro e w1 ⟨rfl, u⟩
  replace HB := hide (keepB HB.out u)
  replace HO := hide (own_kept HO.out u (by simp))
  replace HK := hide (HK.out.upd u (by simp))
  have U := hide u
  clear u c1
  obtain ⟨hd, hhd⟩ : ∃ x, chainS ks T.head r.data.toList = x := ⟨_, rfl⟩
  rw [show chainS ks (⟨T.head.toArray⟩ : ByteArray).data.toList r.data.toList = hd from hhd]
  have HHD := hide hhd
  have hdl := chainS_length ks T.head r.data.toList
  rw [hhd] at hdl
  have HDL := hide hdl
  clear hhd hdl
  have f1 := HB.out.frozen 1
  have c1 : w1.cell? ⟨tb, 1, none⟩ = some (strV T.head) := (HB.out.cell 1).trans rfl
  go_upto_region 2 with fail
  obtain ⟨w2, hw⟩ : ∃ x, w1.setCell ⟨tb, 1, none⟩ (.string ⟨hd.toArray⟩) = x := ⟨_, rfl⟩
  have u : Upd [tb] w1 w2 := by rw [← hw]; exact (Upd.refl _ _).setCell (.inl (by simp)) _
  have hB2 : Blk w2 tb tt (.slice A N c :: .string ⟨hd.toArray⟩ :: .int .i64 (T.size : Int) :: rest) := by rw [← hw]; exact HB.out.set_ 1 _
  replace HO := hide (own_kept HO.out u (fun k hk => by have := own_blk_ne HO.out HB.out HTT.out k hk; simpa using this))
  replace HK := hide (HK.out.upd u (by simp; have := HKB.out; have := HBT.out; omega))
  replace U := hide ((U.out.mono (l' := [tb]) (by simp)).trans u (by simp))
  replace HB := hide hB2
  rw [hw]
  clear hw u hB2 f1 c1
  have c0 : w2.cell? ⟨tb, 0, none⟩ = some (.slice A N c) := (HB.out.cell 0).trans rfl
  have hsz2 : base ≤ w2.heap.size := by have := U.out.size; have := HBASE.out; omega
  have HB2S := hide hsz2
  clear hsz2
  go_upto_region 3 with (at_builtin; refine wpList_append_base rfl _ _ 22 rfl base 9 (.string ⟨#[]⟩) 1 16 Tryz.underlying22 info_str rfl (by decide) A N c _ rfl (HO.out.alloc _) ⟨w2.heap.size, 0, none⟩ 1 1 [.string r] rfl rfl (it_one_new _ _ _ _ rfl) (by simp [Value.oneCell']) (by unfold maxLen; omega) (by omega) (by have := HB2S.out; simp; omega) ?_; intro A' c' w3 hO3 hu3 hA3; have HO3 := hide hO3; have HU3 := hide hu3; have HA3 := hide hA3; have hB3 := HB.out.alloc (.cells #[.string r] 9); have HB3 := hide (hB3.upd hu3 (fun hm => own_blk_ne (HO.out.alloc (.cells #[.string r] 9)) hB3 HTT.out tb (by rw [ownBlock_slice]; simpa using hm) rfl)); have f0 := HB3.out.frozen 0; have d0 : w3.cell? ⟨tb, 0, none⟩ = some (.slice A N c) := (HB3.out.cell 0).trans rfl; clear hO3 hu3 hA3 hB3)
  obtain ⟨w4, hw⟩ : ∃ x, w3.setCell ⟨tb, 0, none⟩ (.slice A' (N + 1) c') = x := ⟨_, rfl⟩
  have hB4 : Blk w4 tb tt (.slice A' (N + 1) c' :: .string ⟨hd.toArray⟩ :: .int .i64 (T.size : Int) :: rest) := by rw [← hw]; exact HB3.out.set_ 0 _
  have u4 : Upd [tb] w3 w4 := by rw [← hw]; exact (Upd.refl _ _).setCell (.inl (by simp)) _
  have hO4 := own_kept HO3.out u4 (fun k hk => by have := own_blk_ne HO3.out HB3.out HTT.out k hk; simpa using this)
  have b4 : Upd (tb :: (A.map (·.block)).toList) w w4 := by
    have b2 : Upd (A.map (·.block)).toList w2 w3 := (((Upd.refl [] w2).alloc _).mono (l' := (A.map (·.block)).toList) (by simp)).trans HU3.out (fun x hx => .inl hx)
    exact ((U.out.mono (l' := tb :: (A.map (·.block)).toList) (fun x hx => by simp at hx; subst hx; simp)).trans b2 (fun x hx => .inl (List.mem_cons_of_mem _ hx))).trans u4 (fun x hx => by simp at hx; subst hx; simp)
  have HB4 := hide hB4
  have HO4 := hide hO4
  have HBE := hide b4
  rw [hw]
  clear hw hB4 u4 hO4 b4 HB HO HO3 HU3 HA3 HB3 f0 d0 c0 HK U HB2S
  go_wp2_with fail
  with_reducible (refine (putString_any r w4 HR.out).mono ?_)
  rintro e w5 ⟨rfl, u⟩
  replace HB4 := hide (keepB HB4.out u)
  replace HO4 := hide (own_kept HO4.out u (by simp))
  replace HBE := hide (HBE.out.trans u (by simp))
  clear u
  obtain ⟨ps, hps⟩ : ∃ x, putStrS r.data.toList = x := ⟨_, rfl⟩
  rw [hps]
  have HPL := hide (show ps.length ≤ 65545 by rw [← hps]; unfold putStrS; rw [List.length_append]; have h1 : r.data.toList.length = r.size := Lib.size_eq r ▸ rfl; have h2 := putS_len (r.data.toList.length : Int) (by omega) (by have := HR.out; omega); have := HR.out; omega)
  have HPS := hide hps
  clear hps
  go_upto_region 4 with fail
  have hs1 : ¬ 9223372036854775807 < 1 + ps.length := by have := HPL.out; omega
  have hs2 : ¬ 9223372036854775807 < 1 + ps.length + hd.length := by have := HPL.out; have := HDL.out; omega
  refine wp_region_held_drew (S := (fun w' => w'.cell? ⟨tb, 1, none⟩ = some (.string ⟨hd.toArray⟩))) (by kernel_rfl) (by exact (HB4.out.cell 1).trans rfl) (fun hHeld => ?_)
  obtain ⟨v1, hwD⟩ : ∃ x, w5.drew = x := ⟨_, rfl⟩
  have u : Upd [] w5 v1 := by rw [← hwD]; exact (Upd.refl [] _).drew
  rw [hwD] at hHeld ⊢
  clear hwD
  replace HB4 := hide (keepB HB4.out u)
  replace HO4 := hide (own_kept HO4.out u (by simp))
  replace HBE := hide (HBE.out.trans u (by simp))
  clear u
  refine wpAnyH_take (i := 4) (oi := ?oi4M2) (v := ?v4M2) ?oi0_4M2 (by kernel_rfl) ?ff4M2 ?rr4M2 ?hq4M2 (Or.inl ⟨?hw4M2, ?hy4M2⟩) (by assumption) ?rest4M2
  case oi0_4M2 => conv => lhs; whnf; arg 1; whnf
  case hq4M2 => exact fun _ _ _ h => h
  case ff4M2 | rr4M2 => kernel_rfl
  case hw4M2 => rfl
  case hy4M2 => intro w hSw; (try dsimp only at hSw); first | (go_simp; done) | (go_simp; with_reducible rfl)
  try simp only [Act.put, List.setIfInBounds_toArray, List.set_cons_zero, List.set_cons_succ]
  refine wpAnyH_take (i := 5) (oi := ?oi5M2) (v := ?v5M2) ?oi0_5M2 (by kernel_rfl) ?ff5M2 ?rr5M2 ?hq5M2 (Or.inl ⟨?hw5M2, ?hy5M2⟩) (by assumption) ?rest5M2
  case oi0_5M2 => conv => lhs; whnf; arg 1; whnf
  case hq5M2 => exact fun _ _ _ h => h
  case ff5M2 | rr5M2 => kernel_rfl
  case hw5M2 => rfl
  case hy5M2 => intro w hSw; (try dsimp only at hSw); first | (go_simp; done) | (go_simp; with_reducible rfl)
  try simp only [Act.put, List.setIfInBounds_toArray, List.set_cons_zero, List.set_cons_succ]
  refine wpAnyH_take (i := 6) (oi := ?oi6M2) (v := ?v6M2) ?oi0_6M2 (by kernel_rfl) ?ff6M2 ?rr6M2 ?hq6M2 (Or.inl ⟨?hw6M2, ?hy6M2⟩) (by assumption) ?rest6M2
  case oi0_6M2 => conv => lhs; whnf; arg 1; whnf
  case hq6M2 => exact fun _ _ _ h => h
  case ff6M2 | rr6M2 => kernel_rfl
  case hw6M2 => rfl
  case hy6M2 => intro w hSw; (try dsimp only at hSw); first | (go_simp; done) | (go_simp; with_reducible rfl)
  try simp only [Act.put, List.setIfInBounds_toArray, List.set_cons_zero, List.set_cons_succ]
  refine wpAnyH_take (i := 7) (oi := ?oi7M2) (v := ?v7M2) ?oi0_7M2 (by kernel_rfl) ?ff7M2 ?rr7M2 ?hq7M2 (Or.inl ⟨?hw7M2, ?hy7M2⟩) (by assumption) ?rest7M2
  case oi0_7M2 => conv => lhs; whnf; arg 1; whnf
  case hq7M2 => exact fun _ _ _ h => h
  case ff7M2 | rr7M2 => kernel_rfl
  case hw7M2 => rfl
  case hy7M2 => intro w hSw; (try dsimp only at hSw); first | (go_simp; done) | (go_simp; with_reducible rfl)
  try simp only [Act.put, List.setIfInBounds_toArray, List.set_cons_zero, List.set_cons_succ]
  refine wpAnyH_take (i := 2) (oi := ?oi2M2) (v := ?v2M2) ?oi0_2M2 (by kernel_rfl) ?ff2M2 ?rr2M2 ?hq2M2 (Or.inl ⟨?hw2M2, ?hy2M2⟩) (by assumption) ?rest2M2
  case oi0_2M2 => conv => lhs; whnf; arg 1; whnf
  case hq2M2 => exact fun _ _ _ h => h
  case ff2M2 | rr2M2 => kernel_rfl
  case hw2M2 => rfl
  case hy2M2 => intro w hSw; (try dsimp only at hSw); first | (go_simp; done) | (go_simp; with_reducible rfl)
  try simp only [Act.put, List.setIfInBounds_toArray, List.set_cons_zero, List.set_cons_succ]
  refine wpAnyH_ready (rs := [0]) (by kernel_rfl) (by simp) (AllReadyH.cons (o := ?oiM3) ?oi0_M3 (fun K hK => ?_) AllReadyH.nil)
  case oi0_M3 => conv => lhs; whnf; arg 1; whnf
  go_simp
  obtain ⟨v2, hw⟩ : ∃ x, v1.alloc (.cells #[.int .u8 1] 5) = x := ⟨_, rfl⟩
  have u : Upd [] v1 v2 := by rw [← hw]; exact (Upd.refl [] _).alloc _
  have BC := hide (show Blk v2 v1.heap.size 5 (bCells [1]) by rw [← hw]; exact Blk.new v1 _ _)
  rw [hw]
  clear hw
  replace HB4 := hide (keepB HB4.out u)
  replace HO4 := hide (own_kept HO4.out u (by simp))
  replace HBE := hide (HBE.out.trans u (by simp))
  clear u
  (try dsimp only)
  refine hK.out _ _ (by exact (HB4.out.cell 1).trans rfl) (fun hHeld => ?_)
  clear hK K
  try simp only [Act.put, List.setIfInBounds_toArray, List.set_cons_zero, List.set_cons_succ]
  refine wpAnyH_ready (rs := [1]) (by kernel_rfl) (by simp) (AllReadyH.cons (o := ?oiM4) ?oi0_M4 (fun K hK => ?_) AllReadyH.nil)
  case oi0_M4 => conv => lhs; whnf; arg 1; whnf
  have hcv := run_conv_bytes BC.out 39 5 9 Tryz.underlying39 Tryz.underlying5 Tryz.underlying9 0 1 1 (by decide)
  go_simp
  (try dsimp only)
  refine hK.out _ _ (by exact (HB4.out.cell 1).trans rfl) (fun hHeld => ?_)
  clear hK K hcv
  try simp only [Act.put, List.setIfInBounds_toArray, List.set_cons_zero, List.set_cons_succ]
  refine wpAnyH_take (i := 3) (oi := ?oi3M5) (v := ?v3M5) ?oi0_3M5 (by kernel_rfl) ?ff3M5 ?rr3M5 ?hq3M5 (Or.inl ⟨?hw3M5, ?hy3M5⟩) (by assumption) ?rest3M5
  case oi0_3M5 => conv => lhs; whnf; arg 1; whnf
  case hq3M5 => exact fun _ _ _ h => h
  case ff3M5 | rr3M5 => kernel_rfl
  case hw3M5 => rfl
  case hy3M5 => intro w hSw; (try dsimp only at hSw); first | (go_simp; done) | (go_simp; with_reducible rfl)
  try simp only [Act.put, List.setIfInBounds_toArray, List.set_cons_zero, List.set_cons_succ]
  refine wpAnyH_take (i := 8) (oi := ?oi8M5) (v := ?v8M5) ?oi0_8M5 (by kernel_rfl) ?ff8M5 ?rr8M5 ?hq8M5 (Or.inl ⟨?hw8M5, ?hy8M5⟩) (by assumption) ?rest8M5
  case oi0_8M5 => conv => lhs; whnf; arg 1; whnf
  case hq8M5 => exact fun _ _ _ h => h
  case ff8M5 | rr8M5 => kernel_rfl
  case hw8M5 => rfl
  case hy8M5 => intro w hSw; (try dsimp only at hSw); first | (go_simp; done) | (go_simp; with_reducible rfl)
  try simp only [Act.put, List.setIfInBounds_toArray, List.set_cons_zero, List.set_cons_succ]
  refine wpAnyH_take (i := 9) (oi := ?oi9M5) (v := ?v9M5) ?oi0_9M5 (by kernel_rfl) ?ff9M5 ?rr9M5 ?hq9M5 (Or.inl ⟨?hw9M5, ?hy9M5⟩) (by assumption) ?rest9M5
  case oi0_9M5 => conv => lhs; whnf; arg 1; whnf
  case hq9M5 => exact fun _ _ _ h => h
  case ff9M5 | rr9M5 => kernel_rfl
  case hw9M5 => rfl
  case hy9M5 => intro w hSw; (try dsimp only at hSw); first | (go_simp; done) | (go_simp; with_reducible rfl)
  try simp only [Act.put, List.setIfInBounds_toArray, List.set_cons_zero, List.set_cons_succ]
  refine wpAnyH_done (by kernel_rfl) ?_ _
  have ho : (⟨#[1]⟩ : ByteArray) ++ ⟨ps.toArray⟩ ++ ⟨hd.toArray⟩ = ⟨(1 :: (ps ++ hd)).toArray⟩ := by
    apply ByteArray.ext
    apply Array.toList_inj.1
    simp
  rw [ho]
  clear ho hs1 hs2
  obtain ⟨ob, hob⟩ : ∃ x : ByteArray, ⟨(1 :: (ps ++ hd)).toArray⟩ = x := ⟨_, rfl⟩
  rw [hob]
  obtain ⟨ol, hol⟩ : ∃ x, ob.size = x := ⟨_, rfl⟩
  have HOL := hide (show ol = ps.length + 33 by rw [← hol, ← hob]; simp [ByteArray.size]; have := HDL.out; omega)
  have HOB := hide hob
  clear hob
  have c2 : v2.cell? ⟨tb, 2, none⟩ = some (.int .i64 (T.size : Int)) := (HB4.out.cell 2).trans rfl
  have f2 := HB4.out.frozen 2
  have hsw : IntKind.i64.wrap ((T.size : Int) + (ol : Int)) = (T.size : Int) + (ol : Int) := Go.IntWalk.i64_in _ (by have := HSZ.out; have := HOL.out; have := HPL.out; omega)
  go_wp2_with fail
  go_ret
  refine ⟨?_, A', c', ⟨HBT.out, ?_, ?_⟩, ?_⟩
  · unfold strV storedS; rw [HPS.out, HHD.out, ← HOB.out]; rfl
  · unfold TapeS.add; simp only [List.length_append, List.length_singleton, HN.out, HHD.out, HPS.out]; rw [show (((T.size + ps.length + 33 : Nat) : Int)) = (T.size : Int) + (ol : Int) by have := HOL.out; omega]; exact HB4.out.set_ 2 _
  · unfold TapeS.add; simp only [List.length_append, List.length_singleton, HN.out, List.map_append, List.map_singleton]; refine own_kept (l := [tb]) ?_ ((Upd.refl _ _).setCell (.inl (by simp)) _) (fun k hk => by have := own_blk_ne HO4.out HB4.out HTT.out k hk; simpa using this); exact HO4.out
  · exact HBE.out.setCell (.inl (by simp)) _
theorem tape_add (base tb tt : Nat) (T : TapeS) (rest : List Value) (r : ByteArray) (ks : List Int) (w : World) (hT : IsTape w base tb tt T rest) (htt : 9 ≠ tt) (hbase : base ≤ w.heap.size) (hk : RoundAt w ks) (hkl : ks.length = 64)
    (hkb : 3 < base) (hr : r.size ≤ 65536) (hh : T.head.length ≤ 1000) (hn : T.recs.length ≤ 1000000000000) (hsz : T.size ≤ 1000000000000) :
    Calls Tryz.prog 38 #[.pointer (some ⟨tb, 0, none⟩), .string r] w fun e w' => e = .returned (strV (storedS ks T r.data.toList)) ∧ IsTape w' base tb tt (T.add ks r.data.toList) rest ∧ Below base w w' := by
  obtain ⟨A, c, hT⟩ := hT
  refine (tape_add_at base tb tt A c T rest r ks w hT htt hbase hk hkl hkb hr hh hn hsz).mono ?_
  rintro e w' ⟨he, A', c', h1, h2⟩
  refine ⟨he, ⟨A', c', h1⟩, h2.toBelow hbase (fun x hx => ?_)⟩
  rcases List.mem_cons.1 hx with rfl | hx
  · exact hT.1
  · exact it_own_block hT.2.2 x (by rw [ownBlock_slice]; simpa using hx)

end Go.Proofs.YtafjolibfbccbaaGreatDoor
