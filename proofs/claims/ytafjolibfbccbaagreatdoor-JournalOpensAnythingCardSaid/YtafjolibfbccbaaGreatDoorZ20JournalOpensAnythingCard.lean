/-
  wire.PutInt: the encoding of an integer.
  wire.PutString; decoding: wire.Int and wire.String as plain functions.
  wire.Int and wire.String at any string.
  What aircheckref01.Int makes of bytes, in plain words: a number is read where its own encoding stands.
-/
import Derived.Test.YtafjolibfbccbaaGreatDoorZ19JournalOpensAnythingCard
import Derived.Laws.Bits64
import Derived.Lib.SlBytesRow
import Derived.Test.YtafjolibfbccbaaGreatDoorZ4JournalOpensAnythingCard

namespace Go.Proofs.YtafjolibfbccbaaGreatDoor
open Go.RowKit Go.Shelf
set_option maxRecDepth 100000
attribute [local go_sem] Oper.semAt_some

/-- The 7-bit groups of a number, and which is the last one. -/
def groupsS (z : Nat) : List (Nat × Bool) := if z < 128 then [(z, true)] else (z % 128, false) :: groupsS (z / 128)
termination_by z
decreasing_by omega
theorem groupsS_last {z : Nat} (h : z < 128) : groupsS z = [(z, true)] := by rw [groupsS, if_pos h]
theorem groupsS_more {z : Nat} (h : ¬ z < 128) : groupsS z = (z % 128, false) :: groupsS (z / 128) := by rw [groupsS, if_neg h]
theorem groupsS_lt : ∀ (z : Nat) (x : Nat × Bool), x ∈ groupsS z → x.1 < 128 := by
  intro z
  induction z using Nat.strongRecOn with
  | _ z ih =>
    intro x hx
    by_cases h : z < 128
    · rw [groupsS_last h] at hx
      obtain rfl := List.mem_singleton.1 hx
      exact h
    · rw [groupsS_more h] at hx
      rcases List.mem_cons.1 hx with rfl | hx
      · exact Nat.mod_lt _ (by omega)
      · exact ih (z / 128) (by omega) x hx
theorem groupsS_length : ∀ (k z : Nat), z < 128 ^ (k + 1) → (groupsS z).length ≤ k + 1 := by
  intro k
  induction k with
  | zero => intro z h; rw [groupsS_last (by simpa using h)]; simp
  | succ k ih =>
    intro z h
    by_cases h1 : z < 128
    · rw [groupsS_last h1]; simp
    · rw [groupsS_more h1, List.length_cons]
      have := ih (z / 128) (by rw [Nat.pow_succ] at h; exact Nat.div_lt_of_lt_mul (by rw [Nat.mul_comm]; exact h))
      omega
def grpB (x : Nat × Bool) : Nat := if x.2 then x.1 else x.1 + 128

theorem it_bits_u64 (a b : Nat) (ha : a < 18446744073709551616) (hb : b < 18446744073709551616) : bits .and .u64 (a : Int) (b : Int) = ((a &&& b : Nat) : Int) := by
  have e : ∀ a : Nat, a < 18446744073709551616 → (BitVec.ofInt 64 (a : Int)).toNat = a := fun a ha => by
    rw [BitVec.ofInt_natCast, BitVec.toNat_ofNat]; exact Nat.mod_eq_of_lt (by omega)
  have hx : a &&& b < 2 ^ 64 := Nat.and_lt_two_pow _ (by omega)
  show IntKind.u64.wrap ((BitVec.ofInt 64 (a : Int) &&& BitVec.ofInt 64 (b : Int)).toNat : Int) = _
  rw [BitVec.toNat_and, e a ha, e b hb, IntKind.wrap_u64]
  omega
theorem and_127 (z : Nat) (h : z < 18446744073709551616) : bits .and .u64 (z : Int) 127 = ((z % 128 : Nat) : Int) := by
  rw [show (127 : Int) = ((127 : Nat) : Int) from rfl, it_bits_u64 _ _ h (by omega)]
  exact congrArg _ (Nat.and_two_pow_sub_one_eq_mod z 7)
def boxNat (W : World) (b : Nat) : Nat := match W.cell? ⟨b, 0, none⟩ with | some (.int _ z) => z.toNat | _ => 0
theorem boxNat_of {W : World} {b t z : Nat} {k : IntKind} (h : Boxed W b t (.int k (z : Int))) : boxNat W b = z := by
  unfold boxNat
  rw [h.cell]
  simp
def GrpRel (J : List (Nat × Bool) → World → Prop) (b B z0 : Nat) (W : World) : Prop := ∃ (z : Nat) (pre : List (Nat × Bool)), z ≤ z0 ∧ Boxed W b 141 (.int .u64 z) ∧ groupsS z0 = pre ++ groupsS z ∧ J pre W ∧ B ≤ W.heap.size
abbrev GrpX := Nat × Bool
set_option maxHeartbeats 2000000 in
theorem groups1_in (n : Nat) (hn : 2 ≤ n) (l b B : Nat) (z0 : Nat) (hz0 : z0 < 9223372036854775808) (out : List Nat) (J : List GrpX → World → Prop)
    (hJ : ∀ pre A C, J pre A → Upd [b] A C → J pre C)
    (hY : ∀ pre x W, J pre W → x.1 < 128 → pre.length < 16 → YieldAt Fence.wide (n - 1) Tryz.prog l #[.int .u8 x.1, .bool x.2] W fun e W' => e = .returned (.bool true) ∧ J (pre ++ [x]) W' ∧ KeepX B out W W')
    (W : World) (hb : Boxed W b 141 (.int .u64 z0)) (hbB : b < B) (hbo : b ∉ out) (hB : B ≤ W.heap.size) (h0 : J [] W) :
    CallsIn Fence.wide n Tryz.prog 132 #[.func (.yield l) #[] #[], .pointer (some ⟨b, 0, none⟩)] W fun e W' => (∃ v, e = .returned v) ∧ ∃ ys, ys = groupsS z0 ∧ J ys W' := by
  refine callsIn_of_wp Tryz.func132 rfl trivial ?_ rfl
  simp only [Tryz.ntmps132, List.size_toArray, List.length_cons, List.length_nil, Nat.reduceAdd, Nat.reduceSub, Array.replicate_succ, Array.replicate_zero, List.push_toArray, List.append_toArray, List.nil_append, List.cons_append]
  have HY := hide hY
  have HJ := hide hJ
  have h1 : 1 ≤ n := by omega
  clear hY hJ
  gi_wp2
  refine wpIn_loop (fun a W => ∃ u2 u3 u4 u5 u6 u7 u8 u9 u10 u11 u12 u13 u14 u15 u16 u17, a = { tmps := #[.func (.yield l) #[] #[], .pointer (some ⟨b, 0, none⟩), u2, u3, u4, u5, u6, u7, u8, u9, u10, u11, u12, u13, u14, u15, u16, u17], defers := [] } ∧
    GrpRel J b B z0 W) (fun _ W => boxNat W b)
    ⟨_, _, _, _, _, _, _, _, _, _, _, _, _, _, _, _, rfl, z0, [], Nat.le_refl _, hb, rfl, h0, hB⟩ ?_
  rintro a W ⟨u2, u3, u4, u5, u6, u7, u8, u9, u10, u11, u12, u13, u14, u15, u16, u17, rfl, z, pre, hzz, hb, hg, hj, hB⟩
  have hzb : z < 9223372036854775808 := by omega
  have hc := hb.cell
  have hf := hb.frozen
  have HB := hide hb
  have HG := hide hg
  have HJS := hide hj
  have HBB := hide hB
  have hlen : pre.length < 16 := by
    have h1 := groupsS_length 8 z0 (by omega)
    rw [hg, List.length_append] at h1
    have : 0 < (groupsS z).length := by
      by_cases h : z < 128
      · rw [groupsS_last h]; simp
      · rw [groupsS_more h]; simp
    omega
  have HLEN := hide hlen
  clear hb hg hj hB hlen
  obtain ⟨m, hm⟩ : ∃ m, z % 128 = m := ⟨_, rfl⟩
  have ham := and_127 z (by omega)
  rw [hm] at ham
  have hml : m < 128 := by omega
  have hm256 : (m : Int) % 256 = m := by omega
  have HM := hide hm
  have hY := fun last => HY.out pre (m, last) W HJS.out hml HLEN.out
  by_cases hlt : z < 128
  · have hlti : (z : Int) < 128 := by omega
    obtain ⟨fn, tmps, assign, body, hy, hR⟩ := hY true
    have HR := hide hR
    replace hy : (Instr.yield l #[.int .u8 (m : Int), .bool true]).run Tryz.prog W = .ok (.round l fn tmps assign body) W := hy
    clear hR hY hm
    gi_wp2
    refine HR.out.mono ?_
    rintro e W3 ⟨rfl, hJ3, hk3⟩
    have HJ3 := hide hJ3
    clear hJ3 hk3
    gi_wp2
    refine bodyPost_ret (results_none rfl _ _ _) rfl ?_
    exact ⟨⟨_, rfl⟩, _, (HG.out.trans (by rw [groupsS_last hlt, ← HM.out, Nat.mod_eq_of_lt hlt])).symm, HJ3.out⟩
  · have hlti : ¬ (z : Int) < 128 := by omega
    have hlti2 : 128 ≤ (z : Int) := by omega
    obtain ⟨fn, tmps, assign, body, hy, hR⟩ := hY false
    have HR := hide hR
    replace hy : (Instr.yield l #[.int .u8 (m : Int), .bool false]).run Tryz.prog W = .ok (.round l fn tmps assign body) W := hy
    clear hR hY hm
    gi_wp2
    refine HR.out.mono ?_
    rintro e W3 ⟨rfl, hJ3, hk3⟩
    have HJ3 := hide hJ3
    have HB3 := hide (show Boxed W3 b 141 (.int .u64 z) from (hk3.2 b hbB hbo).trans HB.out)
    have hc3 := HB3.out.cell
    have hf3 := HB3.out.frozen
    have HS3 := hide hk3.1
    clear hJ3 hk3
    gi_wp2
    have hz : (z : Int) / 128 = ((z / 128 : Nat) : Int) := by omega
    rw [hz]
    have hBn := HB3.out.set (.int .u64 ((z / 128 : Nat) : Int))
    refine ⟨⟨_, _, _, _, _, _, _, _, _, _, _, _, _, _, _, _, rfl, z / 128, pre ++ [(m, false)], by omega, hBn, ?_, HJ.out _ _ _ HJ3.out ((Upd.refl _ _).setCell (.inl (by simp)) _), ?_⟩, ?_⟩
    · rw [HG.out, groupsS_more hlt, HM.out, List.append_assoc]
      rfl
    · have h1 := HBB.out
      have h2 := HS3.out
      have h3 := ((Upd.refl [b] W3).setCell (p := ⟨b, 0, none⟩) (.inl (by simp)) (.int .u64 ((z / 128 : Nat) : Int))).size
      omega
    · rw [boxNat_of hBn, boxNat_of HB.out]
      omega

theorem groups_told (n : Nat) (hn : 2 ≤ n) (b B : Nat) (z0 : Nat) (hz0 : z0 < 9223372036854775808) (out : List Nat) (w : World) (hb : Boxed w b 141 (.int .u64 z0)) (hbB : b < B) (hbo : b ∉ out) (hB : B ≤ w.heap.size) :
    SeqTold Fence.wide n Tryz.prog 132 #[.pointer (some ⟨b, 0, none⟩)] (fun x : GrpX => #[.int .u8 x.1, .bool x.2]) (fun x _ => x.1 < 128) [b] (KeepX B out) (fun ys => ys = groupsS z0) 16 w := fun l J W hW hJ hY h0 =>
  groups1_in n hn l b B z0 hz0 out J hJ hY W ((hW.block b hb.lt).trans hb) hbB hbo (Nat.le_trans hB hW.size) h0
theorem groups_any (z : Nat) (w : World) :
    Calls Tryz.prog 112 #[.int .u64 z] w fun e w' => e = .returned (.func (.func 132) #[] #[.pointer (some ⟨w.heap.size, 0, none⟩)]) ∧ w.alloc (.cells #[.int .u64 z] 141) = w' := by
  have hmf : ∀ (fn : Fn) (first cap : Array Value) (w : World), (Instr.makeFunc fn first cap).run Tryz.prog w = .ok (.func fn first cap) w := fun _ _ _ _ => rfl
  go_enter Tryz.func112, Tryz.ntmps112
  go_wp2
  go_ret
  exact ⟨rfl, rfl⟩
/-- The number that is encoded for n. -/
def zigS (n : Int) : Nat := if n < 0 then (-2 * n - 1).toNat else (2 * n).toNat
def putS (n : Int) : List UInt8 := (groupsS (zigS n)).map fun x => UInt8.ofNat (grpB x)

theorem it_info_byte : (Tryz.prog.info? 5).map (fun i => (i.zero, i.size, i.bytes)) = some (some (.int .u8 0), 1, 1) := by kernel_rfl
theorem zig_bits (x : Int) (hx : -4611686018427387903 ≤ x) (hx2 : x ≤ 4611686018427387903) : bits .xor .u64 (IntKind.u64.wrap (IntKind.u64.wrap x * 2)) (IntKind.u64.wrap (x / 9223372036854775808)) = ((zigS x : Nat) : Int) := by
  have e : ∀ a : Nat, a < 18446744073709551616 → (BitVec.ofInt 64 (a : Int)).toNat = a := fun a ha => by
    rw [BitVec.ofInt_natCast, BitVec.toNat_ofNat]; exact Nat.mod_eq_of_lt (by omega)
  unfold zigS
  by_cases h0 : x < 0
  · rw [if_pos h0]
    obtain ⟨k, hk⟩ : ∃ k : Nat, x = -(k : Int) := ⟨(-x).toNat, by omega⟩
    have e1 : IntKind.u64.wrap (IntKind.u64.wrap x * 2) = ((18446744073709551616 - 2 * k : Nat) : Int) := by
      rw [IntKind.wrap_u64, IntKind.wrap_u64]
      omega
    have e2 : IntKind.u64.wrap (x / 9223372036854775808) = ((18446744073709551615 : Nat) : Int) := by
      rw [show x / 9223372036854775808 = -1 by omega, IntKind.wrap_u64]
      omega
    rw [e1, e2]
    show IntKind.u64.wrap ((BitVec.ofInt 64 ((18446744073709551616 - 2 * k : Nat) : Int) ^^^ BitVec.ofInt 64 ((18446744073709551615 : Nat) : Int)).toNat : Int) = _
    rw [show BitVec.ofInt 64 ((18446744073709551615 : Nat) : Int) = BitVec.allOnes 64 by decide, BitVec.xor_allOnes, BitVec.toNat_not, e _ (by omega), IntKind.wrap_u64]
    omega
  · rw [if_neg h0]
    obtain ⟨k, hk⟩ : ∃ k : Nat, x = (k : Int) := ⟨x.toNat, by omega⟩
    have e1 : IntKind.u64.wrap (IntKind.u64.wrap x * 2) = ((2 * k : Nat) : Int) := by
      rw [IntKind.wrap_u64, IntKind.wrap_u64]
      omega
    have e2 : IntKind.u64.wrap (x / 9223372036854775808) = ((0 : Nat) : Int) := by
      rw [show x / 9223372036854775808 = 0 by omega, IntKind.wrap_u64]
      omega
    rw [e1, e2]
    show IntKind.u64.wrap ((BitVec.ofInt 64 ((2 * k : Nat) : Int) ^^^ BitVec.ofInt 64 ((0 : Nat) : Int)).toNat : Int) = _
    rw [show BitVec.ofInt 64 ((0 : Nat) : Int) = 0#64 by decide, BitVec.xor_zero, e _ (by omega), IntKind.wrap_u64]
    omega

def gCell (x : Nat × Bool) : Value := .int .u8 ((grpB x : Nat) : Int)
theorem or_128 : ∀ a : Nat, a < 128 → bits .or .u8 (a : Int) 128 = ((a + 128 : Nat) : Int) := by decide +kernel
theorem putS_bytes (z : Nat) : ∀ i (h : i < (ByteArray.mk ((groupsS z).map fun x => UInt8.ofNat (grpB x)).toArray).size), ((groupsS z).map gCell)[i]? = some (.int .u8 (((ByteArray.mk ((groupsS z).map fun x => UInt8.ofNat (grpB x)).toArray)[i].toNat : Nat) : Int)) := by
  intro i h
  have hl : i < (groupsS z).length := by
    have : (ByteArray.mk ((groupsS z).map fun x => UInt8.ofNat (grpB x)).toArray).size = (groupsS z).length := by simp [ByteArray.size]
    omega
  rw [List.getElem?_map, List.getElem?_eq_getElem hl]
  have e : (ByteArray.mk ((groupsS z).map fun x => UInt8.ofNat (grpB x)).toArray)[i] = UInt8.ofNat (grpB (groupsS z)[i]) := by
    show ((groupsS z).map fun x => UInt8.ofNat (grpB x)).toArray[i] = _
    simp
  rw [e]
  have h1 := groupsS_lt z _ (List.getElem_mem hl)
  have h2 : grpB (groupsS z)[i] < 256 := by unfold grpB; split <;> omega
  show some (gCell _) = _
  unfold gCell
  rw [UInt8.toNat_ofNat', Nat.mod_eq_of_lt h2]

set_option maxHeartbeats 20000000 in
theorem putInt_in (n : Nat) (hn6 : 6 ≤ n) (x : Int) (w : World) (hx : -4611686018427387903 ≤ x) (hx2 : x ≤ 4611686018427387903) :
    CallsIn Fence.wide n Tryz.prog 96 #[.int .i64 x] w fun e w' => e = .returned (.tuple #[.string ⟨(putS x).toArray⟩, .int .i64 0]) ∧ Upd [] w w' := by
  have h1 : 1 ≤ n := by omega
  refine callsIn_of_wp_marks Tryz.func96 rfl trivial ?_ rfl
  simp only [Tryz.ntmps96, List.size_toArray, List.length_cons, List.length_nil, Nat.reduceAdd, Nat.reduceSub, Array.replicate_succ, Array.replicate_zero, List.push_toArray, List.append_toArray, List.nil_append, List.cons_append]
  have hf2 : Fence.wide.fn 112 := trivial
  obtain ⟨i0, hi, hz0, hz1, hz2⟩ := info_parts it_info_byte
  obtain ⟨a1, e1⟩ : ∃ a, IntKind.u64.wrap x = a := ⟨_, rfl⟩
  obtain ⟨a2, e2⟩ : ∃ a, IntKind.u64.wrap (a1 * 2) = a := ⟨_, rfl⟩
  obtain ⟨a3, e3⟩ : ∃ a, x / 9223372036854775808 = a := ⟨_, rfl⟩
  obtain ⟨a4, e4⟩ : ∃ a, IntKind.u64.wrap a3 = a := ⟨_, rfl⟩
  have e5 : bits .xor .u64 a2 a4 = ((zigS x : Nat) : Int) := by
    rw [← e4, ← e3, ← e2, ← e1]
    exact zig_bits x hx hx2
  have hzl : zigS x < 9223372036854775808 := by unfold zigS; split <;> omega
  obtain ⟨z, hz⟩ : ∃ z, zigS x = z := ⟨_, rfl⟩
  rw [hz] at e5 hzl
  have HZ := hide hz
  have hd1 : decide (x < -4611686018427387903) = false := decide_eq_false (by omega)
  have hd2 : decide (4611686018427387903 < x) = false := decide_eq_false (by omega)
  have GA := hide (show ∀ W : World, CallsIn Fence.wide (n - 1) Tryz.prog 112 #[.int .u64 z] W _ from fun W => (callsIn_wide (n := n - 1)).2 (groups_any z W))
  clear hx hx2 hz
  gi_wp2_with (gi_at_call 112; refine (GA.out _).mono ?_; rintro e w2 ⟨rfl, rfl⟩)
  obtain ⟨W0, hW0⟩ : ∃ W0, ((w.alloc (.cells #[.slice none 0 0] 39)).alloc (.cells #[.int .u64 z] 141)) = W0 := ⟨_, rfl⟩
  rw [hW0]
  have hs0 : W0.heap.size = w.heap.size + 2 := by rw [← hW0]; simp
  have U0 : Upd [] w W0 := by rw [← hW0]; exact ((Upd.refl [] w).alloc _).alloc _
  have bZ : Boxed W0 (w.heap.size + 1) 141 (.int .u64 z) := by
    have := Blk.new (w.alloc (.cells #[.slice none 0 0] 39)) 141 [.int .u64 z]
    rw [← hW0]
    rw [World.size_alloc] at this
    exact this
  have bO : Boxed W0 w.heap.size 39 (.slice none 0 0) := by
    have := (Blk.new w 39 [.slice none 0 0]).alloc (.cells #[.int .u64 z] 141)
    rw [← hW0]
    exact this
  clear hW0
  refine wpIn_range_told rfl h1 (gf := 132) (lb := #[.pointer (some ⟨w.heap.size + 1, 0, none⟩)]) rfl trivial (enters_of Tryz.func132 (by kernel_rfl) rfl)
    (groups_told (n - 1) (by omega) (w.heap.size + 1) W0.heap.size z hzl [w.heap.size] W0 bZ (by omega) (by simp) (Nat.le_refl _)) (by simp; omega) KeepX.trans (KeepX.put (Nat.le_refl _)) (Below.refl _ _) (fun _ => rfl)
    (fun x _ _ _ _ h _ _ => h)
    (fun pre W => (∃ v, Boxed W w.heap.size 39 v ∧ W.ownsRow W0.heap.size 5 1 v pre.length (pre.map gCell) ∧ True) ∧ Upd [w.heap.size, w.heap.size + 1] W0 W)
    (OwnFrom.and (Own.from (holdsRow_own W0.heap.size w.heap.size 39 5 1 (fun pre : List GrpX => pre.length) (fun pre : List GrpX => pre.map gCell) (fun _ _ => True)) _) it_ownFrom_upd)
    (fun pre A B hI hu => by
      obtain ⟨⟨v, hv, hr, _⟩, hu0⟩ := hI
      exact ⟨⟨v, (hu.block _ hv.lt (by simp)).trans hv, own_kept hr hu (fun k hk hm => by have := it_own_block hr k hk; simp at hm; omega), trivial⟩, hu0.trans hu (by simp)⟩)
    ⟨⟨_, bO, World.ownsRow_nil _ _ _ _, trivial⟩, Upd.refl _ _⟩
    (fun y => { tmps := #[.int .i64 x, undef, .string ⟨#[]⟩, .int .i64 0, .pointer (some ⟨w.heap.size, 0, none⟩), .int .u8 y.1, .bool y.2, .int .i64 x, .bool false, .bool false, .int .i64 x, .bool false, .bool false, .int .i64 x, .int .u64 a1, .int .u64 a2, .int .i64 x, .int .i64 a3, .int .u64 a4, .int .u64 z,
      .func (.func 132) #[] #[.pointer (some ⟨w.heap.size + 1, 0, none⟩)], .int .u8 y.1, .bool y.2, undef, undef, undef, undef, undef, undef, undef, undef, undef, undef], defers := [] }) ?assign ?body ?done
  case assign =>
    intro l y W K hK
    gi_wp2
    exact hK
  case body =>
    rintro l pre ⟨a, b⟩ W ⟨⟨v, hv, hrow, _⟩, hu⟩ hx hlt
    have hx' : a < 128 := hx
    have hkp := hlt
    have HE := hide (show ((pre ++ [((a, b) : GrpX)]).map gCell) = pre.map gCell ++ [gCell (a, b)] by rw [List.map_append]; rfl)
    have HEL := hide (show (pre ++ [((a, b) : GrpX)]).length = pre.length + 1 by rw [List.length_append]; rfl)
    obtain ⟨len, hlen⟩ : ∃ len, pre.length = len := ⟨_, rfl⟩
    rw [hlen] at hrow hkp HEL
    dsimp only
    clear hlt hx hlen
    have HU := hide hu
    have HV := hide hv
    have R1 := hide hrow
    have hc := hv.cell
    have hsW : W0.heap.size ≤ W.heap.size := hu.size
    have hor := or_128 a hx'
    obtain ⟨y, hy⟩ : ∃ y : Nat, grpB (a, b) = y := ⟨_, rfl⟩
    have HY := hide (show gCell (a, b) = .int .u8 (y : Int) by unfold gCell; rw [hy])
    have hyb : y = if b then a else a + 128 := hy.symm
    clear hu hv hrow hy
    cases b with
    | true =>
      obtain rfl : y = a := hyb
      gi_wp2_with (gi_at_builtin; refine wpListIn_append_own _ rfl _ _ 39 rfl W0.heap.size 5 i0 (.int .u8 0) 1 1 Tryz.underlying39 hi hz0 hz1 hz2 rfl (by decide) _ _ _ rfl (R1.out.alloc _) ⟨W.heap.size, 0, none⟩ 1 1 [.int .u8 (y : Int)] rfl rfl (cell_one_new _ _ _) (by simp [Value.oneCell']) (by unfold maxLen; omega) (by omega) (by simp; omega) ?_; intro v' w1' hown' hgrow _; obtain ⟨g', cap', rfl⟩ := ownsRow_succ hown'; obtain ⟨hv1, hv2, hr2, hk2, hb2⟩ := HV.out.appended (n₀ := 0) (by decide) (it_own_less R1.out (Nat.zero_le _)) (Nat.zero_le _) (Nat.zero_le _) (it_own_less hown' (Nat.zero_le _)) hgrow; have HG := hide hgrow; have HO := hide hown'; have HK2 := hide hk2; have HV1 := hide hv1; have HV2 := hide hv2; have hc1 := hv1.cell; have hf1 := hv1.frozen; clear hgrow hown' hk2 hv2 hr2 hb2 hv1)
      have u3 : Upd [w.heap.size, w.heap.size + 1] W0 (w1'.setCell ⟨w.heap.size, 0, none⟩ (.slice (some ⟨g', 0, none⟩) (len + 1) cap')) :=
        ((HU.out.alloc _).grown HG.out (fun k hk => .inr (it_own_block R1.out k hk))).setCell (.inl (by simp)) _
      have hzz : ∀ k, v.ownBlock = some k → k ∉ [w.heap.size] := fun k hk hm => by have := it_own_block R1.out k hk; simp at hm; omega
      have hsz3 : W.heap.size ≤ (w1'.setCell ⟨w.heap.size, 0, none⟩ (.slice (some ⟨g', 0, none⟩) (len + 1) cap')).heap.size := HK2.out.size
      have hkx : KeepX W0.heap.size [w.heap.size] W (w1'.setCell ⟨w.heap.size, 0, none⟩ (.slice (some ⟨g', 0, none⟩) (len + 1) cap')) := ⟨hsz3, fun k hk hn => by
        have q1 := Below.heap_setCell w1' ⟨w.heap.size, 0, none⟩ (.slice (some ⟨g', 0, none⟩) (len + 1) cap') k (by simpa using hn)
        have q2 := HG.out.block k (by rw [World.size_alloc]; omega) (fun e => by have := it_own_block R1.out k e.symm; omega)
        exact q1.trans (q2.trans (Below.heap_alloc W _ k (by omega)))⟩
      refine ⟨HK2.out.from _, hkx, ⟨_, HV2.out, ?_, trivial⟩, u3⟩
      rw [HE.out, HEL.out, HY.out]
      have := HO.out.kept (grownBy_setCell' w1' w.heap.size (.slice (some ⟨g', 0, none⟩) (len + 1) cap')) (.inr (HV1.out.not_row (by decide) HO.out).symm)
      simpa using this
    | false =>
      obtain rfl : y = a + 128 := hyb
      gi_wp2_with (gi_at_builtin; refine wpListIn_append_own _ rfl _ _ 39 rfl W0.heap.size 5 i0 (.int .u8 0) 1 1 Tryz.underlying39 hi hz0 hz1 hz2 rfl (by decide) _ _ _ rfl (R1.out.alloc _) ⟨W.heap.size, 0, none⟩ 1 1 [.int .u8 ((a + 128 : Nat) : Int)] rfl rfl (cell_one_new _ _ _) (by simp [Value.oneCell']) (by unfold maxLen; omega) (by omega) (by simp; omega) ?_; intro v' w1' hown' hgrow _; obtain ⟨g', cap', rfl⟩ := ownsRow_succ hown'; obtain ⟨hv1, hv2, hr2, hk2, hb2⟩ := HV.out.appended (n₀ := 0) (by decide) (it_own_less R1.out (Nat.zero_le _)) (Nat.zero_le _) (Nat.zero_le _) (it_own_less hown' (Nat.zero_le _)) hgrow; have HG := hide hgrow; have HO := hide hown'; have HK2 := hide hk2; have HV1 := hide hv1; have HV2 := hide hv2; have hc1 := hv1.cell; have hf1 := hv1.frozen; clear hgrow hown' hk2 hv2 hr2 hb2 hv1)
      have u3 : Upd [w.heap.size, w.heap.size + 1] W0 (w1'.setCell ⟨w.heap.size, 0, none⟩ (.slice (some ⟨g', 0, none⟩) (len + 1) cap')) :=
        ((HU.out.alloc _).grown HG.out (fun k hk => .inr (it_own_block R1.out k hk))).setCell (.inl (by simp)) _
      have hzz : ∀ k, v.ownBlock = some k → k ∉ [w.heap.size] := fun k hk hm => by have := it_own_block R1.out k hk; simp at hm; omega
      have hsz3 : W.heap.size ≤ (w1'.setCell ⟨w.heap.size, 0, none⟩ (.slice (some ⟨g', 0, none⟩) (len + 1) cap')).heap.size := HK2.out.size
      have hkx : KeepX W0.heap.size [w.heap.size] W (w1'.setCell ⟨w.heap.size, 0, none⟩ (.slice (some ⟨g', 0, none⟩) (len + 1) cap')) := ⟨hsz3, fun k hk hn => by
        have q1 := Below.heap_setCell w1' ⟨w.heap.size, 0, none⟩ (.slice (some ⟨g', 0, none⟩) (len + 1) cap') k (by simpa using hn)
        have q2 := HG.out.block k (by rw [World.size_alloc]; omega) (fun e => by have := it_own_block R1.out k e.symm; omega)
        exact q1.trans (q2.trans (Below.heap_alloc W _ k (by omega)))⟩
      refine ⟨HK2.out.from _, hkx, ⟨_, HV2.out, ?_, trivial⟩, u3⟩
      rw [HE.out, HEL.out, HY.out]
      have := HO.out.kept (grownBy_setCell' w1' w.heap.size (.slice (some ⟨g', 0, none⟩) (len + 1) cap')) (.inr (HV1.out.not_row (by decide) HO.out).symm)
      simpa using this
  case done =>
    rintro D ys W hD hys ⟨⟨v, hv, hrow, _⟩, hu⟩ hK
    subst hys
    have hlen : 0 < (groupsS z).length := by
      by_cases h : z < 128
      · rw [groupsS_last h]; simp
      · rw [groupsS_more h]; simp
    have hform : ∃ g cap, v = .slice (some ⟨g, 0, none⟩) (groupsS z).length cap := by
      rcases hrow.2 with ⟨_, h0⟩ | ⟨g, cap, cur, hv0, _⟩
      · omega
      · exact ⟨g, cap, hv0⟩
    obtain ⟨g, cap, rfl⟩ := hform
    obtain ⟨bs, hbs⟩ : ∃ bs, ByteArray.mk ((groupsS z).map fun x => UInt8.ofNat (grpB x)).toArray = bs := ⟨_, rfl⟩
    have hsz : bs.size = (groupsS z).length := by rw [← hbs]; simp [ByteArray.size]
    have hby : Lib.Bytes W g 0 bs := fun i hi => by
      have h1 := putS_bytes z i (by rw [hbs]; exact hi)
      have h2 := World.ownsRow.cells hrow (g := g) rfl i _ h1
      have e : (⟨g, 0, none⟩ : Addr).add i = ⟨g, i, none⟩ := by unfold Addr.add; split <;> simp_all
      rw [e] at h2
      rw [Nat.zero_add, h2]
      subst hbs
      rfl
    have hconv := Lib.run_convert_whole (P := Tryz.prog) W 39 5 9 Tryz.underlying39 Tryz.underlying5 Tryz.underlying9 g 0 bs hby cap
    rw [hsz] at hconv
    have hc := hv.cell
    have HBS := hide hbs
    have HK := hide hK
    have UA := hide (show Upd [] w (W.putObj D (.deferred none)) from (U0.trans hu (by simp)).grown (grownBy_putObj' W D _) (fun k e => by cases e; right; omega))
    clear hv hrow hu hK hlen hsz hby hbs
    gi_wp2
    refine ⟨by simp, .inl ⟨_, _, rfl, run_takeDeferred HK.out, ?_⟩⟩
    refine ⟨_, results_tmp2 rfl _ _ _, ?_, UA.out⟩
    rw [← HBS.out, ← HZ.out]
    rfl

/-- wire.PutInt -/
theorem putInt_any (x : Int) (w : World) (hx : -4611686018427387903 ≤ x) (hx2 : x ≤ 4611686018427387903) :
    Calls Tryz.prog 96 #[.int .i64 x] w fun e w' => e = .returned (.tuple #[.string ⟨(putS x).toArray⟩, .int .i64 0]) ∧ Upd [] w w' :=
  callsIn_wide.1 (putInt_in 6 (by omega) x w hx hx2)
end Go.Proofs.YtafjolibfbccbaaGreatDoor

namespace Go.Proofs.YtafjolibfbccbaaGreatDoor
open Go.RowKit
set_option maxRecDepth 100000
set_option maxHeartbeats 4000000

def putStrS (s : List UInt8) : List UInt8 := putS (s.length : Int) ++ s
theorem putS_len (n : Int) (h : -4611686018427387903 ≤ n) (h2 : n ≤ 4611686018427387903) : (putS n).length ≤ 9 := by
  unfold putS
  rw [List.length_map]
  refine groupsS_length 8 _ ?_
  unfold zigS
  split <;> omega
theorem putString_any (s : ByteArray) (w : World) (hs : s.size ≤ 65536) :
    Calls Tryz.prog 71 #[.string s] w fun e w' => e = .returned (.tuple #[.string ⟨(putStrS s.data.toList).toArray⟩, .int .i64 0]) ∧ Upd [] w w' := by
  obtain ⟨n, hn⟩ : ∃ n, s.size = n := ⟨_, rfl⟩
  have hl : s.data.toList.length = n := by rw [← hn]; exact Lib.size_eq s ▸ rfl
  have hpl := putS_len (n : Int) (by omega) (by omega)
  have hnn : n ≤ 65536 := by omega
  obtain ⟨pb, hpb⟩ : ∃ x : ByteArray, ⟨(putS (n : Int)).toArray⟩ = x := ⟨_, rfl⟩
  have hps : pb.size ≤ 9 := by rw [← hpb]; simpa [ByteArray.size] using hpl
  have hov : ¬ 9223372036854775807 < pb.size + n := by omega
  have HPB := hide hpb
  have HL := hide hl
  have HP := hide (show ∀ w : World, Calls Tryz.prog 96 #[.int .i64 (n : Int)] w _ from fun w => putInt_any (n : Int) w (by omega) (by omega))
  clear hpl hpb hl hs hps
  go_enter Tryz.func71, Tryz.ntmps71
  go_wp2_with fail
  refine (HP.out _).mono ?_
  rintro e w1 ⟨rfl, u1⟩
  have U1 := hide u1
  rw [HPB.out]
  clear u1
  go_wp2_with fail
  go_ret2
  refine ⟨?_, U1.out⟩
  have e9 : pb ++ s = ⟨(putStrS s.data.toList).toArray⟩ := by
    apply ByteArray.ext
    apply Array.toList_inj.1
    unfold putStrS
    rw [HL.out, ← HPB.out]
    simp
  rw [← e9]
  rfl
end Go.Proofs.YtafjolibfbccbaaGreatDoor

namespace Go.Proofs.YtafjolibfbccbaaGreatDoor
open Go.RowKit Go.Shelf
set_option maxRecDepth 100000
set_option maxHeartbeats 4000000

/-- The number that an encoded number stands for. -/
def unzig (z : Nat) : Int := if z % 2 = 0 then ((z / 2 : Nat) : Int) else -((z / 2 : Nat) : Int) - 1
def intBad (b i z : Nat) : Prop := (b = 0 ∧ 0 < i) ∨ unzig z < -4611686018427387903
instance (b i z : Nat) : Decidable (intBad b i z) := by unfold intBad; infer_instance
def intFrom (bs : List UInt8) (a : Nat) : Nat → Nat → Nat → Int × Int × Int
  | 0, _, _ => (0, 0, 10)
  | f + 1, i, z => match bs[a + i]? with
    | none => (0, 0, 10)
    | some b => if 128 ≤ b.toNat then intFrom bs a f (i + 1) (z + b.toNat % 128 * 2 ^ (7 * i))
      else if intBad b.toNat i (z + b.toNat % 128 * 2 ^ (7 * i)) then (0, 0, 10) else (unzig (z + b.toNat % 128 * 2 ^ (7 * i)), (a + i + 1 : Nat), 0)
def intS (bs : List UInt8) (a : Nat) : Int × Int × Int := if bs.length < a then (0, 0, 2) else intFrom bs a 9 0 0
def intV (r : Int × Int × Int) : Value := .tuple #[.int .i64 r.1, .int .i64 r.2.1, .int .i64 r.2.2]

theorem wi_and127 {b : Nat} (h : b < 256) : bits .and .u8 (b : Int) 127 = ((b % 128 : Nat) : Int) := by
  have : ∀ b : Nat, b < 256 → bits .and .u8 (b : Int) 127 = ((b % 128 : Nat) : Int) := by decide +kernel
  exact this b h
theorem wi_ofInt (a : Nat) (h : a < 18446744073709551616) : (BitVec.ofInt 64 (a : Int)).toNat = a := by
  rw [BitVec.ofInt_natCast, BitVec.toNat_ofNat]; exact Nat.mod_eq_of_lt (by omega)
theorem wi_or (z h i : Nat) (hz : z < 2 ^ i) (hs : z + h * 2 ^ i < 18446744073709551616) : bits .or .u64 (z : Int) ((h * 2 ^ i : Nat) : Int) = ((z + h * 2 ^ i : Nat) : Int) := by
  show IntKind.u64.wrap ((BitVec.ofInt 64 (z : Int) ||| BitVec.ofInt 64 ((h * 2 ^ i : Nat) : Int)).toNat : Int) = _
  rw [BitVec.toNat_or, wi_ofInt z (by omega), wi_ofInt (h * 2 ^ i) (by omega), Nat.or_comm, Nat.mul_comm h, ← Nat.two_pow_add_eq_or_of_lt hz h, IntKind.wrap_u64, Nat.add_comm, Nat.mul_comm]
  rw [Nat.mul_comm] at hs
  have : 2 ^ i * h = h * 2 ^ i := Nat.mul_comm _ _
  omega
theorem wi_xor64 (z : Nat) (hz : z < 9223372036854775808) : bits .xor .i64 ((z / 2 : Nat) : Int) (-((z % 2 : Nat) : Int)) = unzig z := by
  unfold unzig
  by_cases h : z % 2 = 0
  · rw [if_pos h, h]
    show IntKind.i64.wrap ((BitVec.ofInt 64 ((z / 2 : Nat) : Int) ^^^ BitVec.ofInt 64 0).toNat : Int) = _
    rw [show BitVec.ofInt 64 0 = 0#64 by decide, BitVec.xor_zero, wi_ofInt _ (by omega), Go.IntWalk.i64_in _ (by omega)]
  · have h1 : z % 2 = 1 := by omega
    rw [if_neg h, h1]
    show IntKind.i64.wrap ((BitVec.ofInt 64 ((z / 2 : Nat) : Int) ^^^ BitVec.ofInt 64 (-1)).toNat : Int) = _
    rw [show BitVec.ofInt 64 (-1) = BitVec.allOnes 64 by decide, BitVec.xor_allOnes, BitVec.toNat_not, wi_ofInt _ (by omega), IntKind.wrap_i64]
    omega
theorem wi_bit (z : Nat) (hz : z < 18446744073709551616) : bits .and .u64 (z : Int) 1 = ((z % 2 : Nat) : Int) := by
  show IntKind.u64.wrap ((BitVec.ofInt 64 (z : Int) &&& BitVec.ofInt 64 1).toNat : Int) = _
  rw [BitVec.toNat_and, wi_ofInt z hz, show (BitVec.ofInt 64 1).toNat = 1 by decide, Nat.and_one_is_mod, IntKind.wrap_u64]
  omega
theorem unzig_in (z : Nat) (hz : z < 9223372036854775808) : -4611686018427387904 ≤ unzig z ∧ unzig z ≤ 4611686018427387903 := by
  unfold unzig
  split <;> omega
theorem pow7 {i : Nat} (h : i ≤ 9) : 2 ^ (7 * i) ≤ 9223372036854775808 := by
  have : 2 ^ (7 * i) ≤ 2 ^ 63 := Nat.pow_le_pow_right (by omega) (by omega)
  simpa using this

theorem int_any (s : ByteArray) (bs : List UInt8) (a : Nat) (w : World) (hb : s.data.toList = bs) (hs : s.size ≤ 1000000000000) (ha : a ≤ 1000000000000) :
    Calls Tryz.prog 113 #[.string s, .int .i64 (a : Int)] w fun e w' => e = .returned (intV (intS bs a)) ∧ w = w' := by
  obtain ⟨n, hn⟩ : ∃ n, s.size = n := ⟨_, rfl⟩
  have hl : bs.length = n := by rw [← hb, ← hn]; exact Lib.size_eq s ▸ rfl
  have hnb : n ≤ 1000000000000 := by omega
  have hidx : ∀ (W : World) (q : Nat) (x : UInt8), bs[q]? = some x → (Instr.index 9 (.string s) (.int .i64 (q : Int))).run Tryz.prog W = .ok (.int .u8 (x.toNat : Int)) W := by
    intro W q x hx
    have hq : q < s.size := by have := (List.getElem?_eq_some_iff.1 hx).1; omega
    have hv : s[q] = x := by
      subst hb
      have h9 := (List.getElem?_eq_some_iff.1 hx).2
      rw [← h9]
      rfl
    rw [run_index_string W _ s .i64 (q : Int) Tryz.underlying9, dif_pos ⟨by omega, by omega⟩]
    simp only [Int.toNat_natCast, hv]
  have HIDX := hide hidx
  have HL := hide hl
  have HB := hide hb
  clear hidx hl hb hs
  by_cases hna : n < a
  · have hna' : (n : Int) < (a : Int) := by omega
    have HI := hide (show intS bs a = (0, 0, 2) by unfold intS; rw [HL.out, if_pos hna])
    go_enter Tryz.func113, Tryz.ntmps113
    go_wp2_with fail
    refine bodyPost_ret (v := .tuple #[.int .i64 0, .int .i64 0, .int .i64 2]) (by simp [results, Tryz.results113, go_sem]) rfl ⟨?_, rfl⟩
    rw [HI.out]; rfl
  have hna' : ¬ (n : Int) < (a : Int) := by omega
  have HI := hide (show intS bs a = intFrom bs a 9 0 0 by unfold intS; rw [HL.out, if_neg hna])
  go_enter Tryz.func113, Tryz.ntmps113
  go_wp2_with fail
  go_loop [7, 19] (fun s7 s19 => ∃ i z : Nat, i ≤ 9 ∧ z < 2 ^ (7 * i) ∧ s7 = .int .u64 z ∧ s19 = .int .i64 i ∧ Hid (intS bs a = intFrom bs a (9 - i) i z)) (fun _ s => 9 - (intOf s).toNat)
  case atStart => exact ⟨0, 0, by omega, by decide, rfl, rfl, HI⟩
  case round =>
    obtain ⟨i, z, hi, hz, rfl, rfl, hI⟩ := hrel
    by_cases hi9 : i < 9
    case neg =>
      obtain rfl : i = 9 := by omega
      have h99 : ¬ ((9 : Nat) : Int) < 9 := by omega
      clear hz
      go_wp2_with fail
      refine bodyPost_ret (v := .tuple #[.int .i64 0, .int .i64 0, .int .i64 10]) (by simp [results, Tryz.results113, go_sem]) rfl ⟨?_, rfl⟩
      rw [hI.out]; rfl
    have hii : (i : Int) < 9 := by omega
    have hiw : IntKind.i64.wrap ((i : Int) + 1) = (i : Int) + 1 := Go.IntWalk.i64_in _ (by omega)
    obtain ⟨q, hq⟩ : ∃ q, a + i = q := ⟨_, rfl⟩
    have hqw : IntKind.i64.wrap ((a : Int) + (i : Int)) = (q : Int) := by rw [Go.IntWalk.i64_in _ (by omega)]; omega
    obtain ⟨f, hf⟩ : ∃ f, 9 - i = f + 1 := ⟨8 - i, by omega⟩
    have hf2 : f = 9 - (i + 1) := by omega
    cases hx : bs[q]? with
    | none =>
      have hqn : (n : Int) ≤ (q : Int) := by have := List.getElem?_eq_none_iff.1 hx; have := HL.out; omega
      have HE := hide (show intS bs a = (0, 0, 10) by rw [hI.out, hf, intFrom, hq, hx])
      clear hx hz hf hf2 hq
      go_wp2_with fail
      refine bodyPost_ret (v := .tuple #[.int .i64 0, .int .i64 0, .int .i64 10]) (by simp [results, Tryz.results113, go_sem]) rfl ⟨?_, rfl⟩
      rw [HE.out]; rfl
    | some x =>
      have hqn : ¬ (n : Int) ≤ (q : Int) := by have := (List.getElem?_eq_some_iff.1 hx).1; have := HL.out; omega
      have hix := fun W => HIDX.out W q x hx
      have HF := hide (show intS bs a = if 128 ≤ x.toNat then intFrom bs a f (i + 1) (z + x.toNat % 128 * 2 ^ (7 * i)) else if intBad x.toNat i (z + x.toNat % 128 * 2 ^ (7 * i)) then (0, 0, 10) else (unzig (z + x.toNat % 128 * 2 ^ (7 * i)), (a + i + 1 : Nat), 0) by
        rw [hI.out, hf, intFrom, hq, hx])
      obtain ⟨b, hb⟩ : ∃ b, x.toNat = b := ⟨_, rfl⟩
      have hb256 : b < 256 := by rw [← hb]; exact x.toNat_lt
      rw [hb] at hix HF
      obtain ⟨h, hh⟩ : ∃ h, b % 128 = h := ⟨_, rfl⟩
      have hh128 : h < 128 := by omega
      have a1 := wi_and127 hb256
      rw [hh] at a1 HF
      have a2 : IntKind.u64.wrap (h : Int) = (h : Int) := by rw [IntKind.wrap_u64]; omega
      obtain ⟨i7, hi7⟩ : ∃ x, 7 * i = x := ⟨_, rfl⟩
      have a3 : IntKind.i64.wrap (7 * (i : Int)) = (i7 : Int) := by rw [Go.IntWalk.i64_in _ (by omega)]; omega
      have hi64 : i7 < 64 := by omega
      have hi64i : (i7 : Int) < 64 := by omega
      have hp9 := pow7 (i := i + 1) (by omega)
      rw [show 7 * (i + 1) = i7 + 7 by omega, Nat.pow_add] at hp9
      rw [hi7] at hz HF
      have hhp : h * 2 ^ i7 ≤ 127 * 2 ^ i7 := Nat.mul_le_mul_right _ (by omega)
      obtain ⟨z2, hz2⟩ : ∃ x, z + h * 2 ^ i7 = x := ⟨_, rfl⟩
      have hz2b : z2 < 2 ^ (7 * (i + 1)) := by rw [show 7 * (i + 1) = i7 + 7 by omega, Nat.pow_add]; omega
      have hz263 : z2 < 9223372036854775808 := by omega
      obtain ⟨hv, hhv⟩ : ∃ x, h * 2 ^ i7 = x := ⟨_, rfl⟩
      have a4 : IntKind.u64.wrap ((h : Int) * 2 ^ i7) = (hv : Int) := by
        have e : (h : Int) * 2 ^ i7 = (hv : Int) := by rw [← hhv]; norm_cast
        rw [e, IntKind.wrap_u64]; omega
      have a5 := wi_or z h i7 hz (by omega)
      rw [hz2, hhv] at a5
      rw [hz2] at HF
      clear hx hp9 hhp hhv hz2 hh hb hz hI
      by_cases hb128 : 128 ≤ b
      · have hbi : (128 : Int) ≤ (b : Int) := by omega
        have HG := hide (show intS bs a = intFrom bs a (9 - (i + 1)) (i + 1) z2 by rw [HF.out, if_pos hb128, hf2])
        clear hf hf2 hi7
        go_wp2_with fail
        go_round
        case rel => exact ⟨i + 1, z2, by omega, hz2b, rfl, by go_num, HG⟩
        case measure => simp [intOf] <;> omega
      · have hbi : ¬ (128 : Int) ≤ (b : Int) := by omega
        obtain ⟨nn, hnn⟩ : ∃ x, unzig z2 = x := ⟨_, rfl⟩
        have hbad : intBad b i z2 ↔ (b = 0 ∧ 0 < i) ∨ nn < -4611686018427387903 := by unfold intBad; rw [hnn]
        have HG := hide (show intS bs a = if intBad b i z2 then (0, 0, 10) else (nn, ((a + i + 1 : Nat) : Int), 0) by rw [HF.out, if_neg hb128, hnn])
        have hnb2 := unzig_in z2 hz263
        rw [hnn] at hnb2
        obtain ⟨hn1, hn2⟩ := hnb2
        obtain ⟨zh, hzh⟩ : ∃ x, z2 / 2 = x := ⟨_, rfl⟩
        obtain ⟨z1, hz1⟩ : ∃ x, z2 % 2 = x := ⟨_, rfl⟩
        have c1 : (z2 : Int) / 2 = (zh : Int) := by omega
        have c2 := wi_bit z2 (by omega)
        have c4 := wi_xor64 z2 hz263
        rw [hz1] at c2 c4
        rw [hzh, hnn] at c4
        have hz1b : z1 < 2 := by omega
        have c3 : IntKind.i64.wrap (-(z1 : Int)) = -(z1 : Int) := Go.IntWalk.i64_in _ (by omega)
        have c5 : IntKind.i64.wrap (zh : Int) = (zh : Int) := Go.IntWalk.i64_in _ (by omega)
        have c6 : IntKind.i64.wrap ((q : Int) + 1) = (q : Int) + 1 := Go.IntWalk.i64_in _ (by omega)
        have HBAD := hide hbad
        have HQ := hide hq
        clear hf hf2 hi7 hnn hzh hz1 hbad hq hz2b hz263
        by_cases hb0 : b = 0
        · have hb0b : ((b : Int) == 0) = true := by simp [hb0]
          by_cases hi0 : 0 < i
          · have hi0i : (0 : Int) < (i : Int) := by omega
            have HE := hide (show intS bs a = (0, 0, 10) by rw [HG.out, if_pos (HBAD.out.2 (.inl ⟨hb0, hi0⟩))])
            clear hb0
            go_wp2_with fail
            refine bodyPost_ret (v := .tuple #[.int .i64 0, .int .i64 0, .int .i64 10]) (by simp [results, Tryz.results113, go_sem]) rfl ⟨?_, rfl⟩
            rw [HE.out]; rfl
          · have hi0i : ¬ (0 : Int) < (i : Int) := by omega
            by_cases hnm : nn < -4611686018427387903
            · have HE := hide (show intS bs a = (0, 0, 10) by rw [HG.out, if_pos (HBAD.out.2 (.inr hnm))])
              clear hb0
              go_wp2_with fail
              refine bodyPost_ret (v := .tuple #[.int .i64 0, .int .i64 0, .int .i64 10]) (by simp [results, Tryz.results113, go_sem]) rfl ⟨?_, rfl⟩
              rw [HE.out]; rfl
            · have HE := hide (show intS bs a = (nn, ((a + i + 1 : Nat) : Int), 0) by rw [HG.out, if_neg (fun h => (HBAD.out.1 h).elim (fun h => hi0 h.2) hnm)])
              clear hb0
              go_wp2_with fail
              refine bodyPost_ret (v := .tuple #[.int .i64 nn, .int .i64 ((q : Int) + 1), .int .i64 0]) (by simp [results, Tryz.results113, go_sem]) rfl ⟨?_, rfl⟩
              rw [HE.out, ← HQ.out]; rfl
        · have hb0b : ((b : Int) == 0) = false := by simp [hb0]
          by_cases hnm : nn < -4611686018427387903
          · have HE := hide (show intS bs a = (0, 0, 10) by rw [HG.out, if_pos (HBAD.out.2 (.inr hnm))])
            clear hb0
            go_wp2_with fail
            refine bodyPost_ret (v := .tuple #[.int .i64 0, .int .i64 0, .int .i64 10]) (by simp [results, Tryz.results113, go_sem]) rfl ⟨?_, rfl⟩
            rw [HE.out]; rfl
          · have HE := hide (show intS bs a = (nn, ((a + i + 1 : Nat) : Int), 0) by rw [HG.out, if_neg (fun h => (HBAD.out.1 h).elim (fun h => hb0 h.1) hnm)])
            clear hb0
            go_wp2_with fail
            refine bodyPost_ret (v := .tuple #[.int .i64 nn, .int .i64 ((q : Int) + 1), .int .i64 0]) (by simp [results, Tryz.results113, go_sem]) rfl ⟨?_, rfl⟩
            rw [HE.out, ← HQ.out]; rfl
/-- Where a decoding ends. -/
theorem intFrom_ok (bs : List UInt8) (a : Nat) : ∀ (f i z : Nat) (n x : Int), f + i ≤ 9 → z < 2 ^ (7 * i) → intFrom bs a f i z = (n, x, 0) → ∃ k : Nat, x = (k : Int) ∧ a < k ∧ k ≤ bs.length ∧ k ≤ a + 9 ∧ -4611686018427387903 ≤ n ∧ n ≤ 4611686018427387903 := by
  intro f
  induction f with
  | zero => intro i z n x _ _ h; simp [intFrom] at h
  | succ f ih =>
    intro i z n x hf hz h
    rw [intFrom] at h
    cases hx : bs[a + i]? with
    | none => rw [hx] at h; simp at h
    | some b =>
      rw [hx] at h
      simp only at h
      have hlt := (List.getElem?_eq_some_iff.1 hx).1
      have hz2 : z + b.toNat % 128 * 2 ^ (7 * i) < 2 ^ (7 * (i + 1)) := by
        have h1 : b.toNat % 128 * 2 ^ (7 * i) ≤ 127 * 2 ^ (7 * i) := Nat.mul_le_mul_right _ (by omega)
        rw [show 7 * (i + 1) = 7 * i + 7 by omega, Nat.pow_add]
        omega
      by_cases h1 : 128 ≤ b.toNat
      · rw [if_pos h1] at h
        exact ih (i + 1) _ n x (by omega) hz2 h
      · rw [if_neg h1] at h
        by_cases h2 : intBad b.toNat i (z + b.toNat % 128 * 2 ^ (7 * i))
        · rw [if_pos h2] at h; simp at h
        · rw [if_neg h2] at h
          simp only [Prod.mk.injEq, and_true] at h
          have hb := unzig_in _ (Nat.lt_of_lt_of_le hz2 (pow7 (by omega)))
          have h3 : ¬ unzig (z + b.toNat % 128 * 2 ^ (7 * i)) < -4611686018427387903 := fun h => h2 (.inr h)
          exact ⟨a + i + 1, h.2.symm, by omega, by omega, by omega, by omega, by omega⟩
theorem intS_ok (bs : List UInt8) (a : Nat) (n x : Int) (h : intS bs a = (n, x, 0)) : ∃ k : Nat, x = (k : Int) ∧ a < k ∧ k ≤ bs.length ∧ k ≤ a + 9 ∧ -4611686018427387903 ≤ n ∧ n ≤ 4611686018427387903 := by
  unfold intS at h
  by_cases ha : bs.length < a
  · rw [if_pos ha] at h; simp at h
  · rw [if_neg ha] at h
    exact intFrom_ok bs a 9 0 0 n x (by omega) (by decide) h
theorem intFrom_bad (bs : List UInt8) (a : Nat) : ∀ (f i z : Nat) (n x e : Int), intFrom bs a f i z = (n, x, e) → e = 0 ∨ e = 10 := by
  intro f
  induction f with
  | zero => intro i z n x e h; simp [intFrom] at h; omega
  | succ f ih =>
    intro i z n x e h
    rw [intFrom] at h
    cases hx : bs[a + i]? with
    | none => rw [hx] at h; simp at h; omega
    | some b =>
      rw [hx] at h
      simp only at h
      split at h
      · exact ih _ _ n x e h
      · split at h <;> simp at h <;> omega
def strBad (n : Int) (len k : Nat) : Prop := n < 0 ∨ 65536 < n ∨ (len : Int) - (k : Int) < n
instance (n : Int) (len k : Nat) : Decidable (strBad n len k) := by unfold strBad; infer_instance
/-- wire.String: the string, where it ends, the error. -/
def stringS (bs : List UInt8) (a : Nat) : List UInt8 × Int × Int :=
  if (intS bs a).2.2 ≠ 0 then ([], 0, (intS bs a).2.2) else
  if strBad (intS bs a).1 bs.length (intS bs a).2.1.toNat then ([], 0, 10) else
  ((bs.drop (intS bs a).2.1.toNat).take (intS bs a).1.toNat, (intS bs a).2.1 + (intS bs a).1, 0)
def stringV (r : List UInt8 × Int × Int) : Value := .tuple #[.string ⟨r.1.toArray⟩, .int .i64 r.2.1, .int .i64 r.2.2]
theorem str_extract (s : ByteArray) (a b : Nat) : s.extract a b = ⟨((s.data.toList.drop a).take (b - a)).toArray⟩ := by
  apply ByteArray.ext
  apply Array.toList_inj.1
  rw [ByteArray.data_extract, Array.toList_extract, List.extract_eq_take_drop]
theorem slice_str {P : Program} (W : World) {T : TypeId} (hT : P.underlying T = some .string) (s : ByteArray) {bs : List UInt8} (hb : s.data.toList = bs) (i j : Nat) (h1 : i ≤ j) (h2 : j ≤ s.size) (x y : Int) (hx : x = (i : Int)) (hy : y = (j : Int)) :
    (Instr.slice T (.string s) (some (.int .i64 x)) (some (.int .i64 y)) none).run P W = .ok (.string ⟨((bs.drop i).take (j - i)).toArray⟩) W := by
  subst hx hy hb
  rw [run_slice_string W T s .i64 .i64 (i : Int) (j : Int) hT (by omega) (by omega) (by omega), Int.toNat_natCast, Int.toNat_natCast, str_extract]
theorem slice_str_l {P : Program} (W : World) {T : TypeId} (hT : P.underlying T = some .string) (s : ByteArray) {bs : List UInt8} (hb : s.data.toList = bs) (i : Nat) (h2 : i ≤ s.size) (x : Int) (hx : x = (i : Int)) :
    (Instr.slice T (.string s) (some (.int .i64 x)) none none).run P W = .ok (.string ⟨(bs.drop i).toArray⟩) W := by
  subst hx hb
  rw [run_slice_string_l W T s hT .i64 (i : Int) (by omega) (by omega), Int.toNat_natCast, str_extract]
  rw [List.take_of_length_le]
  rw [List.length_drop]
  have : s.data.toList.length = s.size := Lib.size_eq s ▸ rfl
  omega
theorem string_any (s : ByteArray) (bs : List UInt8) (a : Nat) (w : World) (hb : s.data.toList = bs) (hs : s.size ≤ 1000000000000) (ha : a ≤ 1000000000000) :
    Calls Tryz.prog 101 #[.string s, .int .i64 (a : Int)] w fun e w' => e = .returned (stringV (stringS bs a)) ∧ w = w' := by
  have HC := hide (int_any s bs a w hb hs ha)
  obtain ⟨n, x, e, hr⟩ : ∃ n x e, intS bs a = (n, x, e) := ⟨_, _, _, rfl⟩
  have hl : bs.length = s.size := by rw [← hb]; exact Lib.size_eq s ▸ rfl
  rw [hr] at HC
  have HR := hide hr
  have HB := hide hb
  by_cases he : e = 0
  case neg =>
    have hne : ((e : Int) != 0) = true := by simp [he]
    have HE := hide (show stringS bs a = ([], 0, e) by unfold stringS; rw [hr, if_pos he])
    clear hr hb he hs hl
    go_enter Tryz.func101, Tryz.ntmps101
    go_wp2_with fail
    refine HC.out.mono ?_
    rintro e' w' ⟨rfl, rfl⟩
    unfold intV
    go_wp2_with fail
    refine bodyPost_ret (v := .tuple #[.string ⟨#[]⟩, .int .i64 0, .int .i64 e]) (by simp [results, Tryz.results101, go_sem]) rfl ⟨?_, rfl⟩
    rw [HE.out]; rfl
  subst he
  obtain ⟨k, rfl, hk1, hk2, hk3, hn1, hn2⟩ := intS_ok bs a n x hr
  obtain ⟨m, hm⟩ : ∃ m, s.size = m := ⟨_, rfl⟩
  have hkm : k ≤ m := by omega
  have hmb : m ≤ 1000000000000 := by omega
  have HF := hide (show stringS bs a = if strBad n m k then ([], 0, 10) else ((bs.drop k).take n.toNat, (k : Int) + n, 0) by
    unfold stringS
    rw [hr, if_neg (by simp)]
    simp only [Int.toNat_natCast]
    rw [show bs.length = m by omega])
  clear hr hb hs hl hk1 hk2 hk3
  by_cases hbad : strBad n m k
  · have HE := hide (show stringS bs a = ([], 0, 10) by rw [HF.out, if_pos hbad])
    have HBAD := hide hbad
    clear hbad
    go_enter Tryz.func101, Tryz.ntmps101
    go_wp2_with fail
    refine HC.out.mono ?_
    rintro e' w' ⟨rfl, rfl⟩
    unfold intV
    by_cases h1 : n < 0
    · go_wp2_with fail
      refine bodyPost_ret (v := .tuple #[.string ⟨#[]⟩, .int .i64 0, .int .i64 10]) (by simp [results, Tryz.results101, go_sem]) rfl ⟨?_, rfl⟩
      rw [HE.out]; rfl
    by_cases h2 : 65536 < n
    · go_wp2_with fail
      refine bodyPost_ret (v := .tuple #[.string ⟨#[]⟩, .int .i64 0, .int .i64 10]) (by simp [results, Tryz.results101, go_sem]) rfl ⟨?_, rfl⟩
      rw [HE.out]; rfl
    have h3 : (m : Int) - (k : Int) < n := by have := HBAD.out; unfold strBad at this; omega
    go_wp2_with fail
    refine bodyPost_ret (v := .tuple #[.string ⟨#[]⟩, .int .i64 0, .int .i64 10]) (by simp [results, Tryz.results101, go_sem]) rfl ⟨?_, rfl⟩
    rw [HE.out]; rfl
  · have HBAD := hide hbad
    have h1 : ¬ n < 0 := by unfold strBad at hbad; omega
    obtain ⟨q, rfl⟩ : ∃ q : Nat, n = (q : Int) := ⟨n.toNat, by omega⟩
    have h2 : ¬ (65536 : Int) < (q : Int) := by unfold strBad at hbad; omega
    have h3 : ¬ (m : Int) - (k : Int) < (q : Int) := by unfold strBad at hbad; omega
    have HE := hide (show stringS bs a = ((bs.drop k).take q, (k : Int) + (q : Int), 0) by rw [HF.out, if_neg hbad]; rfl)
    have hkq : (k : Int) + (q : Int) ≤ (m : Int) := by omega
    have hkq' : k + q ≤ m := by omega
    have hw1 : IntKind.i64.wrap ((k : Int) + (q : Int)) = (k : Int) + (q : Int) := Go.IntWalk.i64_in _ (by omega)
    have hsl := fun W => slice_str (P := Tryz.prog) W Tryz.underlying9 s HB.out k (k + q) (by omega) (by omega) (k : Int) ((k : Int) + (q : Int)) rfl (by omega)
    rw [show k + q - k = q by omega] at hsl
    clear hbad
    go_enter Tryz.func101, Tryz.ntmps101
    go_wp2_with fail
    refine HC.out.mono ?_
    rintro e' w' ⟨rfl, rfl⟩
    unfold intV
    go_wp2_with fail
    refine bodyPost_ret (v := .tuple #[.string ⟨((bs.drop k).take q).toArray⟩, .int .i64 ((k : Int) + (q : Int)), .int .i64 0]) (by simp [results, Tryz.results101, go_sem]) rfl ⟨?_, rfl⟩
    rw [HE.out]; rfl
end Go.Proofs.YtafjolibfbccbaaGreatDoor

namespace Go.Proofs.YtafjolibfbccbaaGreatDoor
open Go.RowKit
set_option maxRecDepth 100000
set_option maxHeartbeats 1000000

def valD : List Nat → Nat
  | [] => 0
  | d :: ds => d + 128 * valD ds
def markD : List Nat → List (Nat × Bool)
  | [] => []
  | [d] => [(d, true)]
  | d :: e :: ds => (d, false) :: markD (e :: ds)
theorem valD_pos : ∀ (ds : List Nat) (h : ds ≠ []), ds.getLast h ≠ 0 → 0 < valD ds
  | [d], _, hl => by simp at hl; show 0 < d + 128 * 0; omega
  | d :: e :: ds, _, hl => by
    have h1 := valD_pos (e :: ds) (by simp) (by rw [List.getLast_cons (by simp)] at hl; exact hl)
    show 0 < d + 128 * valD (e :: ds)
    omega
theorem groups_mark : ∀ (ds : List Nat) (h : ds ≠ []), (∀ d ∈ ds, d < 128) → (ds.length = 1 ∨ ds.getLast h ≠ 0) → groupsS (valD ds) = markD ds
  | [d], _, hd, _ => by
    have := hd d (by simp)
    show groupsS (d + 128 * 0) = [(d, true)]
    rw [Nat.mul_zero, Nat.add_zero, groupsS_last this]
  | d :: e :: ds, _, hd, hl => by
    have h0 := hd d (by simp)
    have hl2 : (e :: ds).getLast (by simp) ≠ 0 := by
      rcases hl with hl | hl
      · simp at hl
      · rw [List.getLast_cons (by simp)] at hl; exact hl
    have hp := valD_pos (e :: ds) (by simp) hl2
    have ih := groups_mark (e :: ds) (by simp) (fun x hx => hd x (by simp [hx])) (.inr hl2)
    show groupsS (d + 128 * valD (e :: ds)) = (d, false) :: markD (e :: ds)
    rw [groupsS_more (by omega), show (d + 128 * valD (e :: ds)) % 128 = d by omega, show (d + 128 * valD (e :: ds)) / 128 = valD (e :: ds) by omega, ih]
theorem groups_length : ∀ (ds : List Nat), ds ≠ [] → (∀ d ∈ ds, d < 128) → (groupsS (valD ds)).length ≤ ds.length
  | [d], _, hd => by
    have := hd d (by simp)
    show (groupsS (d + 128 * 0)).length ≤ 1
    rw [Nat.mul_zero, Nat.add_zero, groupsS_last this]
    simp
  | d :: e :: ds, _, hd => by
    have h0 := hd d (by simp)
    have ih := groups_length (e :: ds) (by simp) (fun x hx => hd x (by simp [hx]))
    show (groupsS (d + 128 * valD (e :: ds))).length ≤ (d :: e :: ds).length
    by_cases hz : d + 128 * valD (e :: ds) < 128
    · rw [groupsS_last hz]; simp
    · rw [groupsS_more hz, show (d + 128 * valD (e :: ds)) / 128 = valD (e :: ds) by omega, List.length_cons, List.length_cons]
      omega
theorem valD_zero : ∀ ds : List Nat, valD (ds ++ [0]) = valD ds
  | [] => rfl
  | d :: ds => by show d + 128 * valD (ds ++ [0]) = _; rw [valD_zero ds]; rfl
theorem valD_snoc : ∀ (ds : List Nat) (d : Nat), valD (ds ++ [d]) = valD ds + d * 2 ^ (7 * ds.length)
  | [], d => by show d + 128 * 0 = 0 + d * 2 ^ (7 * 0); omega
  | x :: ds, d => by
    show x + 128 * valD (ds ++ [d]) = x + 128 * valD ds + d * 2 ^ (7 * (ds.length + 1))
    rw [valD_snoc ds d, show 7 * (ds.length + 1) = 7 * ds.length + 7 by omega, Nat.pow_add, Nat.mul_add, show (2 : Nat) ^ 7 = 128 from rfl]
    have : 128 * (d * 2 ^ (7 * ds.length)) = d * (2 ^ (7 * ds.length) * 128) := by rw [Nat.mul_comm 128, Nat.mul_assoc]
    omega
theorem markD_snoc : ∀ (ds : List Nat) (d : Nat), markD (ds ++ [d]) = ds.map (fun x => (x, false)) ++ [(d, true)]
  | [], _ => rfl
  | [x], d => rfl
  | x :: y :: ds, d => by
    show (x, false) :: markD (y :: ds ++ [d]) = _
    rw [markD_snoc (y :: ds) d]
    rfl
theorem zig_unzig (z : Nat) : zigS (unzig z) = z := by
  unfold zigS unzig
  by_cases h : z % 2 = 0
  · rw [if_pos h, if_neg (by omega)]; omega
  · rw [if_neg h, if_pos (by omega)]; omega
/-- The bytes pre, each at least 128, and one byte b below it: the encoding of what they stand for is these bytes unless the last of several is 0. -/
theorem put_canon (pre : List UInt8) (b : UInt8) (hp : ∀ x ∈ pre, 128 ≤ x.toNat) (hb : b.toNat < 128) (z : Nat) (hz : z = valD (pre.map (fun x => x.toNat % 128) ++ [b.toNat])) :
    (putS (unzig z) = pre ++ [b]) ↔ ¬ (b.toNat = 0 ∧ 0 < pre.length) := by
  have hd : ∀ d ∈ pre.map (fun x => x.toNat % 128) ++ [b.toNat], d < 128 := by
    intro d hm
    rcases List.mem_append.1 hm with h | h
    · obtain ⟨x, _, rfl⟩ := List.mem_map.1 h; omega
    · have : d = b.toNat := by simpa using h
      omega
  unfold putS
  rw [zig_unzig, hz]
  constructor
  · rintro he ⟨h0, h1⟩
    have hl := congrArg List.length he
    rw [List.length_map, List.length_append, h0, valD_zero] at hl
    have := groups_length (pre.map (fun x => x.toNat % 128)) (by intro e; rw [List.map_eq_nil_iff] at e; rw [e] at h1; exact absurd h1 (by simp)) (fun d hm => hd d (List.mem_append_left _ hm))
    rw [List.length_map] at this
    simp at hl
    omega
  · intro h
    rw [groups_mark _ (by simp) hd (by
      by_cases hb0 : b.toNat = 0
      · left; have : pre.length = 0 := by have : ¬ 0 < pre.length := fun h2 => h ⟨hb0, h2⟩; omega
        simp [this]
      · right; simpa using hb0), markD_snoc, List.map_append, List.map_map, List.map_map, List.map_singleton]
    congr 1
    · refine (List.map_congr_left (fun x hx => ?_)).trans (List.map_id pre)
      have h1 := hp x hx
      have h2 := x.toNat_lt
      show UInt8.ofNat (grpB (x.toNat % 128, false)) = x
      unfold grpB
      rw [if_neg (by simp)]
      show UInt8.ofNat (x.toNat % 128 + 128) = x
      rw [show x.toNat % 128 + 128 = x.toNat by omega]
      exact UInt8.ofNat_toNat
    · unfold grpB
      simp
end Go.Proofs.YtafjolibfbccbaaGreatDoor
