/-
  wire.PutInt: the encoding of an integer.
-/
import Derived.Test.YtafjolibfbccbaaGreatDoorKKeep
import Derived.Laws.Bits64
import Derived.Lib.SlBytesRow
namespace Go.Proofs.YtafjolibfbccbaaGreatDoor
open Go.RowKit Go.Shelf
set_option maxRecDepth 100000
attribute [local go_sem] Oper.semAt_some

/-- The 7-bit groups of a number, and which is the last one. -/
def groupsS (z : Nat) : List (Nat × Bool) := if z < 128 then [(z, true)] else (z % 128, false) :: groupsS (z / 128)
termination_by z
decreasing_by omega
theorem groupsS_last {z : Nat} (h : z < 128) : groupsS z = [(z, true)] := by rw [groupsS, if_pos h]
theorem groupsS_more {z : Nat} (h : ¬ z < 128) : groupsS z = (z % 128, false) :: groupsS (z / 128) := by rw [groupsS, if_neg h]
theorem groupsS_lt : ∀ (z : Nat) (x : Nat × Bool), x ∈ groupsS z → x.1 < 128 := by
  intro z
  induction z using Nat.strongRecOn with
  | _ z ih =>
    intro x hx
    by_cases h : z < 128
    · rw [groupsS_last h] at hx
      obtain rfl := List.mem_singleton.1 hx
      exact h
    · rw [groupsS_more h] at hx
      rcases List.mem_cons.1 hx with rfl | hx
      · exact Nat.mod_lt _ (by omega)
      · exact ih (z / 128) (by omega) x hx
theorem groupsS_length : ∀ (k z : Nat), z < 128 ^ (k + 1) → (groupsS z).length ≤ k + 1 := by
  intro k
  induction k with
  | zero => intro z h; rw [groupsS_last (by simpa using h)]; simp
  | succ k ih =>
    intro z h
    by_cases h1 : z < 128
    · rw [groupsS_last h1]; simp
    · rw [groupsS_more h1, List.length_cons]
      have := ih (z / 128) (by rw [Nat.pow_succ] at h; exact Nat.div_lt_of_lt_mul (by rw [Nat.mul_comm]; exact h))
      omega
def grpB (x : Nat × Bool) : Nat := if x.2 then x.1 else x.1 + 128

theorem it_bits_u64 (a b : Nat) (ha : a < 18446744073709551616) (hb : b < 18446744073709551616) : bits .and .u64 (a : Int) (b : Int) = ((a &&& b : Nat) : Int) := by
  have e : ∀ a : Nat, a < 18446744073709551616 → (BitVec.ofInt 64 (a : Int)).toNat = a := fun a ha => by
    rw [BitVec.ofInt_natCast, BitVec.toNat_ofNat]; exact Nat.mod_eq_of_lt (by omega)
  have hx : a &&& b < 2 ^ 64 := Nat.and_lt_two_pow _ (by omega)
  show IntKind.u64.wrap ((BitVec.ofInt 64 (a : Int) &&& BitVec.ofInt 64 (b : Int)).toNat : Int) = _
  rw [BitVec.toNat_and, e a ha, e b hb, IntKind.wrap_u64]
  omega
theorem and_127 (z : Nat) (h : z < 18446744073709551616) : bits .and .u64 (z : Int) 127 = ((z % 128 : Nat) : Int) := by
  rw [show (127 : Int) = ((127 : Nat) : Int) from rfl, it_bits_u64 _ _ h (by omega)]
  exact congrArg _ (Nat.and_two_pow_sub_one_eq_mod z 7)
def boxNat (W : World) (b : Nat) : Nat := match W.cell? ⟨b, 0, none⟩ with | some (.int _ z) => z.toNat | _ => 0
theorem boxNat_of {W : World} {b t z : Nat} {k : IntKind} (h : Boxed W b t (.int k (z : Int))) : boxNat W b = z := by
  unfold boxNat
  rw [h.cell]
  simp
def GrpRel (J : List (Nat × Bool) → World → Prop) (b B z0 : Nat) (W : World) : Prop := ∃ (z : Nat) (pre : List (Nat × Bool)), z ≤ z0 ∧ Boxed W b 141 (.int .u64 z) ∧ groupsS z0 = pre ++ groupsS z ∧ J pre W ∧ B ≤ W.heap.size
abbrev GrpX := Nat × Bool
set_option maxHeartbeats 2000000 in
theorem groups1_in (n : Nat) (hn : 2 ≤ n) (l b B : Nat) (z0 : Nat) (hz0 : z0 < 9223372036854775808) (out : List Nat) (J : List GrpX → World → Prop)
    (hJ : ∀ pre A C, J pre A → Upd [b] A C → J pre C)
    (hY : ∀ pre x W, J pre W → x.1 < 128 → pre.length < 16 → YieldAt Fence.wide (n - 1) Tryz.prog l #[.int .u8 x.1, .bool x.2] W fun e W' => e = .returned (.bool true) ∧ J (pre ++ [x]) W' ∧ KeepX B out W W')
    (W : World) (hb : Boxed W b 141 (.int .u64 z0)) (hbB : b < B) (hbo : b ∉ out) (hB : B ≤ W.heap.size) (h0 : J [] W) :
    CallsIn Fence.wide n Tryz.prog 132 #[.func (.yield l) #[] #[], .pointer (some ⟨b, 0, none⟩)] W fun e W' => (∃ v, e = .returned v) ∧ ∃ ys, ys = groupsS z0 ∧ J ys W' := by
  refine callsIn_of_wp Tryz.func132 rfl trivial ?_ rfl
  simp only [Tryz.ntmps132, List.size_toArray, List.length_cons, List.length_nil, Nat.reduceAdd, Nat.reduceSub, Array.replicate_succ, Array.replicate_zero, List.push_toArray, List.append_toArray, List.nil_append, List.cons_append]
  have HY := hide hY
  have HJ := hide hJ
  have h1 : 1 ≤ n := by omega
  clear hY hJ
  gi_wp2
  refine wpIn_loop (fun a W => ∃ u2 u3 u4 u5 u6 u7 u8 u9 u10 u11 u12 u13 u14 u15 u16 u17, a = { tmps := #[.func (.yield l) #[] #[], .pointer (some ⟨b, 0, none⟩), u2, u3, u4, u5, u6, u7, u8, u9, u10, u11, u12, u13, u14, u15, u16, u17], defers := [] } ∧
    GrpRel J b B z0 W) (fun _ W => boxNat W b)
    ⟨_, _, _, _, _, _, _, _, _, _, _, _, _, _, _, _, rfl, z0, [], Nat.le_refl _, hb, rfl, h0, hB⟩ ?_
  rintro a W ⟨u2, u3, u4, u5, u6, u7, u8, u9, u10, u11, u12, u13, u14, u15, u16, u17, rfl, z, pre, hzz, hb, hg, hj, hB⟩
  have hzb : z < 9223372036854775808 := by omega
  have hc := hb.cell
  have hf := hb.frozen
  have HB := hide hb
  have HG := hide hg
  have HJS := hide hj
  have HBB := hide hB
  have hlen : pre.length < 16 := by
    have h1 := groupsS_length 8 z0 (by omega)
    rw [hg, List.length_append] at h1
    have : 0 < (groupsS z).length := by
      by_cases h : z < 128
      · rw [groupsS_last h]; simp
      · rw [groupsS_more h]; simp
    omega
  have HLEN := hide hlen
  clear hb hg hj hB hlen
  obtain ⟨m, hm⟩ : ∃ m, z % 128 = m := ⟨_, rfl⟩
  have ham := and_127 z (by omega)
  rw [hm] at ham
  have hml : m < 128 := by omega
  have hm256 : (m : Int) % 256 = m := by omega
  have HM := hide hm
  have hY := fun last => HY.out pre (m, last) W HJS.out hml HLEN.out
  by_cases hlt : z < 128
  · have hlti : (z : Int) < 128 := by omega
    obtain ⟨fn, tmps, assign, body, hy, hR⟩ := hY true
    have HR := hide hR
    replace hy : (Instr.yield l #[.int .u8 (m : Int), .bool true]).run Tryz.prog W = .ok (.round l fn tmps assign body) W := hy
    clear hR hY hm
    gi_wp2
    refine HR.out.mono ?_
    rintro e W3 ⟨rfl, hJ3, hk3⟩
    have HJ3 := hide hJ3
    clear hJ3 hk3
    gi_wp2
    refine bodyPost_ret (results_none rfl _ _ _) rfl ?_
    exact ⟨⟨_, rfl⟩, _, (HG.out.trans (by rw [groupsS_last hlt, ← HM.out, Nat.mod_eq_of_lt hlt])).symm, HJ3.out⟩
  · have hlti : ¬ (z : Int) < 128 := by omega
    have hlti2 : 128 ≤ (z : Int) := by omega
    obtain ⟨fn, tmps, assign, body, hy, hR⟩ := hY false
    have HR := hide hR
    replace hy : (Instr.yield l #[.int .u8 (m : Int), .bool false]).run Tryz.prog W = .ok (.round l fn tmps assign body) W := hy
    clear hR hY hm
    gi_wp2
    refine HR.out.mono ?_
    rintro e W3 ⟨rfl, hJ3, hk3⟩
    have HJ3 := hide hJ3
    have HB3 := hide (show Boxed W3 b 141 (.int .u64 z) from (hk3.2 b hbB hbo).trans HB.out)
    have hc3 := HB3.out.cell
    have hf3 := HB3.out.frozen
    have HS3 := hide hk3.1
    clear hJ3 hk3
    gi_wp2
    have hz : (z : Int) / 128 = ((z / 128 : Nat) : Int) := by omega
    rw [hz]
    have hBn := HB3.out.set (.int .u64 ((z / 128 : Nat) : Int))
    refine ⟨⟨_, _, _, _, _, _, _, _, _, _, _, _, _, _, _, _, rfl, z / 128, pre ++ [(m, false)], by omega, hBn, ?_, HJ.out _ _ _ HJ3.out ((Upd.refl _ _).setCell (.inl (by simp)) _), ?_⟩, ?_⟩
    · rw [HG.out, groupsS_more hlt, HM.out, List.append_assoc]
      rfl
    · have h1 := HBB.out
      have h2 := HS3.out
      have h3 := ((Upd.refl [b] W3).setCell (p := ⟨b, 0, none⟩) (.inl (by simp)) (.int .u64 ((z / 128 : Nat) : Int))).size
      omega
    · rw [boxNat_of hBn, boxNat_of HB.out]
      omega

theorem groups_told (n : Nat) (hn : 2 ≤ n) (b B : Nat) (z0 : Nat) (hz0 : z0 < 9223372036854775808) (out : List Nat) (w : World) (hb : Boxed w b 141 (.int .u64 z0)) (hbB : b < B) (hbo : b ∉ out) (hB : B ≤ w.heap.size) :
    SeqTold Fence.wide n Tryz.prog 132 #[.pointer (some ⟨b, 0, none⟩)] (fun x : GrpX => #[.int .u8 x.1, .bool x.2]) (fun x _ => x.1 < 128) [b] (KeepX B out) (fun ys => ys = groupsS z0) 16 w := fun l J W hW hJ hY h0 =>
  groups1_in n hn l b B z0 hz0 out J hJ hY W ((hW.block b hb.lt).trans hb) hbB hbo (Nat.le_trans hB hW.size) h0
theorem groups_any (z : Nat) (w : World) :
    Calls Tryz.prog 112 #[.int .u64 z] w fun e w' => e = .returned (.func (.func 132) #[] #[.pointer (some ⟨w.heap.size, 0, none⟩)]) ∧ w.alloc (.cells #[.int .u64 z] 141) = w' := by
  have hmf : ∀ (fn : Fn) (first cap : Array Value) (w : World), (Instr.makeFunc fn first cap).run Tryz.prog w = .ok (.func fn first cap) w := fun _ _ _ _ => rfl
  go_enter Tryz.func112, Tryz.ntmps112
  go_wp2
  go_ret
  exact ⟨rfl, rfl⟩
/-- The number that is encoded for n. -/
def zigS (n : Int) : Nat := if n < 0 then (-2 * n - 1).toNat else (2 * n).toNat
def putS (n : Int) : List UInt8 := (groupsS (zigS n)).map fun x => UInt8.ofNat (grpB x)

theorem it_info_byte : (Tryz.prog.info? 5).map (fun i => (i.zero, i.size, i.bytes)) = some (some (.int .u8 0), 1, 1) := by kernel_rfl
theorem zig_bits (x : Int) (hx : -4611686018427387903 ≤ x) (hx2 : x ≤ 4611686018427387903) : bits .xor .u64 (IntKind.u64.wrap (IntKind.u64.wrap x * 2)) (IntKind.u64.wrap (x / 9223372036854775808)) = ((zigS x : Nat) : Int) := by
  have e : ∀ a : Nat, a < 18446744073709551616 → (BitVec.ofInt 64 (a : Int)).toNat = a := fun a ha => by
    rw [BitVec.ofInt_natCast, BitVec.toNat_ofNat]; exact Nat.mod_eq_of_lt (by omega)
  unfold zigS
  by_cases h0 : x < 0
  · rw [if_pos h0]
    obtain ⟨k, hk⟩ : ∃ k : Nat, x = -(k : Int) := ⟨(-x).toNat, by omega⟩
    have e1 : IntKind.u64.wrap (IntKind.u64.wrap x * 2) = ((18446744073709551616 - 2 * k : Nat) : Int) := by
      rw [IntKind.wrap_u64, IntKind.wrap_u64]
      omega
    have e2 : IntKind.u64.wrap (x / 9223372036854775808) = ((18446744073709551615 : Nat) : Int) := by
      rw [show x / 9223372036854775808 = -1 by omega, IntKind.wrap_u64]
      omega
    rw [e1, e2]
    show IntKind.u64.wrap ((BitVec.ofInt 64 ((18446744073709551616 - 2 * k : Nat) : Int) ^^^ BitVec.ofInt 64 ((18446744073709551615 : Nat) : Int)).toNat : Int) = _
    rw [show BitVec.ofInt 64 ((18446744073709551615 : Nat) : Int) = BitVec.allOnes 64 by decide, BitVec.xor_allOnes, BitVec.toNat_not, e _ (by omega), IntKind.wrap_u64]
    omega
  · rw [if_neg h0]
    obtain ⟨k, hk⟩ : ∃ k : Nat, x = (k : Int) := ⟨x.toNat, by omega⟩
    have e1 : IntKind.u64.wrap (IntKind.u64.wrap x * 2) = ((2 * k : Nat) : Int) := by
      rw [IntKind.wrap_u64, IntKind.wrap_u64]
      omega
    have e2 : IntKind.u64.wrap (x / 9223372036854775808) = ((0 : Nat) : Int) := by
      rw [show x / 9223372036854775808 = 0 by omega, IntKind.wrap_u64]
      omega
    rw [e1, e2]
    show IntKind.u64.wrap ((BitVec.ofInt 64 ((2 * k : Nat) : Int) ^^^ BitVec.ofInt 64 ((0 : Nat) : Int)).toNat : Int) = _
    rw [show BitVec.ofInt 64 ((0 : Nat) : Int) = 0#64 by decide, BitVec.xor_zero, e _ (by omega), IntKind.wrap_u64]
    omega

def gCell (x : Nat × Bool) : Value := .int .u8 ((grpB x : Nat) : Int)
theorem or_128 : ∀ a : Nat, a < 128 → bits .or .u8 (a : Int) 128 = ((a + 128 : Nat) : Int) := by decide +kernel
theorem putS_bytes (z : Nat) : ∀ i (h : i < (ByteArray.mk ((groupsS z).map fun x => UInt8.ofNat (grpB x)).toArray).size), ((groupsS z).map gCell)[i]? = some (.int .u8 (((ByteArray.mk ((groupsS z).map fun x => UInt8.ofNat (grpB x)).toArray)[i].toNat : Nat) : Int)) := by
  intro i h
  have hl : i < (groupsS z).length := by
    have : (ByteArray.mk ((groupsS z).map fun x => UInt8.ofNat (grpB x)).toArray).size = (groupsS z).length := by simp [ByteArray.size]
    omega
  rw [List.getElem?_map, List.getElem?_eq_getElem hl]
  have e : (ByteArray.mk ((groupsS z).map fun x => UInt8.ofNat (grpB x)).toArray)[i] = UInt8.ofNat (grpB (groupsS z)[i]) := by
    show ((groupsS z).map fun x => UInt8.ofNat (grpB x)).toArray[i] = _
    simp
  rw [e]
  have h1 := groupsS_lt z _ (List.getElem_mem hl)
  have h2 : grpB (groupsS z)[i] < 256 := by unfold grpB; split <;> omega
  show some (gCell _) = _
  unfold gCell
  rw [UInt8.toNat_ofNat', Nat.mod_eq_of_lt h2]

set_option maxHeartbeats 20000000 in
theorem putInt_in (n : Nat) (hn6 : 6 ≤ n) (x : Int) (w : World) (hx : -4611686018427387903 ≤ x) (hx2 : x ≤ 4611686018427387903) :
    CallsIn Fence.wide n Tryz.prog 96 #[.int .i64 x] w fun e w' => e = .returned (.tuple #[.string ⟨(putS x).toArray⟩, .int .i64 0]) ∧ Upd [] w w' := by
  have h1 : 1 ≤ n := by omega
  refine callsIn_of_wp_marks Tryz.func96 rfl trivial ?_ rfl
  simp only [Tryz.ntmps96, List.size_toArray, List.length_cons, List.length_nil, Nat.reduceAdd, Nat.reduceSub, Array.replicate_succ, Array.replicate_zero, List.push_toArray, List.append_toArray, List.nil_append, List.cons_append]
  have hf2 : Fence.wide.fn 112 := trivial
  obtain ⟨i0, hi, hz0, hz1, hz2⟩ := info_parts it_info_byte
  obtain ⟨a1, e1⟩ : ∃ a, IntKind.u64.wrap x = a := ⟨_, rfl⟩
  obtain ⟨a2, e2⟩ : ∃ a, IntKind.u64.wrap (a1 * 2) = a := ⟨_, rfl⟩
  obtain ⟨a3, e3⟩ : ∃ a, x / 9223372036854775808 = a := ⟨_, rfl⟩
  obtain ⟨a4, e4⟩ : ∃ a, IntKind.u64.wrap a3 = a := ⟨_, rfl⟩
  have e5 : bits .xor .u64 a2 a4 = ((zigS x : Nat) : Int) := by
    rw [← e4, ← e3, ← e2, ← e1]
    exact zig_bits x hx hx2
  have hzl : zigS x < 9223372036854775808 := by unfold zigS; split <;> omega
  obtain ⟨z, hz⟩ : ∃ z, zigS x = z := ⟨_, rfl⟩
  rw [hz] at e5 hzl
  have HZ := hide hz
  have hd1 : decide (x < -4611686018427387903) = false := decide_eq_false (by omega)
  have hd2 : decide (4611686018427387903 < x) = false := decide_eq_false (by omega)
  have GA := hide (show ∀ W : World, CallsIn Fence.wide (n - 1) Tryz.prog 112 #[.int .u64 z] W _ from fun W => (callsIn_wide (n := n - 1)).2 (groups_any z W))
  clear hx hx2 hz
  gi_wp2_with (gi_at_call 112; refine (GA.out _).mono ?_; rintro e w2 ⟨rfl, rfl⟩)
  obtain ⟨W0, hW0⟩ : ∃ W0, ((w.alloc (.cells #[.slice none 0 0] 39)).alloc (.cells #[.int .u64 z] 141)) = W0 := ⟨_, rfl⟩
  rw [hW0]
  have hs0 : W0.heap.size = w.heap.size + 2 := by rw [← hW0]; simp
  have U0 : Upd [] w W0 := by rw [← hW0]; exact ((Upd.refl [] w).alloc _).alloc _
  have bZ : Boxed W0 (w.heap.size + 1) 141 (.int .u64 z) := by
    have := Blk.new (w.alloc (.cells #[.slice none 0 0] 39)) 141 [.int .u64 z]
    rw [← hW0]
    rw [World.size_alloc] at this
    exact this
  have bO : Boxed W0 w.heap.size 39 (.slice none 0 0) := by
    have := (Blk.new w 39 [.slice none 0 0]).alloc (.cells #[.int .u64 z] 141)
    rw [← hW0]
    exact this
  clear hW0
  refine wpIn_range_told rfl h1 (gf := 132) (lb := #[.pointer (some ⟨w.heap.size + 1, 0, none⟩)]) rfl trivial (enters_of Tryz.func132 (by kernel_rfl) rfl)
    (groups_told (n - 1) (by omega) (w.heap.size + 1) W0.heap.size z hzl [w.heap.size] W0 bZ (by omega) (by simp) (Nat.le_refl _)) (by simp; omega) KeepX.trans (KeepX.put (Nat.le_refl _)) (Below.refl _ _) (fun _ => rfl)
    (fun x _ _ _ _ h _ _ => h)
    (fun pre W => (∃ v, Boxed W w.heap.size 39 v ∧ W.ownsRow W0.heap.size 5 1 v pre.length (pre.map gCell) ∧ True) ∧ Upd [w.heap.size, w.heap.size + 1] W0 W)
    (OwnFrom.and (Own.from (holdsRow_own W0.heap.size w.heap.size 39 5 1 (fun pre : List GrpX => pre.length) (fun pre : List GrpX => pre.map gCell) (fun _ _ => True)) _) it_ownFrom_upd)
    (fun pre A B hI hu => by
      obtain ⟨⟨v, hv, hr, _⟩, hu0⟩ := hI
      exact ⟨⟨v, (hu.block _ hv.lt (by simp)).trans hv, own_kept hr hu (fun k hk hm => by have := it_own_block hr k hk; simp at hm; omega), trivial⟩, hu0.trans hu (by simp)⟩)
    ⟨⟨_, bO, World.ownsRow_nil _ _ _ _, trivial⟩, Upd.refl _ _⟩
    (fun y => { tmps := #[.int .i64 x, undef, .string ⟨#[]⟩, .int .i64 0, .pointer (some ⟨w.heap.size, 0, none⟩), .int .u8 y.1, .bool y.2, .int .i64 x, .bool false, .bool false, .int .i64 x, .bool false, .bool false, .int .i64 x, .int .u64 a1, .int .u64 a2, .int .i64 x, .int .i64 a3, .int .u64 a4, .int .u64 z,
      .func (.func 132) #[] #[.pointer (some ⟨w.heap.size + 1, 0, none⟩)], .int .u8 y.1, .bool y.2, undef, undef, undef, undef, undef, undef, undef, undef, undef, undef], defers := [] }) ?assign ?body ?done
  case assign =>
    intro l y W K hK
    gi_wp2
    exact hK
  case body =>
    rintro l pre ⟨a, b⟩ W ⟨⟨v, hv, hrow, _⟩, hu⟩ hx hlt
    have hx' : a < 128 := hx
    have hkp := hlt
    have HE := hide (show ((pre ++ [((a, b) : GrpX)]).map gCell) = pre.map gCell ++ [gCell (a, b)] by rw [List.map_append]; rfl)
    have HEL := hide (show (pre ++ [((a, b) : GrpX)]).length = pre.length + 1 by rw [List.length_append]; rfl)
    obtain ⟨len, hlen⟩ : ∃ len, pre.length = len := ⟨_, rfl⟩
    rw [hlen] at hrow hkp HEL
    dsimp only
    clear hlt hx hlen
    have HU := hide hu
    have HV := hide hv
    have R1 := hide hrow
    have hc := hv.cell
    have hsW : W0.heap.size ≤ W.heap.size := hu.size
    have hor := or_128 a hx'
    obtain ⟨y, hy⟩ : ∃ y : Nat, grpB (a, b) = y := ⟨_, rfl⟩
    have HY := hide (show gCell (a, b) = .int .u8 (y : Int) by unfold gCell; rw [hy])
    have hyb : y = if b then a else a + 128 := hy.symm
    clear hu hv hrow hy
    cases b with
    | true =>
      obtain rfl : y = a := hyb
      gi_wp2_with (gi_at_builtin; refine wpListIn_append_own _ rfl _ _ 39 rfl W0.heap.size 5 i0 (.int .u8 0) 1 1 Tryz.underlying39 hi hz0 hz1 hz2 rfl (by decide) _ _ _ rfl (R1.out.alloc _) ⟨W.heap.size, 0, none⟩ 1 1 [.int .u8 (y : Int)] rfl rfl (cell_one_new _ _ _) (by simp [Value.oneCell']) (by unfold maxLen; omega) (by omega) (by simp; omega) ?_; intro v' w1' hown' hgrow _; obtain ⟨g', cap', rfl⟩ := ownsRow_succ hown'; obtain ⟨hv1, hv2, hr2, hk2, hb2⟩ := HV.out.appended (n₀ := 0) (by decide) (it_own_less R1.out (Nat.zero_le _)) (Nat.zero_le _) (Nat.zero_le _) (it_own_less hown' (Nat.zero_le _)) hgrow; have HG := hide hgrow; have HO := hide hown'; have HK2 := hide hk2; have HV1 := hide hv1; have HV2 := hide hv2; have hc1 := hv1.cell; have hf1 := hv1.frozen; clear hgrow hown' hk2 hv2 hr2 hb2 hv1)
      have u3 : Upd [w.heap.size, w.heap.size + 1] W0 (w1'.setCell ⟨w.heap.size, 0, none⟩ (.slice (some ⟨g', 0, none⟩) (len + 1) cap')) :=
        ((HU.out.alloc _).grown HG.out (fun k hk => .inr (it_own_block R1.out k hk))).setCell (.inl (by simp)) _
      have hzz : ∀ k, v.ownBlock = some k → k ∉ [w.heap.size] := fun k hk hm => by have := it_own_block R1.out k hk; simp at hm; omega
      have hsz3 : W.heap.size ≤ (w1'.setCell ⟨w.heap.size, 0, none⟩ (.slice (some ⟨g', 0, none⟩) (len + 1) cap')).heap.size := HK2.out.size
      have hkx : KeepX W0.heap.size [w.heap.size] W (w1'.setCell ⟨w.heap.size, 0, none⟩ (.slice (some ⟨g', 0, none⟩) (len + 1) cap')) := ⟨hsz3, fun k hk hn => by
        have q1 := Below.heap_setCell w1' ⟨w.heap.size, 0, none⟩ (.slice (some ⟨g', 0, none⟩) (len + 1) cap') k (by simpa using hn)
        have q2 := HG.out.block k (by rw [World.size_alloc]; omega) (fun e => by have := it_own_block R1.out k e.symm; omega)
        exact q1.trans (q2.trans (Below.heap_alloc W _ k (by omega)))⟩
      refine ⟨HK2.out.from _, hkx, ⟨_, HV2.out, ?_, trivial⟩, u3⟩
      rw [HE.out, HEL.out, HY.out]
      have := HO.out.kept (grownBy_setCell' w1' w.heap.size (.slice (some ⟨g', 0, none⟩) (len + 1) cap')) (.inr (HV1.out.not_row (by decide) HO.out).symm)
      simpa using this
    | false =>
      obtain rfl : y = a + 128 := hyb
      gi_wp2_with (gi_at_builtin; refine wpListIn_append_own _ rfl _ _ 39 rfl W0.heap.size 5 i0 (.int .u8 0) 1 1 Tryz.underlying39 hi hz0 hz1 hz2 rfl (by decide) _ _ _ rfl (R1.out.alloc _) ⟨W.heap.size, 0, none⟩ 1 1 [.int .u8 ((a + 128 : Nat) : Int)] rfl rfl (cell_one_new _ _ _) (by simp [Value.oneCell']) (by unfold maxLen; omega) (by omega) (by simp; omega) ?_; intro v' w1' hown' hgrow _; obtain ⟨g', cap', rfl⟩ := ownsRow_succ hown'; obtain ⟨hv1, hv2, hr2, hk2, hb2⟩ := HV.out.appended (n₀ := 0) (by decide) (it_own_less R1.out (Nat.zero_le _)) (Nat.zero_le _) (Nat.zero_le _) (it_own_less hown' (Nat.zero_le _)) hgrow; have HG := hide hgrow; have HO := hide hown'; have HK2 := hide hk2; have HV1 := hide hv1; have HV2 := hide hv2; have hc1 := hv1.cell; have hf1 := hv1.frozen; clear hgrow hown' hk2 hv2 hr2 hb2 hv1)
      have u3 : Upd [w.heap.size, w.heap.size + 1] W0 (w1'.setCell ⟨w.heap.size, 0, none⟩ (.slice (some ⟨g', 0, none⟩) (len + 1) cap')) :=
        ((HU.out.alloc _).grown HG.out (fun k hk => .inr (it_own_block R1.out k hk))).setCell (.inl (by simp)) _
      have hzz : ∀ k, v.ownBlock = some k → k ∉ [w.heap.size] := fun k hk hm => by have := it_own_block R1.out k hk; simp at hm; omega
      have hsz3 : W.heap.size ≤ (w1'.setCell ⟨w.heap.size, 0, none⟩ (.slice (some ⟨g', 0, none⟩) (len + 1) cap')).heap.size := HK2.out.size
      have hkx : KeepX W0.heap.size [w.heap.size] W (w1'.setCell ⟨w.heap.size, 0, none⟩ (.slice (some ⟨g', 0, none⟩) (len + 1) cap')) := ⟨hsz3, fun k hk hn => by
        have q1 := Below.heap_setCell w1' ⟨w.heap.size, 0, none⟩ (.slice (some ⟨g', 0, none⟩) (len + 1) cap') k (by simpa using hn)
        have q2 := HG.out.block k (by rw [World.size_alloc]; omega) (fun e => by have := it_own_block R1.out k e.symm; omega)
        exact q1.trans (q2.trans (Below.heap_alloc W _ k (by omega)))⟩
      refine ⟨HK2.out.from _, hkx, ⟨_, HV2.out, ?_, trivial⟩, u3⟩
      rw [HE.out, HEL.out, HY.out]
      have := HO.out.kept (grownBy_setCell' w1' w.heap.size (.slice (some ⟨g', 0, none⟩) (len + 1) cap')) (.inr (HV1.out.not_row (by decide) HO.out).symm)
      simpa using this
  case done =>
    rintro D ys W hD hys ⟨⟨v, hv, hrow, _⟩, hu⟩ hK
    subst hys
    have hlen : 0 < (groupsS z).length := by
      by_cases h : z < 128
      · rw [groupsS_last h]; simp
      · rw [groupsS_more h]; simp
    have hform : ∃ g cap, v = .slice (some ⟨g, 0, none⟩) (groupsS z).length cap := by
      rcases hrow.2 with ⟨_, h0⟩ | ⟨g, cap, cur, hv0, _⟩
      · omega
      · exact ⟨g, cap, hv0⟩
    obtain ⟨g, cap, rfl⟩ := hform
    obtain ⟨bs, hbs⟩ : ∃ bs, ByteArray.mk ((groupsS z).map fun x => UInt8.ofNat (grpB x)).toArray = bs := ⟨_, rfl⟩
    have hsz : bs.size = (groupsS z).length := by rw [← hbs]; simp [ByteArray.size]
    have hby : Lib.Bytes W g 0 bs := fun i hi => by
      have h1 := putS_bytes z i (by rw [hbs]; exact hi)
      have h2 := World.ownsRow.cells hrow (g := g) rfl i _ h1
      have e : (⟨g, 0, none⟩ : Addr).add i = ⟨g, i, none⟩ := by unfold Addr.add; split <;> simp_all
      rw [e] at h2
      rw [Nat.zero_add, h2]
      subst hbs
      rfl
    have hconv := Lib.run_convert_whole (P := Tryz.prog) W 39 5 9 Tryz.underlying39 Tryz.underlying5 Tryz.underlying9 g 0 bs hby cap
    rw [hsz] at hconv
    have hc := hv.cell
    have HBS := hide hbs
    have HK := hide hK
    have UA := hide (show Upd [] w (W.putObj D (.deferred none)) from (U0.trans hu (by simp)).grown (grownBy_putObj' W D _) (fun k e => by cases e; right; omega))
    clear hv hrow hu hK hlen hsz hby hbs
    gi_wp2
    refine ⟨by simp, .inl ⟨_, _, rfl, run_takeDeferred HK.out, ?_⟩⟩
    refine ⟨_, results_tmp2 rfl _ _ _, ?_, UA.out⟩
    rw [← HBS.out, ← HZ.out]
    rfl

/-- wire.PutInt -/
theorem putInt_any (x : Int) (w : World) (hx : -4611686018427387903 ≤ x) (hx2 : x ≤ 4611686018427387903) :
    Calls Tryz.prog 96 #[.int .i64 x] w fun e w' => e = .returned (.tuple #[.string ⟨(putS x).toArray⟩, .int .i64 0]) ∧ Upd [] w w' :=
  callsIn_wide.1 (putInt_in 6 (by omega) x w hx hx2)
end Go.Proofs.YtafjolibfbccbaaGreatDoor
