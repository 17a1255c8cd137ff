/-
  item.cuts: which cuts come, with their lengths, in order.
  The small functions of the reference and of the laws on items.
  The reference's cuts by bits; the items that integers determine.
-/
import Derived.Test.YteehjciepccomaaZ6FitItemsRow
import Derived.Test.YteehjciepccomaaZ16FitItemsRow
import Derived.Shelf.Abstract
import Derived.Shelf.RegionOpen
import Derived.OwnWalkIn
import Derived.TacticsInMore
import Derived.LoopNIn
import Derived.LoopIn
import Derived.Test.YteehjciepccomaaZ3FitItemsRow
import Derived.Deep.CutBlock

namespace Go.Proofs.Yteehjciepccomaa
open Go.RowKit Go.Shelf
set_option maxRecDepth 100000
attribute [local go_sem] Oper.semAt_some

/-- The indices below n whose bits are set. -/
def bitsS (set : Nat) : Nat → List Int
  | 0 => []
  | n + 1 => if set.testBit n then bitsS set n ++ [(n : Int)] else bitsS set n
theorem bitsS_length (set n : Nat) : (bitsS set n).length ≤ n := by
  induction n with
  | zero => exact Nat.le_refl _
  | succ n ih =>
    rw [bitsS]
    split
    · rw [List.length_append]; simp; exact ih
    · omega
theorem bitsS_mem {set n : Nat} {x : Int} : x ∈ bitsS set n ↔ ∃ k : Nat, k < n ∧ set.testBit k = true ∧ x = (k : Int) := by
  induction n with
  | zero => simp [bitsS]
  | succ n ih =>
    rw [bitsS]
    by_cases h : set.testBit n = true
    · rw [if_pos h, List.mem_append, ih]
      constructor
      · rintro (⟨k, h1, h2, h3⟩ | h1)
        · exact ⟨k, by omega, h2, h3⟩
        · exact ⟨n, by omega, h, by simpa using h1⟩
      · rintro ⟨k, h1, h2, h3⟩
        rcases Nat.lt_or_ge k n with hk | hk
        · exact .inl ⟨k, hk, h2, h3⟩
        · obtain rfl : k = n := by omega
          exact .inr (by simp [h3])
    · rw [if_neg h, ih]
      constructor
      · rintro ⟨k, h1, h2, h3⟩; exact ⟨k, by omega, h2, h3⟩
      · rintro ⟨k, h1, h2, h3⟩
        rcases Nat.lt_or_ge k n with hk | hk
        · exact ⟨k, hk, h2, h3⟩
        · obtain rfl : k = n := by omega
          exact absurd h2 h
theorem it_bits_and (a b : Nat) (ha : a < 9223372036854775808) (hb : b < 9223372036854775808) : bits .and .i64 (a : Int) (b : Int) = ((a &&& b : Nat) : Int) := by
  have hx : a &&& b < 2 ^ 63 := Nat.and_lt_two_pow _ (by omega)
  have e : ∀ a : Nat, a < 9223372036854775808 → (BitVec.ofInt 64 (a : Int)).toNat = a := fun a ha => by
    rw [BitVec.ofInt_natCast, BitVec.toNat_ofNat]; exact Nat.mod_eq_of_lt (by omega)
  show IntKind.i64.wrap ((BitVec.ofInt 64 (a : Int) &&& BitVec.ofInt 64 (b : Int)).toNat : Int) = _
  rw [BitVec.toNat_and, e a ha, e b hb]
  exact Go.IntWalk.i64_in _ (by omega)
theorem it_bit_read (x m : Nat) (hx : x < 9223372036854775808) : (bits .and .i64 ((x : Int) / 2 ^ m) 1 == 1) = x.testBit m := by
  have e : ((x : Int) / 2 ^ m) = ((x / 2 ^ m : Nat) : Int) := by
    rw [Int.natCast_ediv]
    norm_cast
  rw [e, show (1 : Int) = ((1 : Nat) : Int) from rfl, it_bits_and _ _ (Nat.lt_of_le_of_lt (Nat.div_le_self _ _) hx) (by omega), Nat.testBit_eq_decide_div_mod_eq, Nat.and_one_is_mod]
  by_cases h : x / 2 ^ m % 2 = 1
  · simp [h]
  · have : x / 2 ^ m % 2 = 0 := by omega
    simp [this]

/-- The blocks below n that are not in l stay. -/
def KeepX (n : Nat) (l : List Nat) (W W' : World) : Prop := W.heap.size ≤ W'.heap.size ∧ ∀ k, k < n → k ∉ l → W'.heap[k]? = W.heap[k]?
theorem KeepX.refl (n : Nat) (l : List Nat) (W : World) : KeepX n l W W := ⟨Nat.le_refl _, fun _ _ _ => rfl⟩
theorem KeepX.trans {n : Nat} {l : List Nat} {A B C : World} (h : KeepX n l A B) (k : KeepX n l B C) : KeepX n l A C := ⟨Nat.le_trans h.1 k.1, fun j h1 h2 => (k.2 j h1 h2).trans (h.2 j h1 h2)⟩
theorem KeepX.put {n : Nat} {l : List Nat} {w : World} (hn : n ≤ w.heap.size) (W : World) (r : Nat) (o o' : Obj) (hl : w.heap.size ≤ r) (h : W.heap[r]? = some o) (_ : o.isCells = false) (_ : o.isWalk = false) : KeepX n l W (W.putObj r o') := ⟨by simp, fun k hk _ => by
  have hlt := (Array.getElem?_eq_some_iff.1 h).1
  exact (grownBy_putObj' W r o').block k (by omega) (by intro e; cases e; omega)⟩
theorem KeepX.of_upd {n : Nat} {l : List Nat} {W W' : World} (h : Upd l W W') (hn : n ≤ W.heap.size) : KeepX n l W W' := ⟨h.size, fun k h1 h2 => h.block k (by omega) h2⟩
theorem KeepX.sps {n n₀ : Nat} {l : List Nat} {W W' : World} (h : KeepX n l W W') {a : Option Addr} {ts : List Sp} (hS : SpsAt n₀ W a ts) (hn : n₀ ≤ n) (hl : ∀ x ∈ l, n₀ ≤ x) : SpsAt n₀ W' a ts := by
  intro i s hs
  obtain ⟨b, o, e, h1, c0, c1⟩ := hS i s hs
  have hk : b ∉ l := fun hm => by have := hl b hm; omega
  exact ⟨b, o, e, h1, (World.cell?_of_block (w := W) (a := ⟨b, _, none⟩) (h.2 b (by omega) hk)).trans c0, (World.cell?_of_block (w := W) (a := ⟨b, _, none⟩) (h.2 b (by omega) hk)).trans c1⟩

/-- A cut as a round is told of it: the slice value, and the set of its bits. -/
abbrev CutX := Value × Nat
def CutIs (tn : Nat) (x : CutX) (W : World) : Prop := W.ownsRow 0 3 1 x.1 (bitsS x.2 tn).length ((bitsS x.2 tn).map (Value.int .i64)) ∧ x.2 < 2 ^ tn
theorem it_info_int : (Try.prog.info? 3).map (fun i => (i.zero, i.size, i.bytes)) = some (some (.int .i64 0), 1, 8) := by kernel_rfl
theorem cutLen_le2 {i : It} (h : ItOk i) : ∀ (cut : List Int), i.len - 3600 * cut.length ≤ cutLen i cut ∧ cutLen i cut ≤ i.len := by
  have hsp : ∀ k : Int, 0 ≤ (spOf i.trims k).to_ - (spOf i.trims k).fr ∧ (spOf i.trims k).to_ - (spOf i.trims k).fr ≤ 3600 := fun k => by
    unfold spOf
    cases hs : i.trims[k.toNat]? with
    | none => show (0 : Int) ≤ 0 - 0 ∧ (0 : Int) - 0 ≤ 3600; omega
    | some s =>
      have := sp_in h.2.1.1 (List.mem_of_getElem? hs)
      have h2 := h.1.2.2.2
      obtain ⟨a, b, c⟩ := this
      show 0 ≤ s.to_ - s.fr ∧ s.to_ - s.fr ≤ 3600
      omega
  unfold cutLen
  have : ∀ (l : List Int) (v : Int), v - 3600 * l.length ≤ l.foldl (fun n k => n - ((spOf i.trims k).to_ - (spOf i.trims k).fr)) v ∧ l.foldl (fun n k => n - ((spOf i.trims k).to_ - (spOf i.trims k).fr)) v ≤ v := by
    intro l
    induction l with
    | nil => intro v; exact ⟨by simp, Int.le_refl _⟩
    | cons k l ih =>
      intro v
      have h1 := ih (v - ((spOf i.trims k).to_ - (spOf i.trims k).fr))
      have h2 := hsp k
      rw [List.foldl_cons, List.length_cons]
      omega
  exact fun cut => this cut i.len

set_option maxHeartbeats 2000000 in
theorem cuts1_in {n₀ : Nat} (n : Nat) (hn : 2 ≤ n) (l bi B : Nat) (i : It) (hok : ItOk i) (ta : Option Addr) (tc : Nat) (out : List Nat) (J : List CutX → World → Prop)
    (hJ : ∀ pre A B, J pre A → Upd [] A B → J pre B)
    (hY : ∀ pre x W, J pre W → CutIs i.trims.length x W → pre.length < 16 → YieldAt Fence.wide (n - 1) Try.prog l #[x.1, .int .i64 (cutLen i (bitsS x.2 i.trims.length))] W fun e W' =>
      e = .returned (.bool true) ∧ J (pre ++ [x]) W' ∧ KeepX B out W W')
    (W : World) (c2 : W.cell? ⟨bi, 2, none⟩ = some (.int .i64 i.len)) (c3 : W.cell? ⟨bi, 3, none⟩ = some (.slice ta i.trims.length tc)) (hbi : bi < B) (hbo : bi ∉ out) (hT : SpsAt n₀ W ta i.trims) (hn₀ : n₀ ≤ B) (hout : ∀ x ∈ out, n₀ ≤ x) (hB : B ≤ W.heap.size) (h0 : J [] W) :
    CallsIn Fence.wide n Try.prog 79 #[.func (.yield l) #[] #[], .pointer (some ⟨bi, 0, none⟩)] W fun e W' => (∃ v, e = .returned v) ∧ ∃ ys, ys.map Prod.snd = List.range (2 ^ i.trims.length) ∧ J ys W' := by
  obtain ⟨i0, hi, hz0, hz1, hz2⟩ := info_parts it_info_int
  obtain ⟨tn, htn⟩ : ∃ n, i.trims.length = n := ⟨_, rfl⟩
  have ht4 : tn ≤ 4 := by rw [← htn]; exact hok.2.1.1.2
  rw [htn] at hY c3 ⊢
  refine callsIn_of_wp Try.func79 rfl trivial ?_ rfl
  simp only [Try.ntmps79, List.size_toArray, List.length_cons, List.length_nil, Nat.reduceAdd, Nat.reduceSub, Array.replicate_succ, Array.replicate_zero, List.push_toArray, List.append_toArray, List.nil_append, List.cons_append]
  have hfn : Fence.wide.fn 65 := trivial
  have h1 : 1 ≤ n := by omega
  have HY := hide hY
  have HJ := hide hJ
  have HT := hide hT
  have HOK := hide hok
  have HTN := hide htn
  have HB := hide hB
  have HOUT := hide hout
  have hlen := hok.1.2.2.2
  have hlen1 := hok.1.2.2.1
  have C2 := hide c2
  have C3 := hide c3
  obtain ⟨N, hN⟩ : ∃ N : Nat, 2 ^ tn = N := ⟨_, rfl⟩
  have hN16 : N ≤ 16 := by rw [← hN]; exact Nat.pow_le_pow_right (n := 2) (by omega) ht4
  have hNw : wrap64 (2 ^ tn) = (N : Int) := by
    have e : (2 : Int) ^ tn = (N : Int) := by rw [← hN]; norm_cast
    rw [e]
    unfold wrap64
    omega
  have HN := hide hN
  have HNW := hide hNw
  clear hY hJ hT hok htn hB hout hN
  gi_wp2
  rw [HNW.out]
  clear hNw
  gi_loopw [12] (fun c wr => ∃ (k : Nat) (pre : List CutX), k ≤ N ∧ c = .int .i64 k ∧ Hid (pre.map Prod.snd = List.range k) ∧ Hid (J pre wr) ∧ Hid (KeepX B out W wr) ∧ Hid (B ≤ wr.heap.size))
    (fun c _ => N - (intOf c).toNat)
  case atStart => exact ⟨0, [], Nat.zero_le _, rfl, rfl, h0, KeepX.refl _ _ _, HB.out⟩
  case round =>
    obtain ⟨k, pre, hk, rfl, hpre, hJs, hkp, hbs⟩ := hrel
    obtain ⟨wo, rfl⟩ : ∃ wo : World, wo = wr := ⟨_, rfl⟩
    have d2 := (World.cell?_of_block (w := W) (a := ⟨bi, 2, none⟩) (hkp.out.2 bi hbi hbo)).trans C2.out
    have d3 := (World.cell?_of_block (w := W) (a := ⟨bi, 3, none⟩) (hkp.out.2 bi hbi hbo)).trans C3.out
    by_cases hlt : k < N
    · have hwrap : IntKind.i64.wrap ((k : Int) + 1) = (k : Int) + 1 := Go.IntWalk.i64_in _ (by omega)
      have hki : (k : Int) < N := by omega
      gi_wp2
      gi_loopw [4, 5, 20] (fun s4 s5 s20 wr => ∃ (j : Nat) (m : Int), j ≤ tn ∧ s20 = .int .i64 j ∧ s5 = .int .i64 m ∧ Hid (m = cutLen i (bitsS k j)) ∧ Hid (Upd [] wo wr) ∧ Hid (wr.ownsRow wo.heap.size 3 1 s4 (bitsS k j).length ((bitsS k j).map (Value.int .i64))))
        (fun _ _ c _ => tn - (intOf c).toNat)
      case atStart => exact ⟨0, i.len, Nat.zero_le _, rfl, rfl, rfl, Upd.refl _ _, World.ownsRow_nil _ _ _ _⟩
      case round =>
        obtain ⟨j, m, hj, rfl, rfl, hm, hu, hown⟩ := hrel
        obtain ⟨wi, rfl⟩ : ∃ wi : World, wi = wr := ⟨_, rfl⟩
        have hmb := cutLen_le2 HOK.out (bitsS k j)
        rw [← hm.out] at hmb
        have hbl := bitsS_length k j
        obtain ⟨hm1, hm2⟩ := hmb
        by_cases hjl : j < tn
        · obtain ⟨s, hs⟩ : ∃ s, i.trims[j]? = some s := ⟨_, List.getElem?_eq_getElem (by have := HTN.out; omega)⟩
          have hkW : KeepX B out W wi := hkp.out.trans (KeepX.of_upd (hu.out.mono (by simp)) hbs.out)
          obtain ⟨b, o, ea, hb, e0, e1⟩ := (hkW.sps HT.out hn₀ HOUT.out) j s hs
          subst ea
          obtain ⟨hi1, hi2, hi3⟩ := sp_in HOK.out.2.1.1 (List.mem_of_getElem? hs)
          have hji : (j : Int) < tn := by omega
          have hw1 : IntKind.i64.wrap (m - (s.to_ - s.fr)) = m - (s.to_ - s.fr) := Go.IntWalk.i64_in _ (by omega)
          have LNW := hide (show ∀ W, CallsIn Fence.wide (n - 1) Try.prog 65 #[.agg #[.int .i64 s.fr, .int .i64 s.to_]] W fun e w' => e = .returned (.int .i64 (s.to_ - s.fr)) ∧ Upd [] W w' from fun W => (callsIn_wide (n := n - 1)).2 (length_any s.fr s.to_ W (by omega) (by omega)))
          have HST := hide (show bitsS k (j + 1) = if k.testBit j then bitsS k j ++ [(j : Int)] else bitsS k j from rfl)
          have hbr := it_bit_read k j (by omega)
          obtain ⟨q, hq⟩ : ∃ q, k.testBit j = q := ⟨_, rfl⟩
          rw [hq] at hbr HST
          have HS := hide hs
          obtain ⟨zs, hzs⟩ : ∃ zs, bitsS k j = zs := ⟨_, rfl⟩
          rw [hzs] at hm hown HST hbl
          have L2 := Blk.new wi 99 [.int .i64 s.fr, .int .i64 s.to_]
          have u2 := (Upd.refl [] wi).alloc (.cells #[.int .i64 s.fr, .int .i64 s.to_] 99)
          have R1 := hide (own_kept hown.out u2 (by simp))
          have j0 := L2.cell 0
          have j1 := L2.cell 1
          have V2 := hide u2
          have BL2 := hide L2
          clear hs hq hkW hb hzs hm1 hm2 L2 u2
          cases q with
          | false =>
            gi_wp2
            go_roundw
            case rel => exact ⟨j + 1, m, by omega, by go_num, by go_num, hide (by rw [HST.out]; exact hm.out), hide (hu.out.trans V2.out (by simp)), hide (by rw [HST.out]; exact R1.out)⟩
            case measure => simp [intOf] <;> omega
          | true =>
            gi_wp2_with (first | (gi_at_call 65; refine (LNW.out _).mono ?_; rintro e w3 ⟨rfl, u3⟩; have U3 := hide u3; clear u3) | (gi_at_builtin; go_loud (refine wpListIn_append_own _ rfl _ _ 24 rfl wo.heap.size 3 i0 (.int .i64 0) 1 8 Try.underlying24 hi hz0 hz1 hz2 rfl (by decide) _ _ _ rfl (R1.out.alloc _) ⟨wi.heap.size + 1, 0, none⟩ 1 1 [.int .i64 (j : Int)] rfl rfl (it_one_new (wi.alloc (.cells #[.int .i64 s.fr, .int .i64 s.to_] 99)) _ _ _ (by simp)) (by simp [Value.oneCell']) (by unfold maxLen; omega) (by omega) (by have := hu.out.size; simp; omega) ?_; intro v' w1 hown' hgrow _; have B1 := hide ((BL2.out.alloc _).grown hgrow (fun e => by have := it_own_lt hown.out _ e.symm; omega)); have q0 := B1.out.cell 0; have q1 := B1.out.cell 1; have HG := hide hgrow; have HO := hide hown'; clear hown' hgrow)))
            have HE := hide (show bitsS k (j + 1) = zs ++ [(j : Int)] by have := HST.out; simpa using this)
            have Ua : Upd [] wo ((wi.alloc (.cells #[.int .i64 s.fr, .int .i64 s.to_] 99)).alloc (.cells #[.int .i64 (j : Int)] 3)) := (hu.out.alloc _).alloc _
            have Ub := Ua.grown HG.out (fun k hk => .inr (it_own_block hown.out k hk))
            have Uc := hide (Ub.trans U3.out (by simp))
            clear Ua Ub
            go_roundw
            case rel => exact ⟨j + 1, m - (s.to_ - s.fr), by omega, by go_num, by go_num, hide (by
              rw [HE.out, cutLen_snoc, ← hm.out]
              unfold spOf
              rw [Int.toNat_natCast, HS.out]
              rfl), Uc, hide (by
              rw [HE.out]
              have := own_kept HO.out U3.out (by simp)
              simpa using this)⟩
            case measure => simp [intOf] <;> omega
        · obtain rfl : j = tn := by omega
          have hji : ¬ (j : Int) < j := by omega
          have hplen : pre.length = k := by have := congrArg List.length hpre.out; simpa using this
          obtain ⟨fn, tmps, assign, body, hy, hR⟩ := HY.out pre (u4, k) wi (HJ.out _ _ _ hJs.out hu.out) ⟨it_own_less hown.out (Nat.zero_le _), by have := HN.out; show k < 2 ^ j; omega⟩ (by omega)
          have HR := hide hR
          have HKW := hide (hkp.out.trans (KeepX.of_upd (hu.out.mono (l' := out) (by simp)) hbs.out))
          have HBS := hide (Nat.le_trans hbs.out hu.out.size)
          replace hy : (Instr.yield l #[u4, Value.int .i64 m]).run Try.prog wi = .ok (.round l fn tmps assign body) wi := by
            rw [hm.out]; exact hy
          clear hR hplen
          gi_wp2_with fail
          refine HR.out.mono ?_
          rintro e W3 ⟨rfl, hJ3, hk3⟩
          have HP2 := hide (show (pre ++ [((u4, k) : CutX)]).map Prod.snd = List.range (k + 1) by rw [List.map_append, hpre.out, List.range_succ]; rfl)
          have HJ3 := hide hJ3
          have HK3 := hide (HKW.out.trans hk3)
          have HB3 := hide (Nat.le_trans HBS.out hk3.1)
          clear hJ3 hk3
          gi_wp2
          go_roundw
          case rel => exact ⟨k + 1, _, by omega, by go_num, HP2, HJ3, HK3, HB3⟩
          case measure => simp [intOf] <;> omega
    · obtain rfl : k = N := by omega
      have hki : ¬ (k : Int) < k := by omega
      gi_wp2
      go_end0
      exact ⟨⟨_, rfl⟩, pre, by rw [HN.out]; exact hpre.out, hJs.out⟩
/-- cuts -/
theorem cuts_any (i : It) (ta : Option Addr) (tn tc : Nat) (ka : Option Addr) (kn kc : Nat) (w : World) :
    Calls Try.prog 61 #[.agg #[.int .i64 i.id, .int .i64 i.kind, .int .i64 i.len, .slice ta tn tc, .slice ka kn kc, .int .i64 i.artist, .int .i64 i.tempo, .int .i64 i.lang]] w fun e w' => e = .returned (.func (.func 79) #[] #[.pointer (some ⟨w.heap.size, 0, none⟩)]) ∧ w.alloc (.cells #[.int .i64 i.id, .int .i64 i.kind, .int .i64 i.len, .slice ta tn tc, .slice ka kn kc, .int .i64 i.artist, .int .i64 i.tempo, .int .i64 i.lang] 61) = w' := by
  have hmf : ∀ (fn : Fn) (first cap : Array Value) (w : World), (Instr.makeFunc fn first cap).run Try.prog w = .ok (.func fn first cap) w := fun _ _ _ _ => rfl
  go_enter Try.func61, Try.ntmps61
  go_wp2
  go_ret
  exact ⟨rfl, rfl⟩
theorem cuts_told {n₀ : Nat} (n : Nat) (hn : 2 ≤ n) (bi B : Nat) (i : It) (hok : ItOk i) (ta : Option Addr) (tc : Nat) (out : List Nat) (w : World)
    (c2 : w.cell? ⟨bi, 2, none⟩ = some (.int .i64 i.len)) (c3 : w.cell? ⟨bi, 3, none⟩ = some (.slice ta i.trims.length tc)) (hbi : bi < B) (hbo : bi ∉ out) (hT : SpsAt n₀ w ta i.trims) (hn₀ : n₀ ≤ B) (hout : ∀ x ∈ out, n₀ ≤ x) (hB : B ≤ w.heap.size) :
    SeqTold Fence.wide n Try.prog 79 #[.pointer (some ⟨bi, 0, none⟩)] (fun x : CutX => #[x.1, .int .i64 (cutLen i (bitsS x.2 i.trims.length))]) (CutIs i.trims.length) [] (KeepX B out) (fun ys => ys.map Prod.snd = List.range (2 ^ i.trims.length)) 16 w := fun l J W hW hJ hY h0 => by
  have hk := fun (a : Addr) (v : Value) (h : w.cell? a = some v) => (hW.cell (World.block_lt_of_cell? _ _ h)).trans h
  refine cuts1_in (n₀ := n₀) n hn l bi B i hok ta tc out J hJ hY W (hk _ _ c2) (hk _ _ c3) hbi hbo ?_ hn₀ hout (Nat.le_trans hB hW.size) h0
  intro k s hs
  obtain ⟨b, o, e, h1, d0, d1⟩ := hT k s hs
  exact ⟨b, o, e, h1, hk _ _ d0, hk _ _ d1⟩
theorem it_ownFrom_upd {β : Type} {w0 : World} {l : List Nat} : OwnFrom w0.heap.size (fun (_ : β) W => Upd l w0 W) := by
  intro s W W' row h hg hr
  exact h.grown hg (fun k e => .inr (hr k e).1)
theorem cutIs_own {tn B : Nat} (x : CutX) : OwnFrom B (fun (_ : Unit) W => CutIs tn x W) := by
  intro s W W' row h hg hr
  refine ⟨h.1.kept hg ?_, h.2⟩
  rcases h.1.2 with ⟨hv, _⟩ | ⟨g, cap, cur, hv, _, hgb, _⟩
  · rw [hv]; exact .inl rfl
  · refine .inr fun e' => ?_
    rw [hv] at e'
    obtain ⟨_, o, ho, hc⟩ := hr g (by simpa [Value.ownBlock] using e'.symm)
    rw [hgb] at ho
    cases ho
    cases hc
end Go.Proofs.Yteehjciepccomaa

namespace Go.Proofs.Yteehjciepccomaa
open Go.RowKit
set_option maxRecDepth 100000
set_option maxHeartbeats 20000000

def pickS (c n : Int) : Int := (if c < 0 then -(c + 1) else c) % n
theorem pickS_bounds (c n : Int) (h : 0 < n) : 0 ≤ pickS c n ∧ pickS c n < n := ⟨Int.emod_nonneg _ (by omega), Int.emod_lt_of_pos _ h⟩
theorem refPick (c n : Int) (w : World) (h1 : -9223372036854775808 ≤ c) (h2 : c ≤ 9223372036854775807) (hn : 0 < n) (hn2 : n ≤ 9223372036854775807) :
    Calls Try.prog 74 #[.int .i64 c, .int .i64 n] w fun e w' => e = .returned (.int .i64 (pickS c n)) ∧ w = w' := by
  unfold pickS
  by_cases h0 : c < 0
  · rw [if_pos h0]
    obtain ⟨d, hd⟩ : ∃ d, -(c + 1) = d := ⟨_, rfl⟩
    have hw1 : IntKind.i64.wrap (c + 1) = c + 1 := Go.IntWalk.i64_in _ (by omega)
    have hw2 : IntKind.i64.wrap (-(c + 1)) = d := by rw [Go.IntWalk.i64_in _ (by omega), hd]
    have ht : d.tmod n = d % n := Int.tmod_eq_emod_of_nonneg (by omega)
    have hd0 : 0 ≤ d := by omega
    have hm := Int.emod_lt_of_pos d hn
    have hm0 := Int.emod_nonneg d (show n ≠ 0 by omega)
    have hw3 : IntKind.i64.wrap (d % n) = d % n := Go.IntWalk.i64_in _ (by omega)
    have hn0 : (n == 0) = false := by simp; omega
    rw [hd]
    clear hd hm hm0
    go_enter Try.func74, Try.ntmps74
    go_wp2
    go_ret
    exact ⟨rfl, rfl⟩
  · rw [if_neg h0]
    have ht : c.tmod n = c % n := Int.tmod_eq_emod_of_nonneg (by omega)
    have hd0 : 0 ≤ c := by omega
    have hm := Int.emod_lt_of_pos c hn
    have hm0 := Int.emod_nonneg c (show n ≠ 0 by omega)
    have hw3 : IntKind.i64.wrap (c % n) = c % n := Go.IntWalk.i64_in _ (by omega)
    have hn0 : (n == 0) = false := by simp; omega
    clear hm hm0
    go_enter Try.func74, Try.ntmps74
    go_wp2
    go_ret
    exact ⟨rfl, rfl⟩
end Go.Proofs.Yteehjciepccomaa

namespace Go.Proofs.Yteehjciepccomaa
open Go.RowKit
set_option maxRecDepth 100000
set_option maxHeartbeats 20000000

def OwnsBits (w : World) (v : Value) (zs : List Int) : Prop := w.ownsRow 0 3 1 v zs.length (zs.map (Value.int .i64))
theorem refBits (i : It) (ta : Option Addr) (tn tc : Nat) (ka : Option Addr) (kn kc : Nat) (set : Nat) (w : World) (htn : tn ≤ 4) (hs : set < 4611686018427387904) :
    Calls Try.prog 36 #[.agg #[.int .i64 i.id, .int .i64 i.kind, .int .i64 i.len, .slice ta tn tc, .slice ka kn kc, .int .i64 i.artist, .int .i64 i.tempo, .int .i64 i.lang], .int .i64 set] w fun e w' => ∃ A c, e = .returned (.slice A (bitsS set tn).length c) ∧ OwnsBits w' (.slice A (bitsS set tn).length c) (bitsS set tn) ∧ Upd [] w w' := by
  have L1 := Blk.new w 61 [.int .i64 i.id, .int .i64 i.kind, .int .i64 i.len, .slice ta tn tc, .slice ka kn kc, .int .i64 i.artist, .int .i64 i.tempo, .int .i64 i.lang]
  have u1 := (Upd.refl [] w).alloc (.cells #[.int .i64 i.id, .int .i64 i.kind, .int .i64 i.len, .slice ta tn tc, .slice ka kn kc, .int .i64 i.artist, .int .i64 i.tempo, .int .i64 i.lang] 61)
  obtain ⟨wa, hwa⟩ : ∃ wa, w.alloc (.cells #[.int .i64 i.id, .int .i64 i.kind, .int .i64 i.len, .slice ta tn tc, .slice ka kn kc, .int .i64 i.artist, .int .i64 i.tempo, .int .i64 i.lang] 61) = wa := ⟨_, rfl⟩
  have hsz : wa.heap.size = w.heap.size + 1 := by rw [← hwa]; simp
  have u1' : Upd [] w wa := by rw [← hwa]; exact u1
  have L1' : Blk wa w.heap.size 61 [.int .i64 i.id, .int .i64 i.kind, .int .i64 i.len, .slice ta tn tc, .slice ka kn kc, .int .i64 i.artist, .int .i64 i.tempo, .int .i64 i.lang] := by rw [← hwa]; exact L1
  have BL := hide L1'
  have U1 := hide u1'
  have HZ := hide hsz
  have HWA := hide hwa
  clear L1 u1 u1' L1' hsz hwa
  go_enter Try.func36, Try.ntmps36
  go_wp2_with fail
  rw [HWA.out]
  go_loopw [5, 6] (fun s5 s6 wr => ∃ (k : Nat) (A : Option Addr) (n c : Nat) (zs : List Int), k ≤ tn ∧ s6 = .int .i64 k ∧ s5 = .slice A n c ∧ n ≤ k ∧ Hid (zs = bitsS set k) ∧ Hid (n = zs.length) ∧ Hid (wr.ownsRow wa.heap.size 3 1 (.slice A n c) n (zs.map (Value.int .i64))) ∧ Hid (Upd [] wa wr)) (fun _ k _ => tn - (intOf k).toNat)
  case atStart => exact ⟨0, none, 0, 0, [], Nat.zero_le _, rfl, rfl, Nat.le_refl _, rfl, rfl, World.ownsRow_nil _ _ _ _, Upd.refl _ _⟩
  case round =>
    obtain ⟨k, A, n, c, zs, hk, rfl, rfl, hnk, hzs, hnz, hown, hu⟩ := hrel
    obtain ⟨wo, rfl⟩ : ∃ wo : World, wo = wr := ⟨_, rfl⟩
    have d3 := (BL.out.upd hu.out (by simp)).cell 3
    by_cases hkl : k < tn
    · have hki : (k : Int) < tn := by omega
      have HST := hide (show bitsS set (k + 1) = if set.testBit k then zs ++ [(k : Int)] else zs by rw [hzs.out]; rfl)
      have hq0 : 0 ≤ (set : Int) / 2 ^ k := by
        have := Int.ediv_nonneg (a := (set : Int)) (b := 2 ^ k) (by omega) (Int.le_of_lt (Int.pow_pos (by omega)))
        exact this
      obtain ⟨z, hz⟩ : ∃ z, set / 2 ^ k = z := ⟨_, rfl⟩
      have hzi : (set : Int) / 2 ^ k = (z : Int) := by rw [← hz]; norm_cast
      have hzb : z ≤ set := by rw [← hz]; exact Nat.div_le_self _ _
      have HB := hide (show set.testBit k = decide (z % 2 = 1) by rw [Nat.testBit_eq_decide_div_mod_eq, hz])
      have hzt : ((z : Int).tmod 2) = (z : Int) % 2 := Int.tmod_eq_emod_of_nonneg (by omega)
      clear hq0 hz
      have O1 := hide (show ∀ u ∈ [Value.int .i64 (k : Int)], u.oneCell' = true by simp [Value.oneCell'])
      have O3 := hide (show n + 1 ≤ maxLen by unfold maxLen; omega)
      have O4 := hide (show (n + 1) * 8 ≤ 140737488355328 by omega)
      have OB := hide (hown.out.alloc (.cells #[.int .i64 (k : Int)] 3))
      have OS := hide (show wa.heap.size ≤ (wo.alloc (.cells #[.int .i64 (k : Int)] 3)).heap.size by have := hu.out.size; rw [World.size_alloc]; omega)
      by_cases hodd : z % 2 = 1
      · have hob : ((z : Int) % 2 == 1) = true := by simp; omega
        have HE := hide (show bitsS set (k + 1) = zs ++ [(k : Int)] by rw [HST.out, HB.out, decide_eq_true hodd]; rfl)
        clear hodd
        go_wp2_with (at_builtin; refine wpList_append_base rfl (.tmp 19) (.tmp 21) _ rfl wa.heap.size 3 _ 1 8 Try.underlying24 it_info_int rfl (by decide) A n c _ rfl OB.out ⟨wo.heap.size, 0, none⟩ 1 1 [.int .i64 (k : Int)] rfl rfl (cell_one_new _ _ _) O1.out O3.out O4.out OS.out ?_; intro A5 c5 w5 h5 u5 _; have H5 := hide h5; have V5 := hide ((hu.out.alloc _).trans u5 (fun z hz => .inr (it_own_block hown.out z (by rw [ownBlock_slice]; simpa using hz)))); clear h5 u5)
        go_roundw
        case rel => exact ⟨k + 1, A5, n + 1, c5, zs ++ [(k : Int)], by omega, by go_num, rfl, by omega, hide HE.out.symm, hide (by rw [List.length_append, ← hnz.out]; rfl), hide (by rw [List.map_append]; exact H5.out), V5⟩
        case measure => simp [intOf] <;> omega
      · have hob : ((z : Int) % 2 == 1) = false := by simp; omega
        have HE := hide (show bitsS set (k + 1) = zs by rw [HST.out, HB.out, decide_eq_false hodd]; rfl)
        clear hodd
        go_wp2_with fail
        go_roundw
        case rel => exact ⟨k + 1, A, n, c, zs, by omega, by go_num, rfl, by omega, hide HE.out.symm, hnz, hown, hu⟩
        case measure => simp [intOf] <;> omega
    · obtain rfl : k = tn := by omega
      have hki : ¬ (k : Int) < k := by omega
      have UF := hide (U1.out.trans hu.out (by simp))
      go_wp2_with fail
      go_ret
      have e := hzs.out
      rw [← e, ← hnz.out]
      refine ⟨A, c, rfl, ?_, UF.out⟩
      have := it_own_less hown.out (Nat.zero_le _)
      unfold OwnsBits
      rw [← hnz.out]
      exact this
end Go.Proofs.Yteehjciepccomaa
