/-
  item.Encode.
  Encodings: no one is the beginning of another.
-/
import Derived.Test.YtpkeimdlcafcnaaZ18ItemMatchesReferenceRow
import Derived.Test.YtpkeimdlcafcnaaZ11ItemMatchesReferenceRow
import Derived.Test.YtpkeimdlcafcnaaZ10ItemMatchesReferenceRow

namespace Go.Proofs.Ytpkeimdlcafcnaa
open Go.RowKit
set_option maxRecDepth 100000
set_option maxHeartbeats 20000000

def flatSp (l : List Sp) : List Int := l.flatMap fun s => [s.fr, s.to_]
def sixS (i : It) : List Int := [i.id, i.kind, i.len, i.artist, i.tempo, i.lang]
def listOf (i : It) (q : Nat) : List Sp := if q = 0 then i.trims else i.talks
/-- What is encoded: q of the two lists have come. -/
def allTo (i : It) : Nat → List Int
  | 0 => sixS i
  | q + 1 => allTo i q ++ ((listOf i q).length : Int) :: flatSp (listOf i q)
def allS (i : It) : List Int := allTo i 2
def encS (i : It) : List UInt8 := (allS i).flatMap putS
theorem flatSp_snoc (l : List Sp) (s : Sp) : flatSp (l ++ [s]) = flatSp l ++ [s.fr, s.to_] := by simp [flatSp]
theorem flatSp_length (l : List Sp) : (flatSp l).length = l.length * 2 := by
  unfold flatSp
  induction l with
  | nil => rfl
  | cons s l ih => rw [List.flatMap_cons, List.length_append, ih, List.length_cons]; simp; omega
theorem own_news (base : Nat) (w : World) (cs : List Value) (t : TypeId) (n : Nat) (hn : cs.length = n) (hb : base ≤ w.heap.size) (hm : n ≤ maxLen) : (w.alloc (.cells cs.toArray t)).ownsRow base t 1 (.slice (some ⟨w.heap.size, 0, none⟩) n n) n cs :=
  ⟨by omega, .inr ⟨w.heap.size, n, cs.toArray, rfl, hb, heap_alloc_new w _, Nat.le_refl _, hm, by simp [hn], by simp [← hn]⟩⟩
theorem it_two_new (w : World) (x y : Value) (t : TypeId) (n : Nat) (hn : w.heap.size = n) : ∀ j u, [x, y][j]? = some u → (w.alloc (.cells #[x, y] t)).cell? ((⟨n, 0, none⟩ : Addr).add j) = some u := by
  subst hn
  exact cell_two_new w x y t
theorem it_own_ints2 {w : World} {base e n : Nat} {v : Value} {zs : List Int} (h : w.ownsRow base e 1 v n (zs.map (Value.int .i64))) (hn : n = zs.length) : Ints w.heap.size w v zs := by
  subst hn
  exact it_own_ints h
theorem allS_bounds {i : It} (h : ItOk i) : ∀ x ∈ allS i, 0 ≤ x ∧ x ≤ 3600 := by
  obtain ⟨⟨⟨a1, a2⟩, ⟨a3, a4⟩, ⟨a5, a6⟩⟩, ⟨ht, hk⟩, _, hkind⟩ := h
  have hflat : ∀ l : List Sp, SpsOk i.len l → ∀ x ∈ flatSp l, 0 ≤ x ∧ x ≤ 3600 := by
    intro l hl x hx
    unfold flatSp at hx
    rw [List.mem_flatMap] at hx
    obtain ⟨s, hs, hx⟩ := hx
    obtain ⟨b1, b2, b3⟩ := sp_in hl hs
    rcases List.mem_cons.1 hx with rfl | hx
    · omega
    · obtain rfl := List.mem_singleton.1 hx
      omega
  have hart : (0 ≤ i.artist ∧ i.artist ≤ 99) ∧ (0 ≤ i.tempo ∧ i.tempo ≤ 5) ∧ (0 ≤ i.lang ∧ i.lang ≤ 4) := by
    rcases hkind with ⟨_, h1, h2, h3⟩ | ⟨_, h1, h2, h3⟩ <;> omega
  intro x hx
  have hx' : x ∈ (sixS i ++ ((i.trims.length : Int) :: flatSp i.trims)) ++ ((i.talks.length : Int) :: flatSp i.talks) := hx
  have h4 := ht.2
  have h5 := hk.2
  rcases List.mem_append.1 hx' with hx | hx
  · rcases List.mem_append.1 hx with hx | hx
    · unfold sixS at hx
      simp only [List.mem_cons, List.not_mem_nil, or_false] at hx
      omega
    · rcases List.mem_cons.1 hx with rfl | hx
      · omega
      · exact hflat _ ht x hx
  · rcases List.mem_cons.1 hx with rfl | hx
    · omega
    · exact hflat _ hk x hx
theorem putS_length (x : Int) (h1 : -4611686018427387903 ≤ x) (h2 : x ≤ 4611686018427387903) : (putS x).length ≤ 10 := by
  unfold putS
  rw [List.length_map]
  exact groupsS_length 9 _ (by unfold zigS; split <;> omega)
theorem flatPut_length (l : List Int) (h : ∀ x ∈ l, 0 ≤ x ∧ x ≤ 3600) : (l.flatMap putS).length ≤ 10 * l.length := by
  induction l with
  | nil => simp
  | cons x l ih =>
    rw [List.flatMap_cons, List.length_append, List.length_cons]
    have h1 := putS_length x (by have := h x (by simp); omega) (by have := h x (by simp); omega)
    have h2 := ih (fun y hy => h y (by simp [hy]))
    omega
def EncodePost (i : It) (w : World) (e : Ending) (w' : World) : Prop :=
  e = .returned (if ItOk i then .tuple #[.string ⟨(encS i).toArray⟩, .int .i64 0] else .tuple #[.string ⟨#[]⟩, .int .i64 70]) ∧ Upd [] w w'

theorem itemEncode {n₀ : Nat} (i : It) (ta : Option Addr) (tc : Nat) (ka : Option Addr) (kc : Nat) (w : World) (hT : SpsAt n₀ w ta i.trims) (hK : SpsAt n₀ w ka i.talks) (hn : n₀ ≤ w.heap.size) (hm : i.trims.length ≤ maxLen) (hm2 : i.talks.length ≤ maxLen) :
    Calls Try.prog 16 #[.agg #[.int .i64 i.id, .int .i64 i.kind, .int .i64 i.len, .slice ta i.trims.length tc, .slice ka i.talks.length kc, .int .i64 i.artist, .int .i64 i.tempo, .int .i64 i.lang]] w (EncodePost i w) := by
  obtain ⟨tn, htn⟩ : ∃ n, i.trims.length = n := ⟨_, rfl⟩
  obtain ⟨kn, hkn⟩ : ∃ n, i.talks.length = n := ⟨_, rfl⟩
  have L1 := Blk.new w 24 [.int .i64 i.id, .int .i64 i.kind, .int .i64 i.len, .slice ta i.trims.length tc, .slice ka i.talks.length kc, .int .i64 i.artist, .int .i64 i.tempo, .int .i64 i.lang]
  have u1 := (Upd.refl [] w).alloc (.cells #[.int .i64 i.id, .int .i64 i.kind, .int .i64 i.len, .slice ta i.trims.length tc, .slice ka i.talks.length kc, .int .i64 i.artist, .int .i64 i.tempo, .int .i64 i.lang] 24)
  have VA := valid_it i ta tc ka kc _ (hT.upd u1 hn (by simp)) (hK.upd u1 hn (by simp)) (Nat.le_trans hn u1.size) hm hm2
  obtain ⟨q, hq⟩ : ∃ q, decide (ItOk i) = q := ⟨_, rfl⟩
  rw [hq] at VA
  rw [htn, hkn] at VA u1 L1 ⊢
  have HQ := hide hq
  have HTN := hide htn
  have HKN := hide hkn
  have HT := hide hT
  have HK := hide hK
  have k0 := L1.cell 0
  have k1 := L1.cell 1
  have k2 := L1.cell 2
  have k3 := L1.cell 3
  have k4 := L1.cell 4
  have k5 := L1.cell 5
  have k6 := L1.cell 6
  have k7 := L1.cell 7
  have BL := hide L1
  have HV := hide VA
  have U1 := hide u1
  clear hT hK hm hm2 VA u1 L1 htn hkn hq
  go_enter Try.func16, Try.ntmps16
  go_wp2_with fail
  refine HV.out.mono ?_
  rintro e w1 ⟨rfl, u⟩
  have U2 := hide (U1.out.trans u (by simp))
  have BL1 := hide (BL.out.upd u (by simp))
  clear u k0 k1 k2 k3 k4 k5 k6 k7
  cases q with
  | false =>
    have HP := hide (show ∀ w', Upd [] w w' → EncodePost i w (.returned (.tuple #[.string ⟨#[]⟩, .int .i64 70])) w' from fun w' h => by
      unfold EncodePost
      rw [if_neg (of_decide_eq_false HQ.out)]
      exact ⟨rfl, h⟩)
    go_wp2_with fail
    go_ret2
    exact HP.out _ U2.out
  | true =>
  have HIT := hide (of_decide_eq_true HQ.out)
  have hkn4 : kn ≤ 4 := by have := HIT.out.2.1.2.2; have := HKN.out; omega
  have htn4 : tn ≤ 4 := by have := HIT.out.2.1.1.2; have := HTN.out; omega
  have HP := hide (show ∀ w', Upd [] w w' → EncodePost i w (.returned (.tuple #[.string ⟨(encS i).toArray⟩, .int .i64 0])) w' from fun w' h2 => by
    unfold EncodePost
    rw [if_pos HIT.out]
    exact ⟨rfl, h2⟩)
  have k0 := BL1.out.cell 0
  have k1 := BL1.out.cell 1
  have k2 := BL1.out.cell 2
  have k3 := BL1.out.cell 3
  have k4 := BL1.out.cell 4
  have k5 := BL1.out.cell 5
  have k6 := BL1.out.cell 6
  have k7 := BL1.out.cell 7
  have hsz := BL1.out.lt
  go_wp2_with fail
  obtain ⟨wa, hwa⟩ : ∃ wa, ((w1.alloc (.cells #[.int .i64 i.id, .int .i64 i.kind, .int .i64 i.len, .int .i64 i.artist, .int .i64 i.tempo, .int .i64 i.lang] 3)).alloc (.cells #[.slice ta tn tc, .slice ka kn kc] 22)) = wa := ⟨_, rfl⟩
  rw [hwa]
  have bG : Blk wa (w1.heap.size + 1) 22 [.slice ta tn tc, .slice ka kn kc] := by
    have := Blk.new (w1.alloc (.cells #[.int .i64 i.id, .int .i64 i.kind, .int .i64 i.len, .int .i64 i.artist, .int .i64 i.tempo, .int .i64 i.lang] 3)) 22 [.slice ta tn tc, .slice ka kn kc]
    rw [← hwa]
    rw [World.size_alloc] at this
    exact this
  have UA : Upd [] w1 wa := by rw [← hwa]; exact ((Upd.refl [] w1).alloc _).alloc _
  have oS : wa.ownsRow w1.heap.size 3 1 (.slice (some ⟨w1.heap.size, 0, none⟩) 6 6) 6 ((sixS i).map (Value.int .i64)) := by
    rw [← hwa]
    exact (own_news w1.heap.size w1 ((sixS i).map (Value.int .i64)) 3 6 rfl (Nat.le_refl _) (by unfold maxLen; omega)).alloc _
  have HBG := hide bG
  have HUA := hide UA
  have HOS := hide oS
  clear hwa bG UA oS k0 k1 k2 k3 k4 k5 k6 k7
  go_loopw [36, 4] (fun s36 s4 wr => ∃ (q : Nat) (A : Option Addr) (n c : Nat) (zs : List Int), q ≤ 2 ∧ s36 = .int .i64 q ∧ s4 = .slice A n c ∧ n ≤ 6 + 9 * q ∧ Hid (zs = allTo i q) ∧ Hid (n = zs.length) ∧ Hid (wr.ownsRow w1.heap.size 3 1 (.slice A n c) n (zs.map (Value.int .i64))) ∧ Hid (Upd [] w1 wr) ∧ Hid (Blk wr (w1.heap.size + 1) 22 [.slice ta tn tc, .slice ka kn kc])) (fun q _ _ => 2 - (intOf q).toNat)
  case atStart => exact ⟨0, some ⟨w1.heap.size, 0, none⟩, 6, 6, sixS i, by omega, rfl, rfl, by omega, rfl, rfl, HOS, HUA, HBG⟩
  case round =>
    obtain ⟨q, A, n, c, zs, hq, rfl, rfl, hnq, hzs, hnz, hown, hu, hbg⟩ := hrel
    obtain ⟨wo, rfl⟩ : ∃ wo : World, wo = wr := ⟨_, rfl⟩
    by_cases hql : q < 2
    · obtain ⟨la, ln, lc, l, hl, hln, hln4, hSl, hok, hcell⟩ : ∃ la ln lc l, Hid (l = listOf i q) ∧ Hid (l.length = ln) ∧ ln ≤ 4 ∧ Hid (SpsAt n₀ w la l) ∧ Hid (SpsOk i.len l) ∧ wo.cell? ⟨w1.heap.size + 1, q, none⟩ = some (.slice la ln lc) := by
        have hc : q = 0 ∨ q = 1 := by omega
        rcases hc with rfl | rfl
        · exact ⟨ta, tn, tc, i.trims, rfl, HTN, htn4, HT, HIT.out.2.1.1, hbg.out.cell 0⟩
        · exact ⟨ka, kn, kc, i.talks, rfl, HKN, hkn4, HK, HIT.out.2.1.2, hbg.out.cell 1⟩
      have hqi : (q : Int) < 2 := by omega
      have hln63 : ln ≤ 9223372036854775807 := by omega
      have O1 := hide (show ∀ u ∈ [Value.int .i64 (ln : Int)], u.oneCell' = true by simp [Value.oneCell'])
      have O3 := hide (show n + 1 ≤ maxLen by unfold maxLen; omega)
      have O4 := hide (show (n + 1) * 8 ≤ 140737488355328 by omega)
      have OB := hide (hown.out.alloc (.cells #[.int .i64 (ln : Int)] 3))
      have OS := hide (show w1.heap.size ≤ (wo.alloc (.cells #[.int .i64 (ln : Int)] 3)).heap.size by have := hu.out.size; rw [World.size_alloc]; omega)
      go_wp2_with (at_builtin; refine wpList_append_base rfl (.tmp 40) (.tmp 43) _ rfl w1.heap.size 3 _ 1 8 Try.underlying26 it_info_int rfl (by decide) A n c _ rfl OB.out ⟨wo.heap.size, 0, none⟩ 1 1 [.int .i64 (ln : Int)] rfl rfl (cell_one_new _ _ _) O1.out O3.out O4.out OS.out ?_; intro A5 c5 w5 h5 u5 _; have H5 := hide h5; have V5 := hide ((hu.out.alloc _).trans u5 (fun z hz => .inr (it_own_block hown.out z (by rw [ownBlock_slice]; simpa using hz)))); have B5 := hide ((hbg.out.alloc _).upd u5 (fun hm => own_blk_ne hown.out hbg.out (by decide) _ (by rw [ownBlock_slice]; simpa using hm) rfl)); clear h5 u5)
      go_loopw [47, 4] (fun s47 s4 wr => ∃ (k : Nat) (A : Option Addr) (n' c : Nat) (ys : List Int), k ≤ ln ∧ s47 = .int .i64 k ∧ s4 = .slice A n' c ∧ n' ≤ n + 1 + 2 * k ∧ Hid (ys = zs ++ (ln : Int) :: flatSp (l.take k)) ∧ Hid (n' = ys.length) ∧ Hid (wr.ownsRow w1.heap.size 3 1 (.slice A n' c) n' (ys.map (Value.int .i64))) ∧ Hid (Upd [] w1 wr) ∧ Hid (Blk wr (w1.heap.size + 1) 22 [.slice ta tn tc, .slice ka kn kc])) (fun k _ _ => ln - (intOf k).toNat)
      case atStart => exact ⟨0, A5, n + 1, c5, zs ++ [(ln : Int)], Nat.zero_le _, rfl, rfl, by omega, rfl, hide (by rw [List.length_append, ← hnz.out]; rfl), hide (by rw [List.map_append]; exact H5.out), V5, B5⟩
      case round =>
        obtain ⟨k, A', n', c', ys, hk, rfl, rfl, hn', hys, hny, hown', hu', hbg'⟩ := hrel
        obtain ⟨wi, rfl⟩ : ∃ wi : World, wi = wr := ⟨_, rfl⟩
        by_cases hkl : k < ln
        · obtain ⟨s, hs⟩ : ∃ s, l[k]? = some s := ⟨_, List.getElem?_eq_getElem (by have := hln.out; omega)⟩
          obtain ⟨b, o, ea, hb, c0, c1⟩ := (hSl.out.upd (U2.out.trans hu'.out (by simp)) hn (by simp)) k s hs
          subst ea
          have hki : (k : Int) < ln := by omega
          have HST := hide (show zs ++ (ln : Int) :: flatSp (l.take (k + 1)) = ys ++ [s.fr, s.to_] by
            rw [List.take_add_one, hs, Option.toList_some, flatSp_snoc, hys.out]
            simp)
          have B2 := Blk.new wi 53 [.int .i64 s.fr, .int .i64 s.to_]
          have u2 := (Upd.refl [] wi).alloc (.cells #[.int .i64 s.fr, .int .i64 s.to_] 53)
          have j0 := B2.cell 0
          have j1 := B2.cell 1
          have P1 := hide (show ∀ u ∈ [Value.int .i64 s.fr, Value.int .i64 s.to_], u.oneCell' = true by simp [Value.oneCell'])
          have P3 := hide (show n' + 2 ≤ maxLen by unfold maxLen; omega)
          have P4 := hide (show (n' + 2) * 8 ≤ 140737488355328 by omega)
          have PB := hide ((hown'.out.alloc (.cells #[.int .i64 s.fr, .int .i64 s.to_] 53)).alloc (.cells #[.int .i64 s.fr, .int .i64 s.to_] 3))
          have PS := hide (show w1.heap.size ≤ ((wi.alloc (.cells #[.int .i64 s.fr, .int .i64 s.to_] 53)).alloc (.cells #[.int .i64 s.fr, .int .i64 s.to_] 3)).heap.size by have := hu'.out.size; simp; omega)
          have PC := hide (it_two_new (wi.alloc (.cells #[.int .i64 s.fr, .int .i64 s.to_] 53)) (.int .i64 s.fr) (.int .i64 s.to_) 3 (wi.heap.size + 1) (by simp))
          clear hs hb B2 u2
          go_wp2_with (at_builtin; refine wpList_append_base rfl (.tmp 51) (.tmp 56) _ rfl w1.heap.size 3 _ 1 8 Try.underlying26 it_info_int rfl (by decide) A' n' c' _ rfl PB.out ⟨wi.heap.size + 1, 0, none⟩ 2 2 [.int .i64 s.fr, .int .i64 s.to_] rfl rfl PC.out P1.out P3.out P4.out PS.out ?_; intro A6 c6 w6 h6 u6 _; have H6 := hide h6; have V6 := hide (((hu'.out.alloc _).alloc _).trans u6 (fun z hz => .inr (it_own_block hown'.out z (by rw [ownBlock_slice]; simpa using hz)))); have B6 := hide (((hbg'.out.alloc _).alloc _).upd u6 (fun hm => own_blk_ne hown'.out hbg'.out (by decide) _ (by rw [ownBlock_slice]; simpa using hm) rfl)); clear h6 u6)
          go_roundw
          case rel => exact ⟨k + 1, A6, n' + 2, c6, ys ++ [s.fr, s.to_], by omega, by go_num, rfl, by omega, hide HST.out.symm, hide (by rw [List.length_append, ← hny.out]; rfl), hide (by rw [List.map_append]; exact H6.out), V6, B6⟩
          case measure => simp [intOf] <;> omega
        · obtain rfl : k = ln := by omega
          have hki : ¬ (k : Int) < k := by omega
          have HE := hide (show ys = allTo i (q + 1) by
            rw [hys.out, List.take_of_length_le (by have := hln.out; omega), hzs.out]
            show _ = allTo i q ++ ((listOf i q).length : Int) :: flatSp (listOf i q)
            rw [← hl.out, hln.out])
          go_wp2_with fail
          go_roundw
          case rel => exact ⟨q + 1, A', n', c', ys, by omega, by go_num, rfl, by omega, HE, hny, hown', hu', hbg'⟩
          case measure => simp [intOf] <;> omega
    · obtain rfl : q = 2 := by omega
      have HZS := hide (show zs = allS i from hzs.out)
      have hab := allS_bounds HIT.out
      have HAB := hide hab
      have HO := hide (it_own_ints2 hown.out hnz.out).form
      have hn63 : n ≤ 9223372036854775807 := by omega
      have UO := hide (U2.out.trans hu.out (by simp))
      clear hab
      go_wp2_with fail
      obtain ⟨wb, hwb⟩ : ∃ wb, wo.alloc (.cells #[.pointer none, .slice none 0 0] 77) = wb := ⟨_, rfl⟩
      rw [hwb]
      have hB0 : IsBld wo.heap.size wo.heap.size (Lib.byteCells []) wb := by
        rw [← hwb]
        exact .inl ⟨Nat.le_refl _, _, heap_alloc_new wo _, World.ownsRow_nil _ _ _ _, by simp [Value.ownBlock]⟩
      have hU0 : Below wo.heap.size wo wb := by rw [← hwb]; exact (Below.refl _ wo).alloc (Nat.le_refl _) _
      have HB0 := hide hB0
      have HU0 := hide hU0
      clear hwb hB0 hU0
      go_loopw [62] (fun s62 wr => ∃ j : Nat, j ≤ n ∧ s62 = .int .i64 j ∧ Hid (IsBld wo.heap.size wo.heap.size (Lib.byteCells ((zs.take j).flatMap putS)) wr) ∧ Hid (Below wo.heap.size wo wr)) (fun j _ => n - (intOf j).toNat)
      case atStart => exact ⟨0, Nat.zero_le _, rfl, hide (by rw [List.take_zero]; exact HB0.out), HU0⟩
      case round =>
        obtain ⟨j, hj, rfl, hbl, hbe⟩ := hrel
        obtain ⟨wi, rfl⟩ : ∃ wi : World, wi = wr := ⟨_, rfl⟩
        by_cases hjl : j < n
        · obtain ⟨x, hx⟩ : ∃ x, zs[j]? = some x := ⟨_, List.getElem?_eq_getElem (by have := hnz.out; omega)⟩
          obtain ⟨b, o, ea, hb, c0⟩ := HO.out.2 j x hx
          subst ea
          have d0 := (hbe.out.cell (p := ⟨b, o + j, none⟩) hb).trans c0
          have hji : (j : Int) < n := by omega
          have hxm : x ∈ allS i := by rw [← HZS.out]; exact List.mem_of_getElem? hx
          have hxb := HAB.out x hxm
          have PI := hide (putInt_any x wi (by omega) (by omega))
          have hle : ((zs.take j).flatMap putS).length ≤ 10 * j := by
            have := flatPut_length (zs.take j) (fun y hy => HAB.out y (by rw [← HZS.out]; exact List.mem_of_mem_take hy))
            rw [List.length_take] at this
            omega
          have hpl := putS_length x (by omega) (by omega)
          have HST := hide (show (zs.take (j + 1)).flatMap putS = (zs.take j).flatMap putS ++ putS x by
            rw [List.take_add_one, hx, Option.toList_some, List.flatMap_append]
            simp)
          have WS := hide (show ∀ W, Upd [] wi W → Calls Try.prog 51 #[.pointer (some ⟨wo.heap.size, 0, none⟩), .string ⟨(putS x).toArray⟩] W fun e w' => e = .returned (.tuple #[.int .i64 (ByteArray.mk (putS x).toArray).size, .nilIface]) ∧ IsBld wo.heap.size wo.heap.size (Lib.byteCells ((zs.take (j + 1)).flatMap putS)) w' ∧ Below wo.heap.size wo w' from fun W hW => by
            have hI : IsBld wo.heap.size wo.heap.size (Lib.byteCells ((zs.take j).flatMap putS)) W := by
              have key : ∀ p, Lib.BuilderAt 77 5 wo.heap.size wo.heap.size p (Lib.byteCells ((zs.take j).flatMap putS)) wi → Lib.BuilderAt 77 5 wo.heap.size wo.heap.size p (Lib.byteCells ((zs.take j).flatMap putS)) W := by
                rintro p ⟨h1, v, h2, h3, h4⟩
                exact ⟨h1, v, (hW.block _ (Array.getElem?_eq_some_iff.1 h2).1 (by simp)).trans h2, own_kept h3 hW (by simp), h4⟩
              rcases hbl.out with h | h
              · exact .inl (key _ h)
              · exact .inr (key _ h)
            refine (writeString_any wo.heap.size wo.heap.size _ ⟨(putS x).toArray⟩ W hI ?_ (Nat.le_trans hbe.out.size hW.size)).mono fun e w' h => ⟨h.1, ?_, hbe.out.trans ((hW.toBelow (Nat.le_refl _) (by simp)).mono hbe.out.size |>.trans h.2.2)⟩
            · have e1 : (ByteArray.mk (putS x).toArray).size = (putS x).length := by simp [ByteArray.size]
              rw [bCells_lib, bCells_length, e1]
              omega
            · rw [HST.out]
              have := h.2.1
              simpa [Lib.byteCells, Lib.strCells] using this)
          clear hx hb hxm hxb hle hpl
          go_wp2_with fail
          refine PI.out.mono ?_
          rintro e w3 ⟨rfl, u3⟩
          have WS3 := hide (WS.out w3 u3)
          clear u3
          go_wp2_with fail
          refine WS3.out.mono ?_
          rintro e w4 ⟨rfl, h4, b4⟩
          have H4 := hide h4
          have B4 := hide b4
          clear h4 b4
          go_wp2_with fail
          go_roundw
          case rel =>
            exact ⟨_, _, _, _, _, _, _, _, _, _, _, _, _, _, _, ⟨j + 1, by omega, by go_num, H4, B4⟩, rfl⟩
          case measure => simp [intOf] <;> omega
        · obtain rfl : j = n := by omega
          have hji : ¬ (j : Int) < j := by omega
          have ST := hide (Try.Builder_String_any wo.heap.size wo.heap.size (encS i) wi (by
            have := hbl.out
            rw [List.take_of_length_le (by have := hnz.out; omega), HZS.out] at this
            exact this) hbe.out.size)
          go_wp2_with fail
          refine ST.out.mono ?_
          rintro e w5 ⟨rfl, b5⟩
          have U5 := hide (UO.out.below (hbe.out.trans b5))
          clear b5
          go_wp2_with fail
          go_ret2
          exact HP.out _ U5.out
end Go.Proofs.Ytpkeimdlcafcnaa

namespace Go.Proofs.Ytpkeimdlcafcnaa

def grpsB (z : Nat) : List UInt8 := (groupsS z).map fun x => UInt8.ofNat (grpB x)
theorem grpsB_last {z : Nat} (h : z < 128) : grpsB z = [UInt8.ofNat z] := by unfold grpsB; rw [groupsS_last h]; rfl
theorem grpsB_more {z : Nat} (h : ¬ z < 128) : grpsB z = UInt8.ofNat (z % 128 + 128) :: grpsB (z / 128) := by unfold grpsB; rw [groupsS_more h]; rfl
theorem byte_inj {a b : Nat} (ha : a < 256) (hb : b < 256) (h : UInt8.ofNat a = UInt8.ofNat b) : a = b := by
  have := congrArg UInt8.toNat h
  simp at this
  omega
theorem grps_cancel : ∀ (z z' : Nat) (a b : List UInt8), grpsB z ++ a = grpsB z' ++ b → z = z' ∧ a = b := by
  intro z
  induction z using Nat.strongRecOn with
  | _ z ih =>
    intro z' a b h
    by_cases h1 : z < 128
    · by_cases h2 : z' < 128
      · rw [grpsB_last h1, grpsB_last h2] at h
        injection h with h3 h4
        exact ⟨byte_inj (by omega) (by omega) h3, h4⟩
      · rw [grpsB_last h1, grpsB_more h2] at h
        injection h with h3 h4
        have := byte_inj (by omega) (by omega) h3
        omega
    · by_cases h2 : z' < 128
      · rw [grpsB_more h1, grpsB_last h2] at h
        injection h with h3 h4
        have := byte_inj (by omega) (by omega) h3
        omega
      · rw [grpsB_more h1, grpsB_more h2] at h
        injection h with h3 h4
        have e1 := byte_inj (by omega) (by omega) h3
        obtain ⟨e2, e3⟩ := ih (z / 128) (by omega) (z' / 128) a b h4
        exact ⟨by omega, e3⟩
theorem zig_inj {x y : Int} (h : zigS x = zigS y) : x = y := by unfold zigS at h; split at h <;> split at h <;> omega
theorem putS_cancel {x y : Int} {a b : List UInt8} (h : putS x ++ a = putS y ++ b) : x = y ∧ a = b := by
  obtain ⟨e1, e2⟩ := grps_cancel (zigS x) (zigS y) a b h
  exact ⟨zig_inj e1, e2⟩
theorem putS_ne (x : Int) : putS x ≠ [] := by
  show grpsB (zigS x) ≠ []
  by_cases h : zigS x < 128
  · rw [grpsB_last h]; simp
  · rw [grpsB_more h]; simp
theorem flat_prefix : ∀ (L1 L2 : List Int) (r : List UInt8), L1.flatMap putS ++ r = L2.flatMap putS → ∃ r', L2 = L1 ++ r'
  | [], L2, _, _ => ⟨L2, rfl⟩
  | x :: L1, [], r, h => by
    rw [List.flatMap_cons, List.flatMap_nil, List.append_assoc] at h
    exact absurd (List.append_eq_nil_iff.1 h).1 (putS_ne x)
  | x :: L1, y :: L2, r, h => by
    rw [List.flatMap_cons, List.flatMap_cons, List.append_assoc] at h
    obtain ⟨rfl, e⟩ := putS_cancel h
    obtain ⟨r', rfl⟩ := flat_prefix L1 L2 r e
    exact ⟨r', rfl⟩
theorem flatSp_inj : ∀ {l m : List Sp}, flatSp l = flatSp m → l = m
  | [], [], _ => rfl
  | [], t :: m, h => by simp [flatSp] at h
  | s :: l, [], h => by simp [flatSp] at h
  | s :: l, t :: m, h => by
    have e : ∀ (s : Sp) (l : List Sp), flatSp (s :: l) = s.fr :: s.to_ :: flatSp l := fun _ _ => rfl
    rw [e, e] at h
    injection h with h1 h2
    injection h2 with h2 h3
    rw [flatSp_inj h3]
    cases s; cases t
    simp only at h1 h2
    rw [h1, h2]
theorem allS_form (i : It) : allS i = i.id :: i.kind :: i.len :: i.artist :: i.tempo :: i.lang :: (i.trims.length : Int) :: (flatSp i.trims ++ (i.talks.length : Int) :: flatSp i.talks) := by
  simp [allS, allTo, sixS, listOf]
theorem all_prefix {i k : It} {r : List Int} (h : allS k = allS i ++ r) : i = k := by
  rw [allS_form, allS_form] at h
  simp only [List.cons_append, List.append_assoc] at h
  injection h with h1 h; injection h with h2 h; injection h with h3 h; injection h with h4 h; injection h with h5 h; injection h with h6 h; injection h with h7 h
  obtain ⟨e1, e2⟩ := List.append_inj h (by rw [flatSp_length, flatSp_length]; omega)
  injection e2 with e2 e3
  obtain ⟨e4, _⟩ := List.append_inj (s₁ := flatSp k.talks) (t₁ := []) (s₂ := flatSp i.talks) (t₂ := r) (by rw [List.append_nil]; exact e3) (by rw [flatSp_length, flatSp_length]; omega)
  have e5 := flatSp_inj e1
  have e6 := flatSp_inj e4
  cases i; cases k
  simp only at *
  subst h1 h2 h3 h4 h5 h6 e5 e6
  rfl
/-- No encoding is the beginning of that of another recording. -/
theorem enc_prefix {i k : It} {r : List UInt8} (h : encS i ++ r = encS k) : i = k := by
  obtain ⟨r', e⟩ := flat_prefix (allS i) (allS k) r h
  exact all_prefix e
theorem enc_take {i k : It} (h : (encS k).take (encS i).length = encS i) : i = k := enc_prefix (r := (encS k).drop (encS i).length) (by
  have := List.take_append_drop (encS i).length (encS k)
  rwa [h] at this)
theorem enc_inj {i k : It} (h : encS i = encS k) : i = k := enc_prefix (r := []) (by rw [List.append_nil, h])
theorem enc_head (i : It) : ∃ r, encS i = putS i.id ++ r := ⟨(allS i).tail.flatMap putS, by unfold encS; rw [allS_form]; rfl⟩
end Go.Proofs.Ytpkeimdlcafcnaa
