/-
  (*journal.Journal).Append.
-/
import Derived.Test.YtafjolibfbccbaaGreatDoorKAux
import Derived.Test.YtafjolibfbccbaaGreatDoorKRows
namespace Go.Proofs.YtafjolibfbccbaaGreatDoor
open Go.RowKit
set_option maxRecDepth 100000
set_option maxHeartbeats 40000000

/-- A group of records: the tape behind it, and what is stored. -/
def addAll (ks : List Int) (T : TapeS) (l : List ByteArray) : TapeS × List UInt8 := l.foldl (fun x r => (x.1.add ks r.data.toList, x.2 ++ storedS ks x.1 r.data.toList)) (T, [])
theorem addAll_snoc (ks : List Int) (T : TapeS) (l : List ByteArray) (r : ByteArray) : addAll ks T (l ++ [r]) = ((addAll ks T l).1.add ks r.data.toList, (addAll ks T l).2 ++ storedS ks (addAll ks T l).1 r.data.toList) := by
  unfold addAll
  rw [List.foldl_append]
  rfl
def appendS (ks : List Int) (T : TapeS) (D : DiskS) (br : Bool) (l : List ByteArray) : TapeS × DiskS × Bool × Int :=
  if br = true ∨ anyLong l = true then (T, D, br, 340) else
  if D.sure.length - T.size < (addAll ks T l).2.length then (T, D, br, 341) else
  match (addAll ks T l).2 with
  | [] => (T, D, br, 0)
  | h :: t =>
    let r := runOps D [.write ((T.size : Int) + 1) ⟨t.toArray⟩, .sync, .write (T.size : Int) ⟨#[h]⟩, .sync]
    if r.2 ≠ 0 then (T, r.1, true, r.2) else ((addAll ks T l).1, r.1, br, 0)
theorem bld_lib {w : World} {base bb : Nat} {p v : Value} {bs : List Value} (h : IsB w base bb p v bs) : Lib.IsBuilder 78 5 base bb bs w := by
  have hap := h.apart
  obtain ⟨h1, h2, h3, rfl | rfl⟩ := h
  · exact .inl ⟨h1, v, h2, h3, fun e => hap bb e rfl⟩
  · exact .inr ⟨h1, v, h2, h3, fun e => hap bb e rfl⟩
def AppendPost (ks : List Int) (base jb g : Nat) (F : List Nat) (A : Option Addr) (T : TapeS) (D : DiskS) (br : Bool) (l : List ByteArray) (w : World) (e : Ending) (w' : World) : Prop :=
  e = .returned (.int .i64 (appendS ks T D br l).2.2.2) ∧ ∃ A' c' F', IsTapeAt w' base jb 74 A' c' (appendS ks T D br l).1 [.pointer (some ⟨g, 0, none⟩), .bool (appendS ks T D br l).2.2.1] ∧ IsDisk w' F' g (appendS ks T D br l).2.1 ∧ Upd (jb :: F) w w' ∧
    (∀ k ∈ F', k ∈ F ∨ w.heap.size ≤ k) ∧ (∀ k ∈ (A'.map (·.block)).toList, k ∈ (A.map (·.block)).toList ∨ w.heap.size ≤ k) ∧ (∀ k ∈ jb :: (A'.map (·.block)).toList, k ∉ F')
theorem slice_str_h {P : Program} (W : World) {T : TypeId} (hT : P.underlying T = some .string) (s : ByteArray) {bs : List UInt8} (hb : s.data.toList = bs) (i : Nat) (h2 : i ≤ s.size) (x : Int) (hx : x = (i : Int)) :
    (Instr.slice T (.string s) none (some (.int .i64 x)) none).run P W = .ok (.string ⟨(bs.take i).toArray⟩) W := by
  subst hx hb
  rw [run_slice_string_h W T s hT .i64 (i : Int) (by omega) (by omega), Int.toNat_natCast, str_extract]
  simp
theorem WrAt.upd0 {w w' : World} {pj pa ps jb g : Nat} {a : Int} {s : ByteArray} (h : WrAt w pj pa ps jb g a s) (u : Upd [] w w') : WrAt w' pj pa ps jb g a s :=
  ⟨keepc _ _ _ _ u h.1, keepc _ _ _ _ u h.2.1, keepc _ _ _ _ u h.2.2.1, keepc _ _ _ _ u h.2.2.2⟩
theorem writing_at (jb g : Nat) (n : Int) (s : ByteArray) (w : World) (h3 : w.cell? ⟨jb, 3, none⟩ = some (.pointer (some ⟨g, 0, none⟩))) :
    Calls Tryz.prog 41 #[.pointer (some ⟨jb, 0, none⟩), .int .i64 n, .string s] w fun e w' => ∃ pj, e = .returned (.func (.func 72) #[] #[.pointer (some ⟨pj, 0, none⟩), .pointer (some ⟨pj + 1, 0, none⟩), .pointer (some ⟨pj + 2, 0, none⟩)]) ∧ w.heap.size = pj ∧ Upd [] w w' ∧ WrAt w' pj (pj + 1) (pj + 2) jb g n s := by
  refine (writing_any (.pointer (some ⟨jb, 0, none⟩)) (.int .i64 n) s _ rfl _ rfl w).mono ?_
  rintro e w3 ⟨rfl, hw⟩
  have u : Upd [] w w3 := by rw [← hw]; exact (((Upd.refl [] _).alloc _).alloc _).alloc _
  obtain ⟨pj, hpj⟩ : ∃ x, w.heap.size = x := ⟨_, rfl⟩
  refine ⟨pj, by rw [hpj], hpj, u, ?_⟩
  have h0 : Blk w3 pj 28 [.pointer (some ⟨jb, 0, none⟩)] := by rw [← hw, ← hpj]; exact ((Blk.new w _ _).alloc _).alloc _
  have h1 : Blk w3 (pj + 1) 3 [.int .i64 n] := by
    have h9 := Blk.new (w.alloc (.cells #[.pointer (some ⟨jb, 0, none⟩)] 28)) 3 [.int .i64 n]
    rw [World.size_alloc, hpj] at h9
    rw [← hw]; exact h9.alloc _
  have h2 : Blk w3 (pj + 2) 9 [.string s] := by
    have h9 := Blk.new ((w.alloc (.cells #[.pointer (some ⟨jb, 0, none⟩)] 28)).alloc (.cells #[.int .i64 n] 3)) 9 [.string s]
    rw [World.size_alloc, World.size_alloc, hpj] at h9
    rw [← hw]; exact h9
  exact ⟨(h0.cell 0).trans rfl, (h1.cell 0).trans rfl, (h2.cell 0).trans rfl, keepc _ _ _ _ u h3⟩
theorem append_any {F : List Nat} {D : DiskS} (base jb g : Nat) (A : Option Addr) (c : Nat) (T : TapeS) (br : Bool) (la : Option Addr) (n lc : Nat) (l : List ByteArray) (ks : List Int) (w : World)
    (hJ : IsTapeAt w base jb 74 A c T [.pointer (some ⟨g, 0, none⟩), .bool br]) (hD : IsDisk w F g D) (hdj : ∀ k ∈ jb :: (A.map (·.block)).toList, k ∉ F) (hk : RoundAt w ks) (hkl : ks.length = 64)
    (hl : l.length = n) (hla : n ≤ 1000) (hS : StrsAt w la l) (hb : ∀ s ∈ l, s.size ≤ 1000000000) (hp : D.pend.length ≤ 10000000) (hts : T.size ≤ D.sure.length ∧ D.sure.length ≤ 4194304) (hth : T.head.length ≤ 1000) (htr : T.recs.length ≤ 1000000000) (hbase : base ≤ w.heap.size) :
    Calls Tryz.prog 10 #[.pointer (some ⟨jb, 0, none⟩), .slice la n lc] w (AppendPost ks base jb g F A T D br l w) := by
  have HJ := hide hJ
  have HD := hide hD
  have HFL := hide hD.lt_
  have HDJ := hide hdj
  have HK := hide hk
  have HKL := hide hkl
  have HS := hide hS
  have HB := hide hb
  have HP := hide hp
  have HTS := hide hts
  have HTH := hide hth
  have HTR := hide htr
  have HBASE := hide hbase
  have HL := hide hl
  have HLA := hide hla
  obtain ⟨N, hN⟩ : ∃ N, T.recs.length = N := ⟨_, rfl⟩
  obtain ⟨q, hq⟩ : ∃ q, T.size = q := ⟨_, rfl⟩
  have HN := hide hN
  have HQ := hide hq
  have hJB : Blk w jb 74 [.slice A N c, .string ⟨T.head.toArray⟩, .int .i64 (q : Int), .pointer (some ⟨g, 0, none⟩), .bool br] := by rw [← hN, ← hq]; exact hJ.2.1
  have HJB := hide hJB
  have CL := hide (contains_long la n lc l w hl (by omega) hS (fun s hs => by have := hb s hs; omega))
  have c4 : w.cell? ⟨jb, 4, none⟩ = some (.bool br) := (hJB.cell 4).trans rfl
  clear hJ hD hdj hk hkl hS hb hp hts hth htr hbase hl hla hN hq hJB
  obtain ⟨ln, hln⟩ : ∃ x, anyLong l = x := ⟨_, rfl⟩
  rw [hln] at CL
  cases br with
  | true =>
    have HE := hide (show appendS ks T D true l = (T, D, true, 340) by unfold appendS; rw [if_pos (.inl rfl)])
    clear hln
    go_enter Tryz.func10, Tryz.ntmps10
    go_wp2_with fail
    go_ret
    unfold AppendPost
    rw [HE.out]
    exact ⟨rfl, A, c, F, HJ.out, HD.out, Upd.refl _ _, fun k hk => .inl hk, fun k hk => .inl hk, HDJ.out⟩
  | false =>
    cases ln with
    | true =>
      have HE := hide (show appendS ks T D false l = (T, D, false, 340) by unfold appendS; rw [if_pos (.inr hln)])
      clear hln
      go_enter Tryz.func10, Tryz.ntmps10
      go_wp2_with fail
      refine CL.out.mono ?_
      rintro e w' ⟨rfl, rfl⟩
      go_wp2_with fail
      go_ret
      unfold AppendPost
      rw [HE.out]
      exact ⟨rfl, A, c, F, HJ.out, HD.out, Upd.refl _ _, fun k hk => .inl hk, fun k hk => .inl hk, HDJ.out⟩
    | false =>
      have HLN := hide hln
      clear hln
      have HSM := hide (show ∀ s ∈ l, s.size ≤ 65536 from fun s hs => by
        have h := HLN.out
        unfold anyLong at h
        rw [List.any_eq_false] at h
        have := h s hs
        simpa using this)
      have c0 : w.cell? ⟨jb, 0, none⟩ = some (.slice A N c) := (HJB.out.cell 0).trans rfl
      have c1 : w.cell? ⟨jb, 1, none⟩ = some (.string ⟨T.head.toArray⟩) := (HJB.out.cell 1).trans rfl
      have c2 : w.cell? ⟨jb, 2, none⟩ = some (.int .i64 (q : Int)) := (HJB.out.cell 2).trans rfl
      go_enter Tryz.func10, Tryz.ntmps10
      go_wp2_with fail
      refine CL.out.mono ?_
      rintro e w' ⟨rfl, rfl⟩
      go_upto_region 7 with fail
      obtain ⟨B, hB⟩ : ∃ B, w.heap.size = B := ⟨_, rfl⟩
      obtain ⟨w1, hw⟩ : ∃ x, w.alloc (.cells #[.slice A N c, .string ⟨T.head.toArray⟩, .int .i64 (q : Int)] 72) = x := ⟨_, rfl⟩
      have BN := hide (show Blk w1 B 72 [.slice A N c, .string ⟨T.head.toArray⟩, .int .i64 (q : Int)] by rw [← hw, ← hB]; exact Blk.new w _ _)
      have HU := hide (show Upd [] w w1 by rw [← hw]; exact (Upd.refl [] _).alloc _)
      rw [hw, hB]
      have HBB := hide hB
      clear hw hB c0 c1 c2 c4
      have hcl := clone_any base N c A T.recs w1 HN.out (by have := HTR.out; have := HN.out; omega) (by have h9 := own_kept HJ.out.2.2 HU.out (by simp); rw [HN.out] at h9; exact h9)
      have HCL := hide hcl
      clear hcl
      have HU1 := HU
      have n0 : w1.cell? ⟨B, 0, none⟩ = some (.slice A N c) := (BN.out.cell 0).trans rfl
      go_wp2_with fail
      refine HCL.out.mono ?_
      rintro e w2 ⟨A2, c2, rfl, hO2, u⟩
      replace BN := hide (keepB BN.out u)
      replace HU := hide (HU.out.trans u (by simp))
      have HO2 := hide (it_own_less hO2 (show B ≤ w1.heap.size by have := BN.out; rw [← HBB.out]; exact HU1.out.size))
      clear u hO2 n0
      have n0 : w2.cell? ⟨B, 0, none⟩ = some (.slice A N c) := (BN.out.cell 0).trans rfl
      have f0 := BN.out.frozen 0
      go_upto_region 8 with fail
      obtain ⟨w3, hw⟩ : ∃ x, w2.setCell ⟨B, 0, none⟩ (.slice A2 N c2) = x := ⟨_, rfl⟩
      have u : Upd [B] w2 w3 := by rw [← hw]; exact (Upd.refl _ _).setCell (.inl (by simp)) _
      have hN3 : Blk w3 B 72 [.slice A2 N c2, .string ⟨T.head.toArray⟩, .int .i64 (q : Int)] := by rw [← hw]; exact BN.out.set_ 0 _
      have HT3 := hide (show IsTapeAt w3 B B 72 A2 c2 T [] from ⟨Nat.le_refl _, by rw [HN.out, HQ.out]; exact hN3, by rw [HN.out]; exact own_kept HO2.out u (fun k hk hm => by have := own_blk_ne HO2.out BN.out (by decide) k hk; simp at hm; omega)⟩)
      replace HU := hide ((HU.out.mono (l' := [B]) (by simp)).trans u (by simp))
      replace HU := hide (show Upd [] w w3 from HU.out.mono (fun x hx => .inr (by simp at hx; subst hx; rw [HBB.out]; exact Nat.le_refl _)))
      rw [hw]
      clear hw u hN3 n0 f0 HO2 BN
      go_upto_region 9 with fail
      obtain ⟨w4, hw⟩ : ∃ x, w3.alloc (.cells #[.pointer none, .slice none 0 0] 78) = x := ⟨_, rfl⟩
      obtain ⟨bb, hbb⟩ : ∃ x, w3.heap.size = x := ⟨_, rfl⟩
      have u : Upd [] w3 w4 := by rw [← hw]; exact (Upd.refl [] _).alloc _
      have HIB := hide (show IsB w4 B bb (.pointer none) (.slice none 0 0) (Lib.byteCells []) from ⟨by rw [← hbb, ← HBB.out]; exact HU.out.size, by rw [← hw, ← hbb]; exact Blk.new w3 _ _, World.ownsRow_nil _ _ _ _, .inl rfl⟩)
      replace HT3 := hide (HT3.out.upd0 u)
      replace HU := hide (HU.out.trans u (by simp))
      rw [hw, hbb]
      clear hw hbb u
      go_wp2_with fail
      go_loopw [33] (fun s33 wr => ∃ (k : Nat) (Tk : TapeS) (out : List UInt8) (A' : Option Addr) (c' : Nat) (pp v : Value), k ≤ n ∧ s33 = .int .i64 k ∧ Hid (addAll ks T (l.take k) = (Tk, out)) ∧ Hid (IsTapeAt wr B B 72 A' c' Tk []) ∧ Hid (IsB wr B bb pp v (Lib.byteCells out)) ∧ Hid (Upd [] w wr) ∧ Hid (Tk.recs.length ≤ N + k ∧ Tk.head.length ≤ 1000 ∧ Tk.size = q + out.length ∧ out.length ≤ k * 65700 ∧ (0 < k → 0 < out.length))) (fun s _ => n - (intOf s).toNat)
      case atStart => exact ⟨0, T, [], A2, c2, _, _, Nat.zero_le _, rfl, hide (by rw [List.take_zero]; rfl), HT3, HIB, HU, hide ⟨by rw [HN.out]; exact Nat.le_refl _, HTH.out, by rw [HQ.out]; rfl, by simp, by omega⟩⟩
      case round =>
        have hla2 : n ≤ 1000 := HLA.out
        clear HT3 HIB HU
        obtain ⟨k, Tk, out, A3, c3, pp, v, hk, rfl, hAd, hT, hIB, hU, hBd⟩ := hrel
        obtain ⟨wo, rfl⟩ : ∃ x : World, x = wr := ⟨_, rfl⟩
        by_cases hkn : k < n
        case pos =>
          have hki : (k : Int) < n := by omega
          have hkw : IntKind.i64.wrap ((k : Int) + 1) = (k : Int) + 1 := Go.IntWalk.i64_in _ (by omega)
          obtain ⟨r, hr⟩ : ∃ r, l[k]? = some r := ⟨_, List.getElem?_eq_getElem (by have := HL.out; omega)⟩
          obtain ⟨lb, lo, rfl, hc⟩ := HS.out k r hr
          have hrc : wo.cell? ⟨lb, lo + k, none⟩ = some (.string r) := keepc _ _ _ _ hU.out hc
          have hr6 := HSM.out r (List.mem_of_getElem? hr)
          have hKo := HK.out.upd hU.out (by simp)
          have hBs : B ≤ wo.heap.size := by rw [← HBB.out]; exact hU.out.size
          have hkB : 3 < B := by rw [← HBB.out]; exact HK.out.lt
          have HTA := hide (tape_add_at B B 72 A3 c3 Tk [] r ks wo hT.out (by decide) hBs hKo HKL.out hkB hr6 hBd.out.2.1 (by have := hBd.out.1; have := HTR.out; have := HN.out; omega) (by have := hBd.out.2.2; have := HTS.out; have := HQ.out; omega))
          have HRR := hide hr
          clear hr hc hKo hkB
          go_wp2_with fail
          refine HTA.out.mono ?_
          rintro e w5 ⟨rfl, A4, c4, hT4, u⟩
          have hIB5 := hIB.out.stay u (fun hm => tape_bld hT.out hIB.out hm) (fun k hk hm => tape_buf hT.out hIB.out k hk hm)
          obtain ⟨st, hst⟩ : ∃ x, storedS ks Tk r.data.toList = x := ⟨_, rfl⟩
          rw [hst]
          have hU5 : Upd [] w w5 := hU.out.trans u (fun x hx => .inr (tape_ge hT.out (by have := HBB.out; omega) x hx))
          have hstl : st.length = (putStrS r.data.toList).length + 33 := by rw [← hst]; unfold storedS; simp only [List.length_cons, List.length_append, chainS_length]
          have hpl : (putStrS r.data.toList).length ≤ 65545 := by unfold putStrS; rw [List.length_append]; have h1 : r.data.toList.length = r.size := Lib.size_eq r ▸ rfl; have h2 := putS_len (r.data.toList.length : Int) (by omega) (by omega); omega
          have HW := hide (bld_write B bb pp v (Lib.byteCells out) ⟨st.toArray⟩ w5 hIB5 (by rw [Lib.byteCells_length]; show out.length + st.toArray.size ≤ _; rw [List.size_toArray]; have := hBd.out.2.2.2.1; have : k * 65700 ≤ 1000 * 65700 := Nat.mul_le_mul_right _ (by omega); omega) (by have := u.size; omega))
          have HADK := hide (show addAll ks T (l.take (k + 1)) = (Tk.add ks r.data.toList, out ++ st) by rw [List.take_add_one, HRR.out, Option.toList_some, addAll_snoc, hAd.out, ← hst])
          have HB2 := hide (show (Tk.add ks r.data.toList).recs.length ≤ N + (k + 1) ∧ (Tk.add ks r.data.toList).head.length ≤ 1000 ∧ (Tk.add ks r.data.toList).size = q + (out ++ st).length ∧ (out ++ st).length ≤ (k + 1) * 65700 ∧ (0 < k + 1 → 0 < (out ++ st).length) from ⟨by unfold TapeS.add; simp only [List.length_append, List.length_singleton]; have := hBd.out.1; omega, by unfold TapeS.add; simp only [chainS_length]; omega, by unfold TapeS.add; simp only [List.length_append]; have := hBd.out.2.2.1; omega, by rw [List.length_append, Nat.add_mul]; have := hBd.out.2.2.2.1; omega, fun _ => by rw [List.length_append]; omega⟩)
          have HT4 := hide hT4
          have HU5 := hide hU5
          have HI5 := hide hIB5
          have HIN := hide (show w5.heap.size = w5.heap.size from rfl)
          clear hT4 hU5 hIB5 u hst hstl hpl hrc
          unfold strV
          go_wp2_with fail
          refine HW.out.mono ?_
          rintro e w6 ⟨rfl, v', hI6, u⟩
          have hT6 := HT4.out.stay u (bld_tape HT4.out HI5.out) (fun k hk hm => bld_row HT4.out HI5.out k hk hm)
          have hU6 : Upd [] w w6 := HU5.out.trans u (fun x hx => .inr (bld_ge HI5.out (by have := HBB.out; omega) x hx))
          have hI6b : IsB w6 B bb (.pointer (some ⟨bb, 0, none⟩)) v' (Lib.byteCells (out ++ st)) := by
            rw [strCells_lib] at hI6
            have e : Lib.byteCells out ++ Lib.byteCells (⟨st.toArray⟩ : ByteArray).data.toList = Lib.byteCells (out ++ st) := by simp [Lib.byteCells]
            rw [e] at hI6
            exact hI6
          have HT6 := hide hT6
          have HU6 := hide hU6
          have HI6 := hide hI6b
          clear hI6b
          clear hT6 hU6 hI6 u
          go_wp2_with fail
          go_roundw
          case rel => exact ⟨k + 1, _, out ++ st, A4, c4, _, v', by omega, by go_num, HADK, HT6, HI6, HU6, HB2⟩
          case measure => simp [intOf] <;> omega
        obtain rfl : k = n := by omega
        have hki : ¬ (k : Int) < k := by omega
        have HADK := hide (show addAll ks T l = (Tk, out) by have h9 := hAd.out; rwa [List.take_of_length_le (by have := HL.out; omega)] at h9)
        have HTS2 := HTS.out
        by_cases hn0 : k = 0
        case pos =>
          have hl0 : l = [] := by have h9 := HL.out; rw [hn0] at h9; exact List.eq_nil_of_length_eq_zero h9
          have hTk : Tk = T ∧ out = [] := by have h9 := HADK.out; rw [hl0] at h9; unfold addAll at h9; simp only [List.foldl_nil, Prod.mk.injEq] at h9; exact ⟨h9.1.symm, h9.2.symm⟩
          obtain ⟨rfl, rfl⟩ := hTk
          have HE := hide (show appendS ks Tk D false l = (Tk, D, false, 0) by unfold appendS; rw [if_neg (by rw [HLN.out]; simp), HADK.out]; simp)
          have HBS := hide (Tryz.Builder_String_any B bb [] wo (bld_lib hIB.out) (by rw [← HBB.out]; exact hU.out.size))
          clear hl0 hn0
          go_wp2_with fail
          refine HBS.out.mono ?_
          rintro e w7 ⟨rfl, hb7⟩
          have hU7 : Upd [] w w7 := (Upd.refl [] w).below (by rw [HBB.out]; exact (hU.out.toBelow (by have := HBB.out; omega) (by simp)).trans hb7)
          have HRO := hide (room_any base jb g A c Tk false w7 (HJ.out.upd0 hU7) (HD.out.upd hU7 (by simp)) HTS2.1)
          have HU7 := hide hU7
          clear hb7 hU7
          go_wp2_with fail
          refine HRO.out.mono ?_
          rintro e w8 ⟨rfl, u8⟩
          have HU8 := hide (HU7.out.trans u8 (by simp))
          clear u8
          obtain ⟨rm, hrm⟩ : ∃ x, D.sure.length - Tk.size = x := ⟨_, rfl⟩
          rw [hrm]
          clear hrm
          have hrm0 : (0 : Int) ≤ (rm : Int) := by omega
          go_wp2_with fail
          go_ret
          unfold AppendPost
          rw [HE.out]
          exact ⟨rfl, A, c, F, HJ.out.upd0 HU8.out, HD.out.upd HU8.out (by simp), HU8.out.mono (by simp), fun k hk => .inl hk, fun k hk => .inl hk, HDJ.out⟩
        have hout : 0 < out.length := hBd.out.2.2.2.2 (by omega)
        obtain ⟨ch, t, rfl⟩ : ∃ ch t, out = ch :: t := by
          cases out with
          | nil => simp at hout
          | cons ch t => exact ⟨ch, t, rfl⟩
        have HBS := hide (bld_string B bb pp v (ch :: t) wo hIB.out (by simp))
        clear hn0 hout
        go_wp2_with fail
        refine HBS.out.mono ?_
        rintro e w7 ⟨rfl, u7⟩
        have hT7 := hT.out.stay u7 (fun hm => bld_tape hT.out hIB.out (List.mem_cons_of_mem _ hm)) (fun k hk hm => bld_row hT.out hIB.out k hk (List.mem_cons_of_mem _ hm))
        have hU7 : Upd [] w w7 := hU.out.trans u7 (fun x hx => .inr (bld_ge hIB.out (by have := HBB.out; omega) x (List.mem_cons_of_mem _ hx)))
        have HRO := hide (room_any base jb g A c T false w7 (HJ.out.upd0 hU7) (HD.out.upd hU7 (by simp)) HTS2.1)
        have HU7 := hide hU7
        have HT7 := hide hT7
        clear u7 hU7 hT7
        obtain ⟨ob, hob⟩ : ∃ x : ByteArray, ⟨(ch :: t).toArray⟩ = x := ⟨_, rfl⟩
        rw [hob]
        obtain ⟨ol, hol⟩ : ∃ x, ob.size = x := ⟨_, rfl⟩
        have holl : ol = t.length + 1 := by rw [← hol, ← hob]; simp [ByteArray.size]
        have HOB := hide hob
        have hobl : ob.data.toList = ch :: t := by rw [← hob]
        have HOBL := hide hobl
        have HOLL := hide holl
        clear hob hobl holl
        obtain ⟨Ns, hNs⟩ : ∃ x, D.sure.length = x := ⟨_, rfl⟩
        have HNs := hide hNs
        rw [hNs, HQ.out] at HRO
        have hqNs : q ≤ Ns ∧ Ns ≤ 4194304 := by have := HTS2; have := HQ.out; omega
        clear hNs HTS2
        go_wp2_with fail
        refine HRO.out.mono ?_
        rintro e w8 ⟨rfl, u8⟩
        have HU8 := hide (HU7.out.trans u8 (by simp))
        have HT8 := hide (HT7.out.upd0 u8)
        clear u8
        obtain ⟨rm, hrm⟩ : ∃ x, Ns - q = x := ⟨_, rfl⟩
        rw [hrm]
        have HRM := hide hrm
        clear hrm
        by_cases hfit : rm < ol
        case pos =>
          have HE := hide (show appendS ks T D false l = (T, D, false, 341) by unfold appendS; rw [if_neg (by rw [HLN.out]; simp), HADK.out, if_pos (by rw [HNs.out, HQ.out, HRM.out, List.length_cons]; have := HOLL.out; omega)])
          have hfi : (rm : Int) < (ol : Int) := by omega
          go_wp2_with fail
          go_ret
          unfold AppendPost
          rw [HE.out]
          exact ⟨rfl, A, c, F, HJ.out.upd0 HU8.out, HD.out.upd HU8.out (by simp), HU8.out.mono (by simp), fun k hk => .inl hk, fun k hk => .inl hk, HDJ.out⟩
        have hfi : ¬ (rm : Int) < (ol : Int) := by omega
        have hne : ob.toList.isEmpty = false := by rw [ByteArray.toList_eq, HOBL.out]; rfl
        have HJ8 := hide (HJ.out.upd0 HU8.out)
        have HJB8 := hide (keepB HJB.out HU8.out)
        have HD8 := hide (HD.out.upd HU8.out (by simp))
        go_upto_region 19 with fail
        have hmf : ∀ (fn : Fn) (first cap : Array Value) (w : World), (Instr.makeFunc fn first cap).run Tryz.prog w = .ok (.func fn first cap) w := fun _ _ _ _ => rfl
        have hq1 : IntKind.i64.wrap ((q : Int) + 1) = ((q + 1 : Nat) : Int) := by rw [Go.IntWalk.i64_in _ (by omega)]; omega
        have hsl := fun W => slice_str_l (P := Tryz.prog) W Tryz.underlying9 ob HOBL.out 1 (by have := HOLL.out; omega) (1 : Int) rfl
        have hsh := fun W => slice_str_h (P := Tryz.prog) W Tryz.underlying9 ob HOBL.out 1 (by have := HOLL.out; omega) (1 : Int) rfl
        rw [show (ch :: t).drop 1 = t from rfl] at hsl
        rw [show (ch :: t).take 1 = [ch] from rfl] at hsh
        obtain ⟨tb, htb⟩ : ∃ x : ByteArray, ⟨t.toArray⟩ = x := ⟨_, rfl⟩
        obtain ⟨cb, hcb⟩ : ∃ x : ByteArray, ⟨[ch].toArray⟩ = x := ⟨_, rfl⟩
        rw [htb] at hsl
        rw [hcb] at hsh
        have HTB := hide htb
        have HCB := hide hcb
        clear htb hcb
        refine wp_region_held_drew (S := (fun w' => w'.cell? ⟨jb, 2, none⟩ = some (.int .i64 (q : Int)) ∧ w'.cell? ⟨jb, 3, none⟩ = some (.pointer (some ⟨g, 0, none⟩)))) (by kernel_rfl) (by exact ⟨(HJB8.out.cell 2).trans rfl, (HJB8.out.cell 3).trans rfl⟩) (fun hHeld => ?_)
        obtain ⟨wd, hw⟩ : ∃ x, w8.drew = x := ⟨_, rfl⟩
        have u : Upd [] w8 wd := by rw [← hw]; exact (Upd.refl [] _).drew
        rw [hw] at hHeld ⊢
        clear hw
        replace HJ8 := hide (HJ8.out.upd0 u)
        replace HJB8 := hide (keepB HJB8.out u)
        replace HD8 := hide (HD8.out.upd u (by simp))
        replace HU8 := hide (HU8.out.trans u (by simp))
        replace HT8 := hide (HT8.out.upd0 u)
        clear u
        refine wpAnyH_take (i := 0) (oi := ?oi0M2) (v := ?v0M2) ?oi0_0M2 (by kernel_rfl) ?ff0M2 ?rr0M2 ?hq0M2 (Or.inl ⟨?hw0M2, ?hy0M2⟩) (by assumption) ?rest0M2
        case oi0_0M2 =>
          conv =>
            lhs
            whnf
            arg 1
            whnf
        case hq0M2 => exact fun _ _ _ h => h
        case ff0M2 => kernel_rfl
        case rr0M2 => kernel_rfl
        case hw0M2 => rfl
        case hy0M2 =>
          intro w hSw
          (try dsimp only at hSw)
          first
          | (go_simp; done)
          | (go_simp; with_reducible rfl)
        try simp only [Act.put, List.setIfInBounds_toArray, List.set_cons_zero, List.set_cons_succ]
        refine wpAnyH_take (i := 1) (oi := ?oi1M2) (v := ?v1M2) ?oi0_1M2 (by kernel_rfl) ?ff1M2 ?rr1M2 ?hq1M2 (Or.inl ⟨?hw1M2, ?hy1M2⟩) (by assumption) ?rest1M2
        case oi0_1M2 =>
          conv =>
            lhs
            whnf
            arg 1
            whnf
        case hq1M2 => exact fun _ _ _ h => h
        case ff1M2 => kernel_rfl
        case rr1M2 => kernel_rfl
        case hw1M2 => rfl
        case hy1M2 =>
          intro w hSw
          (try dsimp only at hSw)
          first
          | (go_simp; done)
          | (go_simp; with_reducible rfl)
        try simp only [Act.put, List.setIfInBounds_toArray, List.set_cons_zero, List.set_cons_succ]
        refine wpAnyH_take (i := 2) (oi := ?oi2M2) (v := ?v2M2) ?oi0_2M2 (by kernel_rfl) ?ff2M2 ?rr2M2 ?hq2M2 (Or.inl ⟨?hw2M2, ?hy2M2⟩) (by assumption) ?rest2M2
        case oi0_2M2 =>
          conv =>
            lhs
            whnf
            arg 1
            whnf
        case hq2M2 => exact fun _ _ _ h => h
        case ff2M2 => kernel_rfl
        case rr2M2 => kernel_rfl
        case hw2M2 => rfl
        case hy2M2 =>
          intro w hSw
          (try dsimp only at hSw)
          first
          | (go_simp; done)
          | (go_simp; with_reducible rfl)
        try simp only [Act.put, List.setIfInBounds_toArray, List.set_cons_zero, List.set_cons_succ]
        refine wpAnyH_take (i := 3) (oi := ?oi3M2) (v := ?v3M2) ?oi0_3M2 (by kernel_rfl) ?ff3M2 ?rr3M2 ?hq3M2 (Or.inl ⟨?hw3M2, ?hy3M2⟩) (by assumption) ?rest3M2
        case oi0_3M2 =>
          conv =>
            lhs
            whnf
            arg 1
            whnf
        case hq3M2 => exact fun _ _ _ h => h
        case ff3M2 => kernel_rfl
        case rr3M2 => kernel_rfl
        case hw3M2 => rfl
        case hy3M2 =>
          intro w hSw
          (try dsimp only at hSw)
          first
          | (go_simp; done)
          | (go_simp; with_reducible rfl)
        try simp only [Act.put, List.setIfInBounds_toArray, List.set_cons_zero, List.set_cons_succ]
        refine wpAnyH_take (i := 4) (oi := ?oi4M2) (v := ?v4M2) ?oi0_4M2 (by kernel_rfl) ?ff4M2 ?rr4M2 ?hq4M2 (Or.inl ⟨?hw4M2, ?hy4M2⟩) (by assumption) ?rest4M2
        case oi0_4M2 =>
          conv =>
            lhs
            whnf
            arg 1
            whnf
        case hq4M2 => exact fun _ _ _ h => h
        case ff4M2 => kernel_rfl
        case rr4M2 => kernel_rfl
        case hw4M2 => rfl
        case hy4M2 =>
          intro w hSw
          (try dsimp only at hSw)
          first
          | (go_simp; done)
          | (go_simp; with_reducible rfl)
        try simp only [Act.put, List.setIfInBounds_toArray, List.set_cons_zero, List.set_cons_succ]
        refine wpAnyH_take (i := 5) (oi := ?oi5M2) (v := ?v5M2) ?oi0_5M2 (by kernel_rfl) ?ff5M2 ?rr5M2 ?hq5M2 (Or.inl ⟨?hw5M2, ?hy5M2⟩) (by assumption) ?rest5M2
        case oi0_5M2 =>
          conv =>
            lhs
            whnf
            arg 1
            whnf
        case hq5M2 => exact fun _ _ _ h => h
        case ff5M2 => kernel_rfl
        case rr5M2 => kernel_rfl
        case hw5M2 => rfl
        case hy5M2 =>
          intro w hSw
          (try dsimp only at hSw)
          first
          | (go_simp; done)
          | (go_simp; with_reducible rfl)
        try simp only [Act.put, List.setIfInBounds_toArray, List.set_cons_zero, List.set_cons_succ]
        refine wpAnyH_take (i := 6) (oi := ?oi6M2) (v := ?v6M2) ?oi0_6M2 (by kernel_rfl) ?ff6M2 ?rr6M2 ?hq6M2 (Or.inl ⟨?hw6M2, ?hy6M2⟩) (by assumption) ?rest6M2
        case oi0_6M2 =>
          conv =>
            lhs
            whnf
            arg 1
            whnf
        case hq6M2 => exact fun _ _ _ h => h
        case ff6M2 => kernel_rfl
        case rr6M2 => kernel_rfl
        case hw6M2 => rfl
        case hy6M2 =>
          intro w hSw
          (try dsimp only at hSw)
          first
          | (go_simp; done)
          | (go_simp; with_reducible rfl)
        try simp only [Act.put, List.setIfInBounds_toArray, List.set_cons_zero, List.set_cons_succ]
        refine wpAnyH_take (i := 7) (oi := ?oi7M2) (v := ?v7M2) ?oi0_7M2 (by kernel_rfl) ?ff7M2 ?rr7M2 ?hq7M2 (Or.inl ⟨?hw7M2, ?hy7M2⟩) (by assumption) ?rest7M2
        case oi0_7M2 =>
          conv =>
            lhs
            whnf
            arg 1
            whnf
        case hq7M2 => exact fun _ _ _ h => h
        case ff7M2 => kernel_rfl
        case rr7M2 => kernel_rfl
        case hw7M2 => rfl
        case hy7M2 =>
          intro w hSw
          (try dsimp only at hSw)
          first
          | (go_simp; done)
          | (go_simp; with_reducible rfl)
        try simp only [Act.put, List.setIfInBounds_toArray, List.set_cons_zero, List.set_cons_succ]
        refine wpAnyH_take (i := 8) (oi := ?oi8M2) (v := ?v8M2) ?oi0_8M2 (by kernel_rfl) ?ff8M2 ?rr8M2 ?hq8M2 (Or.inl ⟨?hw8M2, ?hy8M2⟩) (by assumption) ?rest8M2
        case oi0_8M2 =>
          conv =>
            lhs
            whnf
            arg 1
            whnf
        case hq8M2 => exact fun _ _ _ h => h
        case ff8M2 => kernel_rfl
        case rr8M2 => kernel_rfl
        case hw8M2 => rfl
        case hy8M2 =>
          intro w hSw
          (try dsimp only at hSw)
          first
          | (go_simp; done)
          | (go_simp; with_reducible rfl)
        try simp only [Act.put, List.setIfInBounds_toArray, List.set_cons_zero, List.set_cons_succ]
        refine wpAnyH_take (i := 10) (oi := ?oi10M3) (v := ?v10M3) ?oi0_10M3 (by kernel_rfl) ?ff10M3 ?rr10M3 ?hq10M3 (Or.inl ⟨?hw10M3, ?hy10M3⟩) (by assumption) ?rest10M3
        case oi0_10M3 =>
          conv =>
            lhs
            whnf
            arg 1
            whnf
        case hq10M3 => exact fun _ _ _ h => h
        case ff10M3 => kernel_rfl
        case rr10M3 => kernel_rfl
        case hw10M3 => rfl
        case hy10M3 =>
          intro w hSw
          (try dsimp only at hSw)
          first
          | (go_simp; done)
          | (go_simp; with_reducible rfl)
        try simp only [Act.put, List.setIfInBounds_toArray, List.set_cons_zero, List.set_cons_succ]
        refine wpAnyH_take (i := 11) (oi := ?oi11M3) (v := ?v11M3) ?oi0_11M3 (by kernel_rfl) ?ff11M3 ?rr11M3 ?hq11M3 (Or.inl ⟨?hw11M3, ?hy11M3⟩) (by assumption) ?rest11M3
        case oi0_11M3 =>
          conv =>
            lhs
            whnf
            arg 1
            whnf
        case hq11M3 => exact fun _ _ _ h => h
        case ff11M3 => kernel_rfl
        case rr11M3 => kernel_rfl
        case hw11M3 => rfl
        case hy11M3 =>
          intro w hSw
          (try dsimp only at hSw)
          first
          | (go_simp; done)
          | (go_simp; with_reducible rfl)
        try simp only [Act.put, List.setIfInBounds_toArray, List.set_cons_zero, List.set_cons_succ]
        refine wpAnyH_take (i := 12) (oi := ?oi12M3) (v := ?v12M3) ?oi0_12M3 (by kernel_rfl) ?ff12M3 ?rr12M3 ?hq12M3 (Or.inl ⟨?hw12M3, ?hy12M3⟩) (by assumption) ?rest12M3
        case oi0_12M3 =>
          conv =>
            lhs
            whnf
            arg 1
            whnf
        case hq12M3 => exact fun _ _ _ h => h
        case ff12M3 => kernel_rfl
        case rr12M3 => kernel_rfl
        case hw12M3 => rfl
        case hy12M3 =>
          intro w hSw
          (try dsimp only at hSw)
          first
          | (go_simp; done)
          | (go_simp; with_reducible rfl)
        try simp only [Act.put, List.setIfInBounds_toArray, List.set_cons_zero, List.set_cons_succ]
        refine wpAnyH_take (i := 13) (oi := ?oi13M3) (v := ?v13M3) ?oi0_13M3 (by kernel_rfl) ?ff13M3 ?rr13M3 ?hq13M3 (Or.inl ⟨?hw13M3, ?hy13M3⟩) (by assumption) ?rest13M3
        case oi0_13M3 =>
          conv =>
            lhs
            whnf
            arg 1
            whnf
        case hq13M3 => exact fun _ _ _ h => h
        case ff13M3 => kernel_rfl
        case rr13M3 => kernel_rfl
        case hw13M3 => rfl
        case hy13M3 =>
          intro w hSw
          (try dsimp only at hSw)
          first
          | (go_simp; done)
          | (go_simp; with_reducible rfl)
        try simp only [Act.put, List.setIfInBounds_toArray, List.set_cons_zero, List.set_cons_succ]
        refine wpAnyH_take (i := 14) (oi := ?oi14M3) (v := ?v14M3) ?oi0_14M3 (by kernel_rfl) ?ff14M3 ?rr14M3 ?hq14M3 (Or.inl ⟨?hw14M3, ?hy14M3⟩) (by assumption) ?rest14M3
        case oi0_14M3 =>
          conv =>
            lhs
            whnf
            arg 1
            whnf
        case hq14M3 => exact fun _ _ _ h => h
        case ff14M3 => kernel_rfl
        case rr14M3 => kernel_rfl
        case hw14M3 => rfl
        case hy14M3 =>
          intro w hSw
          (try dsimp only at hSw)
          first
          | (go_simp; done)
          | (go_simp; with_reducible rfl)
        try simp only [Act.put, List.setIfInBounds_toArray, List.set_cons_zero, List.set_cons_succ]
        refine wpAnyH_take (i := 15) (oi := ?oi15M3) (v := ?v15M3) ?oi0_15M3 (by kernel_rfl) ?ff15M3 ?rr15M3 ?hq15M3 (Or.inl ⟨?hw15M3, ?hy15M3⟩) (by assumption) ?rest15M3
        case oi0_15M3 =>
          conv =>
            lhs
            whnf
            arg 1
            whnf
        case hq15M3 => exact fun _ _ _ h => h
        case ff15M3 => kernel_rfl
        case rr15M3 => kernel_rfl
        case hw15M3 => rfl
        case hy15M3 =>
          intro w hSw
          (try dsimp only at hSw)
          first
          | (go_simp; done)
          | (go_simp; with_reducible rfl)
        try simp only [Act.put, List.setIfInBounds_toArray, List.set_cons_zero, List.set_cons_succ]
        refine wpAnyH_take (i := 16) (oi := ?oi16M3) (v := ?v16M3) ?oi0_16M3 (by kernel_rfl) ?ff16M3 ?rr16M3 ?hq16M3 (Or.inl ⟨?hw16M3, ?hy16M3⟩) (by assumption) ?rest16M3
        case oi0_16M3 =>
          conv =>
            lhs
            whnf
            arg 1
            whnf
        case hq16M3 => exact fun _ _ _ h => h
        case ff16M3 => kernel_rfl
        case rr16M3 => kernel_rfl
        case hw16M3 => rfl
        case hy16M3 =>
          intro w hSw
          (try dsimp only at hSw)
          first
          | (go_simp; done)
          | (go_simp; with_reducible rfl)
        try simp only [Act.put, List.setIfInBounds_toArray, List.set_cons_zero, List.set_cons_succ]
        refine wpAnyH_take (i := 17) (oi := ?oi17M3) (v := ?v17M3) ?oi0_17M3 (by kernel_rfl) ?ff17M3 ?rr17M3 ?hq17M3 (Or.inl ⟨?hw17M3, ?hy17M3⟩) (by assumption) ?rest17M3
        case oi0_17M3 =>
          conv =>
            lhs
            whnf
            arg 1
            whnf
        case hq17M3 => exact fun _ _ _ h => h
        case ff17M3 => kernel_rfl
        case rr17M3 => kernel_rfl
        case hw17M3 => rfl
        case hy17M3 =>
          intro w hSw
          (try dsimp only at hSw)
          first
          | (go_simp; done)
          | (go_simp; with_reducible rfl)
        try simp only [Act.put, List.setIfInBounds_toArray, List.set_cons_zero, List.set_cons_succ]
        refine wpAnyH_take (i := 18) (oi := ?oi18M3) (v := ?v18M3) ?oi0_18M3 (by kernel_rfl) ?ff18M3 ?rr18M3 ?hq18M3 (Or.inl ⟨?hw18M3, ?hy18M3⟩) (by assumption) ?rest18M3
        case oi0_18M3 =>
          conv =>
            lhs
            whnf
            arg 1
            whnf
        case hq18M3 => exact fun _ _ _ h => h
        case ff18M3 => kernel_rfl
        case rr18M3 => kernel_rfl
        case hw18M3 => rfl
        case hy18M3 =>
          intro w hSw
          (try dsimp only at hSw)
          first
          | (go_simp; done)
          | (go_simp; with_reducible rfl)
        try simp only [Act.put, List.setIfInBounds_toArray, List.set_cons_zero, List.set_cons_succ]
        refine wpAnyH_take (i := 19) (oi := ?oi19M3) (v := ?v19M3) ?oi0_19M3 (by kernel_rfl) ?ff19M3 ?rr19M3 ?hq19M3 (Or.inl ⟨?hw19M3, ?hy19M3⟩) (by assumption) ?rest19M3
        case oi0_19M3 =>
          conv =>
            lhs
            whnf
            arg 1
            whnf
        case hq19M3 => exact fun _ _ _ h => h
        case ff19M3 => kernel_rfl
        case rr19M3 => kernel_rfl
        case hw19M3 => rfl
        case hy19M3 =>
          intro w hSw
          (try dsimp only at hSw)
          first
          | (go_simp; done)
          | (go_simp; with_reducible rfl)
        try simp only [Act.put, List.setIfInBounds_toArray, List.set_cons_zero, List.set_cons_succ]
        refine wpAnyH_take (i := 20) (oi := ?oi20M3) (v := ?v20M3) ?oi0_20M3 (by kernel_rfl) ?ff20M3 ?rr20M3 ?hq20M3 (Or.inl ⟨?hw20M3, ?hy20M3⟩) (by assumption) ?rest20M3
        case oi0_20M3 =>
          conv =>
            lhs
            whnf
            arg 1
            whnf
        case hq20M3 => exact fun _ _ _ h => h
        case ff20M3 => kernel_rfl
        case rr20M3 => kernel_rfl
        case hw20M3 => rfl
        case hy20M3 =>
          intro w hSw
          (try dsimp only at hSw)
          first
          | (go_simp; done)
          | (go_simp; with_reducible rfl)
        try simp only [Act.put, List.setIfInBounds_toArray, List.set_cons_zero, List.set_cons_succ]
        refine wpAnyH_take (i := 21) (oi := ?oi21M3) (v := ?v21M3) ?oi0_21M3 (by kernel_rfl) ?ff21M3 ?rr21M3 ?hq21M3 (Or.inl ⟨?hw21M3, ?hy21M3⟩) (by assumption) ?rest21M3
        case oi0_21M3 =>
          conv =>
            lhs
            whnf
            arg 1
            whnf
        case hq21M3 => exact fun _ _ _ h => h
        case ff21M3 => kernel_rfl
        case rr21M3 => kernel_rfl
        case hw21M3 => rfl
        case hy21M3 =>
          intro w hSw
          (try dsimp only at hSw)
          first
          | (go_simp; done)
          | (go_simp; with_reducible rfl)
        try simp only [Act.put, List.setIfInBounds_toArray, List.set_cons_zero, List.set_cons_succ]
        refine wpAnyH_take (i := 22) (oi := ?oi22M3) (v := ?v22M3) ?oi0_22M3 (by kernel_rfl) ?ff22M3 ?rr22M3 ?hq22M3 (Or.inl ⟨?hw22M3, ?hy22M3⟩) (by assumption) ?rest22M3
        case oi0_22M3 =>
          conv =>
            lhs
            whnf
            arg 1
            whnf
        case hq22M3 => exact fun _ _ _ h => h
        case ff22M3 => kernel_rfl
        case rr22M3 => kernel_rfl
        case hw22M3 => rfl
        case hy22M3 =>
          intro w hSw
          (try dsimp only at hSw)
          first
          | (go_simp; done)
          | (go_simp; with_reducible rfl)
        try simp only [Act.put, List.setIfInBounds_toArray, List.set_cons_zero, List.set_cons_succ]
        refine wpAnyH_take (i := 24) (oi := ?oi24M4) (v := ?v24M4) ?oi0_24M4 (by kernel_rfl) ?ff24M4 ?rr24M4 ?hq24M4 (Or.inl ⟨?hw24M4, ?hy24M4⟩) (by assumption) ?rest24M4
        case oi0_24M4 =>
          conv =>
            lhs
            whnf
            arg 1
            whnf
        case hq24M4 => exact fun _ _ _ h => h
        case ff24M4 => kernel_rfl
        case rr24M4 => kernel_rfl
        case hw24M4 => rfl
        case hy24M4 =>
          intro w hSw
          (try dsimp only at hSw)
          first
          | (go_simp; done)
          | (go_simp; with_reducible rfl)
        try simp only [Act.put, List.setIfInBounds_toArray, List.set_cons_zero, List.set_cons_succ]
        refine wpAnyH_take (i := 25) (oi := ?oi25M4) (v := ?v25M4) ?oi0_25M4 (by kernel_rfl) ?ff25M4 ?rr25M4 ?hq25M4 (Or.inl ⟨?hw25M4, ?hy25M4⟩) (by assumption) ?rest25M4
        case oi0_25M4 =>
          conv =>
            lhs
            whnf
            arg 1
            whnf
        case hq25M4 => exact fun _ _ _ h => h
        case ff25M4 => kernel_rfl
        case rr25M4 => kernel_rfl
        case hw25M4 => rfl
        case hy25M4 =>
          intro w hSw
          (try dsimp only at hSw)
          first
          | (go_simp; done)
          | (go_simp; with_reducible rfl)
        try simp only [Act.put, List.setIfInBounds_toArray, List.set_cons_zero, List.set_cons_succ]
        refine wpAnyH_take (i := 26) (oi := ?oi26M4) (v := ?v26M4) ?oi0_26M4 (by kernel_rfl) ?ff26M4 ?rr26M4 ?hq26M4 (Or.inl ⟨?hw26M4, ?hy26M4⟩) (by assumption) ?rest26M4
        case oi0_26M4 =>
          conv =>
            lhs
            whnf
            arg 1
            whnf
        case hq26M4 => exact fun _ _ _ h => h
        case ff26M4 => kernel_rfl
        case rr26M4 => kernel_rfl
        case hw26M4 => rfl
        case hy26M4 =>
          intro w hSw
          (try dsimp only at hSw)
          first
          | (go_simp; done)
          | (go_simp; with_reducible rfl)
        try simp only [Act.put, List.setIfInBounds_toArray, List.set_cons_zero, List.set_cons_succ]
        refine wpAnyH_take (i := 27) (oi := ?oi27M4) (v := ?v27M4) ?oi0_27M4 (by kernel_rfl) ?ff27M4 ?rr27M4 ?hq27M4 (Or.inl ⟨?hw27M4, ?hy27M4⟩) (by assumption) ?rest27M4
        case oi0_27M4 =>
          conv =>
            lhs
            whnf
            arg 1
            whnf
        case hq27M4 => exact fun _ _ _ h => h
        case ff27M4 => kernel_rfl
        case rr27M4 => kernel_rfl
        case hw27M4 => rfl
        case hy27M4 =>
          intro w hSw
          (try dsimp only at hSw)
          first
          | (go_simp; done)
          | (go_simp; with_reducible rfl)
        try simp only [Act.put, List.setIfInBounds_toArray, List.set_cons_zero, List.set_cons_succ]
        refine wpAnyH_take (i := 28) (oi := ?oi28M4) (v := ?v28M4) ?oi0_28M4 (by kernel_rfl) ?ff28M4 ?rr28M4 ?hq28M4 (Or.inl ⟨?hw28M4, ?hy28M4⟩) (by assumption) ?rest28M4
        case oi0_28M4 =>
          conv =>
            lhs
            whnf
            arg 1
            whnf
        case hq28M4 => exact fun _ _ _ h => h
        case ff28M4 => kernel_rfl
        case rr28M4 => kernel_rfl
        case hw28M4 => rfl
        case hy28M4 =>
          intro w hSw
          (try dsimp only at hSw)
          first
          | (go_simp; done)
          | (go_simp; with_reducible rfl)
        try simp only [Act.put, List.setIfInBounds_toArray, List.set_cons_zero, List.set_cons_succ]
        have HG8 := hide (show w.heap.size ≤ wd.heap.size from HU8.out.size)
        refine wpAnyH_ready (rs := [9]) (by kernel_rfl) (by simp) (AllReadyH.cons (o := ?oiM5) ?oi0_M5 (fun K hK => ?_) AllReadyH.nil)
        case oi0_M5 =>
          conv =>
            lhs
            whnf
            arg 1
            whnf
        go_simp
        go_at_call 41
        refine (writing_at jb g ((q + 1 : Nat) : Int) tb wd ((HJB8.out.cell 3).trans rfl)).mono ?_
        rintro e wa ⟨pj, rfl, hpj, u, hW⟩
        replace HJ8 := hide (HJ8.out.upd0 u)
        replace HJB8 := hide (keepB HJB8.out u)
        replace HD8 := hide (HD8.out.upd u (by simp))
        replace HU8 := hide (HU8.out.trans u (by simp))
        replace HT8 := hide (HT8.out.upd0 u)
        have HP_pj := hide hpj
        have HW_pj := hide hW
        clear u hW hpj
        (try dsimp only)
        refine hK.out _ _ (by exact ⟨(HJB8.out.cell 2).trans rfl, (HJB8.out.cell 3).trans rfl⟩) (fun hHeld => ?_)
        clear hK K
        try simp only [Act.put, List.setIfInBounds_toArray, List.set_cons_zero, List.set_cons_succ]
        have HGA := hide (show w.heap.size ≤ wa.heap.size from HU8.out.size)
        refine wpAnyH_ready (rs := [23]) (by kernel_rfl) (by simp) (AllReadyH.cons (o := ?oiM6) ?oi0_M6 (fun K hK => ?_) AllReadyH.nil)
        case oi0_M6 =>
          conv =>
            lhs
            whnf
            arg 1
            whnf
        go_simp
        go_at_call 41
        refine (writing_at jb g (q : Int) cb wa ((HJB8.out.cell 3).trans rfl)).mono ?_
        rintro e wb ⟨pk, rfl, hpk, u, hW⟩
        replace HJ8 := hide (HJ8.out.upd0 u)
        replace HJB8 := hide (keepB HJB8.out u)
        replace HD8 := hide (HD8.out.upd u (by simp))
        replace HU8 := hide (HU8.out.trans u (by simp))
        replace HT8 := hide (HT8.out.upd0 u)
        replace HW_pj := hide (HW_pj.out.upd0 u)
        have HP_pk := hide hpk
        have HW_pk := hide hW
        clear u hW hpk
        (try dsimp only)
        refine hK.out _ _ (by exact ⟨(HJB8.out.cell 2).trans rfl, (HJB8.out.cell 3).trans rfl⟩) (fun hHeld => ?_)
        clear hK K
        try simp only [Act.put, List.setIfInBounds_toArray, List.set_cons_zero, List.set_cons_succ]
        have HGS := hide (show w.heap.size ≤ wb.heap.size from HU8.out.size)
        refine wpAnyH_ready (rs := [29]) (by kernel_rfl) (by simp) (AllReadyH.cons (o := ?oiM7) ?oi0_M7 (fun K hK => ?_) AllReadyH.nil)
        case oi0_M7 =>
          conv =>
            lhs
            whnf
            arg 1
            whnf
        go_simp
        obtain ⟨wg, hw⟩ : ∃ x, wb.alloc (.cells #[.func (.func 72) #[] #[.pointer (some ⟨pj, 0, none⟩), .pointer (some ⟨pj + 1, 0, none⟩), .pointer (some ⟨pj + 2, 0, none⟩)], .func (.func 42) #[.pointer (some ⟨g, 0, none⟩)] #[], .func (.func 72) #[] #[.pointer (some ⟨pk, 0, none⟩), .pointer (some ⟨pk + 1, 0, none⟩), .pointer (some ⟨pk + 2, 0, none⟩)], .func (.func 42) #[.pointer (some ⟨g, 0, none⟩)] #[]] 85) = x := ⟨_, rfl⟩
        have u : Upd [] wb wg := by rw [← hw]; exact (Upd.refl [] _).alloc _
        have HG := hide (show Blk wg wb.heap.size 85 [.func (.func 72) #[] #[.pointer (some ⟨pj, 0, none⟩), .pointer (some ⟨pj + 1, 0, none⟩), .pointer (some ⟨pj + 2, 0, none⟩)], .func (.func 42) #[.pointer (some ⟨g, 0, none⟩)] #[], .func (.func 72) #[] #[.pointer (some ⟨pk, 0, none⟩), .pointer (some ⟨pk + 1, 0, none⟩), .pointer (some ⟨pk + 2, 0, none⟩)], .func (.func 42) #[.pointer (some ⟨g, 0, none⟩)] #[]] by rw [← hw]; exact Blk.new wb _ _)
        rw [hw]
        obtain ⟨gs, hgs⟩ : ∃ x, wb.heap.size = x := ⟨_, rfl⟩
        rw [hgs] at HG HGS ⊢
        clear hw hgs
        replace HJ8 := hide (HJ8.out.upd0 u)
        replace HJB8 := hide (keepB HJB8.out u)
        replace HD8 := hide (HD8.out.upd u (by simp))
        replace HU8 := hide (HU8.out.trans u (by simp))
        replace HT8 := hide (HT8.out.upd0 u)
        replace HW_pj := hide (HW_pj.out.upd0 u)
        replace HW_pk := hide (HW_pk.out.upd0 u)
        clear u
        (try dsimp only)
        refine hK.out _ _ (by exact ⟨(HJB8.out.cell 2).trans rfl, (HJB8.out.cell 3).trans rfl⟩) (fun hHeld => ?_)
        clear hK K
        try simp only [Act.put, List.setIfInBounds_toArray, List.set_cons_zero, List.set_cons_succ]
        refine wpAnyH_ready (rs := [30]) (by kernel_rfl) (by simp) (AllReadyH.cons (o := ?oiM8) ?oi0_M8 (fun K hK => ?_) AllReadyH.nil)
        case oi0_M8 =>
          conv =>
            lhs
            whnf
            arg 1
            whnf
        go_simp
        go_at_call 40
        have hnF : ∀ x, w.heap.size ≤ x → x ∉ F := fun x hx h => absurd (HFL.out _ h) (by omega)
        have hjF : jb ∉ F := HDJ.out _ (by simp)
        refine (first_any [.write ((q + 1 : Nat) : Int) tb, .sync, .write (q : Int) cb, .sync] gs g 4 wg rfl (by decide) HD8.out (by have := HP.out; omega) HG.out.lt (hnF _ HGS.out) (fun k o ho => ?_)).mono ?_
        · match k, ho with
          | 0, ho => cases ho; exact ⟨pj, pj + 1, pj + 2, jb, (HG.out.cell 0).trans rfl, HW_pj.out, hnF _ (by have := HG8.out; have := HP_pj.out; omega), hnF _ (by have := HG8.out; have := HP_pj.out; omega), hnF _ (by have := HG8.out; have := HP_pj.out; omega), hjF⟩
          | 1, ho => cases ho; exact (HG.out.cell 1).trans rfl
          | 2, ho => cases ho; exact ⟨pk, pk + 1, pk + 2, jb, (HG.out.cell 2).trans rfl, HW_pk.out, hnF _ (by have := HGA.out; have := HP_pk.out; omega), hnF _ (by have := HGA.out; have := HP_pk.out; omega), hnF _ (by have := HGA.out; have := HP_pk.out; omega), hjF⟩
          | 3, ho => cases ho; exact (HG.out.cell 3).trans rfl
        rintro e w9 ⟨rfl, hm⟩
        obtain ⟨r, hr⟩ : ∃ r, runOps D [.write ((q + 1 : Nat) : Int) tb, .sync, .write (q : Int) cb, .sync] = r := ⟨_, rfl⟩
        rw [hr] at hm ⊢
        obtain ⟨F', hD9, hU9, hF9⟩ := hm
        have hAF : ∀ k, (A.map (·.block)) = some k → k ∉ F := fun k hk => HDJ.out _ (by simp [hk])
        have HJ9 := hide (HJ8.out.stay hU9 hjF hAF)
        have HJB9 := hide (HJB8.out.upd hU9 hjF)
        have HBF := hide (show B ∉ F from hnF _ (by have := HBB.out; omega))
        have HA3 := hide (show ∀ k, (A3.map (·.block)) = some k → w.heap.size ≤ k from fun k hk => tape_ge HT8.out (by have := HBB.out; omega) k (by simp [hk]))
        have HT9 := hide (HT8.out.stay hU9 HBF.out (fun k hk => hnF _ (HA3.out k hk)))
        have HD9 := hide hD9
        have HF9 := hide (show ∀ k ∈ F', k ∈ F ∨ w.heap.size ≤ k from fun k hk => (hF9 k hk).imp id (fun h => Nat.le_trans HU8.out.size h))
        have HF9B := hide (show ∀ k, k < wg.heap.size → k ∉ F → k ∉ F' from fun k h1 h2 hF => (hF9 k hF).elim h2 (by omega))
        have HSG := hide (show ∀ k, k = jb ∨ (A.map (·.block)) = some k ∨ (A3.map (·.block)) = some k → k < wg.heap.size from fun k hk => by
          rcases hk with rfl | hk | hk
          · exact HJB8.out.lt
          · exact it_own_lt HJ8.out.2.2 k (by rw [ownBlock_slice]; simpa using hk)
          · exact it_own_lt HT8.out.2.2 k (by rw [ownBlock_slice]; simpa using hk))
        have HU9 := hide ((HU8.out.mono (l' := F) (by simp)).trans hU9 (fun x hx => .inl hx))
        have HRR := hide (show runOps D [.write ((T.size : Int) + 1) ⟨t.toArray⟩, .sync, .write (T.size : Int) ⟨#[ch]⟩, .sync] = r by rw [HQ.out, HTB.out, show (⟨#[ch]⟩ : ByteArray) = ⟨[ch].toArray⟩ from rfl, HCB.out, ← Int.natCast_succ]; exact hr)
        have HNF := hide hnF
        have HJF := hide hjF
        have HAF := hide hAF
        clear hD9 hU9 hF9 hr hnF hjF hAF
        obtain ⟨er, her⟩ : ∃ x, r.2 = x := ⟨_, rfl⟩
        rw [her]
        (try dsimp only)
        refine hK.out _ _ (by exact ⟨(HJB9.out.cell 2).trans rfl, (HJB9.out.cell 3).trans rfl⟩) (fun hHeld => ?_)
        clear hK K
        try simp only [Act.put, List.setIfInBounds_toArray, List.set_cons_zero, List.set_cons_succ]
        refine wpAnyH_take (i := 31) (oi := ?oi31M9) (v := ?v31M9) ?oi0_31M9 (by kernel_rfl) ?ff31M9 ?rr31M9 ?hq31M9 (Or.inl ⟨?hw31M9, ?hy31M9⟩) (by assumption) ?rest31M9
        case oi0_31M9 =>
          conv =>
            lhs
            whnf
            arg 1
            whnf
        case hq31M9 => exact fun _ _ _ h => h
        case ff31M9 => kernel_rfl
        case rr31M9 => kernel_rfl
        case hw31M9 => rfl
        case hy31M9 =>
          intro w hSw
          (try dsimp only at hSw)
          first
          | (go_simp; done)
          | (go_simp; with_reducible rfl)
        try simp only [Act.put, List.setIfInBounds_toArray, List.set_cons_zero, List.set_cons_succ]
        refine wpAnyH_done (by kernel_rfl) ?_ _
        have HFIT := hide (show ¬ D.sure.length - T.size < (ch :: t).length by rw [HNs.out, HQ.out, HRM.out, List.length_cons]; have := HOLL.out; omega)
        by_cases he0 : er = 0
        case neg =>
          have heb : ((er : Int) != 0) = true := by simp [he0]
          have HE := hide (show appendS ks T D false l = (T, r.1, true, er) by unfold appendS; rw [if_neg (by rw [HLN.out]; simp), HADK.out]; simp only; rw [if_neg HFIT.out, HRR.out, if_pos (by rw [her]; exact he0), her])
          clear he0 her
          have c4 : w9.cell? ⟨jb, 4, none⟩ = some (.bool false) := (HJB9.out.cell 4).trans rfl
          have f4 := HJB9.out.frozen 4
          go_wp2_with fail
          go_ret
          obtain ⟨wx, hw⟩ : ∃ x, w9.setCell ⟨jb, 4, none⟩ (.bool true) = x := ⟨_, rfl⟩
          rw [hw]
          have u : Upd [jb] w9 wx := by rw [← hw]; exact (Upd.refl _ _).setCell (.inl (by simp)) _
          have hOW := HJ9.out.2.2
          unfold AppendPost
          rw [HE.out]
          refine ⟨rfl, A, c, F', ⟨HJ9.out.1, ?_, own_kept hOW u (fun k hk => by simpa using own_blk_ne hOW HJB9.out (by decide) k hk)⟩, HD9.out.upd u (fun k hk hm => ?_), (HU9.out.mono (l' := jb :: F) (fun x hx => .inl (by simp [hx]))).trans u (fun x hx => .inl (by simp at hx; simp [hx])), HF9.out, fun k hk => .inl hk, fun k hk => ?_⟩
          · rw [← hw]; rw [HN.out, HQ.out]; exact HJB9.out.set_ 4 _
          · have : k = jb := by simpa using hm
            subst this
            exact HF9B.out k (HSG.out _ (.inl rfl)) HJF.out hk
          · refine HF9B.out k (HSG.out _ ?_) (HDJ.out k hk)
            rcases List.mem_cons.1 hk with h | h
            · exact .inl h
            · exact .inr (.inl (by simpa using h))
        have heb : ((er : Int) != 0) = false := by simp [he0]
        have HE := hide (show appendS ks T D false l = (Tk, r.1, false, 0) by unfold appendS; rw [if_neg (by rw [HLN.out]; simp), HADK.out]; simp only; rw [if_neg HFIT.out, HRR.out, if_neg (by rw [her]; simp [he0])])
        clear he0 her
        obtain ⟨N2, hN2⟩ : ∃ x, Tk.recs.length = x := ⟨_, rfl⟩
        obtain ⟨q2, hq2⟩ : ∃ x, Tk.size = x := ⟨_, rfl⟩
        have HBT := hide (show Blk w9 B 72 [.slice A3 N2 c3, .string ⟨Tk.head.toArray⟩, .int .i64 (q2 : Int)] by rw [← hN2, ← hq2]; exact HT9.out.2.1)
        have HN2 := hide hN2
        have HQ2 := hide hq2
        clear hN2 hq2
        have b0 : w9.cell? ⟨B, 0, none⟩ = some (.slice A3 N2 c3) := (HBT.out.cell 0).trans rfl
        have b1 : w9.cell? ⟨B, 1, none⟩ = some (.string ⟨Tk.head.toArray⟩) := (HBT.out.cell 1).trans rfl
        have b2 : w9.cell? ⟨B, 2, none⟩ = some (.int .i64 (q2 : Int)) := (HBT.out.cell 2).trans rfl
        have c0 : w9.cell? ⟨jb, 0, none⟩ = some (.slice A N c) := (HJB9.out.cell 0).trans rfl
        have f0 := HJB9.out.frozen 0
        have c1 : w9.cell? ⟨jb, 1, none⟩ = some (.string ⟨T.head.toArray⟩) := (HJB9.out.cell 1).trans rfl
        have f1 := HJB9.out.frozen 1
        have c2 : w9.cell? ⟨jb, 2, none⟩ = some (.int .i64 (q : Int)) := (HJB9.out.cell 2).trans rfl
        have f2 := HJB9.out.frozen 2
        go_wp2_with fail
        go_ret
        obtain ⟨wx, hw⟩ : ∃ x, ((w9.setCell ⟨jb, 0, none⟩ (.slice A3 N2 c3)).setCell ⟨jb, 1, none⟩ (.string ⟨Tk.head.toArray⟩)).setCell ⟨jb, 2, none⟩ (.int .i64 (q2 : Int)) = x := ⟨_, rfl⟩
        rw [hw]
        have u : Upd [jb] w9 wx := by rw [← hw]; exact (((Upd.refl _ _).setCell (.inl (by simp)) _).setCell (.inl (by simp)) _).setCell (.inl (by simp)) _
        have hOW := HT9.out.2.2
        have hBB : w.heap.size ≤ B := by have := HBB.out; omega
        have hbj : base ≤ jb ∧ jb < w.heap.size := ⟨HJ.out.1, HJB.out.lt⟩
        unfold AppendPost
        rw [HE.out]
        refine ⟨rfl, A3, c3, F', ⟨hbj.1, ?_, it_own_less (own_kept hOW u (fun k hk => by simpa using own_blk_ne hOW HJB9.out (by decide) k hk)) (by have := HBASE.out; omega)⟩, HD9.out.upd u (fun k hk hm => ?_), (HU9.out.mono (l' := jb :: F) (fun x hx => .inl (by simp [hx]))).trans u (fun x hx => .inl (by simp at hx; simp [hx])), HF9.out, fun k hk => .inr (HA3.out k (by simpa using hk)), fun k hk => ?_⟩
        · rw [← hw, HN2.out, HQ2.out]; exact ((HJB9.out.set_ 0 _).set_ 1 _).set_ 2 _
        · have : k = jb := by simpa using hm
          subst this
          exact HF9B.out k (HSG.out _ (.inl rfl)) HJF.out hk
        · rcases List.mem_cons.1 hk with h | h
          · subst h; exact HF9B.out k (HSG.out _ (.inl rfl)) HJF.out
          · have h3 : (A3.map (·.block)) = some k := by simpa using h
            exact HF9B.out k (HSG.out _ (.inr (.inr h3))) (HNF.out _ (HA3.out k h3))
end Go.Proofs.YtafjolibfbccbaaGreatDoor
