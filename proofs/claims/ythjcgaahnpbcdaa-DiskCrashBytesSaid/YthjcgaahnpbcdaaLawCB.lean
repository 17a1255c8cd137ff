/-
  The walk of the statement on the bytes behind a crash.
-/
import Derived.Test.YthjcgaahnpbcdaaLawCt
import Derived.Test.YthjcgaahnpbcdaaCBPlain
import Derived.Test.YthjcgaahnpbcdaaMem2
namespace Go.Proofs.Ythjcgaahnpbcdaa
open Go.RowKit
set_option maxRecDepth 100000
set_option maxHeartbeats 1000000

open Go.Deep in
/-- A slice of bools that came in. -/
def BoolsArg (W : World) (a : Option Addr) (len cap : Nat) (ks : List Bool) : Prop :=
  ks.length = len ∧ len ≤ cap ∧ cap ≤ maxLen ∧
  (0 < len → ∃ b off, a = some ⟨b, off, none⟩ ∧ b < W.heap.size ∧ ∀ j, j < len → W.cell? ⟨b, off + j, none⟩ = some (.bool (keepB ks j)))
open Go.Deep Go.ChangeShapes in
theorem open_bools {H : Type} {enc : TypeId × Value → H} {w : World} {base : Nat} {spare : Nat → Bool} {held : Bool} {a : Option Addr} {len cap : Nat} {d : DataW H} {p : List MemPlace}
    (h : DataW.Trod enc Try.prog w base spare held 58 (.slice a len cap) d p) : ∃ ks, BoolsArg w a len cap ks := by
  obtain ⟨fuel, hf⟩ := h
  rcases open_slice1 Try.underlying58 (by kernel_rfl) hf with ⟨hcs, _⟩ | ⟨x, l, c, m, n, V, Dt, Pl, hcs, _, hl, hm, hmm, _, hi⟩
  · simp [Value.cells] at hcs
    obtain ⟨rfl, rfl, rfl⟩ := hcs
    exact ⟨[], rfl, Nat.le_refl _, Nat.zero_le _, fun h => by omega⟩
  · simp [Value.cells] at hcs
    obtain ⟨rfl, rfl, rfl⟩ := hcs
    have hle : len ≤ m := by rw [hmm]; split <;> omega
    obtain ⟨ks, hk, hks⟩ := choose_list (n := len) (R := fun j (b : Bool) => w.cell? (x.add j) = some (.bool b)) (fun j hj => by
      obtain ⟨h1, h2⟩ := hi j (by omega)
      obtain ⟨b, hb, _⟩ := DataW.trod_bool Try.underlying4 h2
      simp at hb
      exact ⟨b, by rw [h1, hb]⟩)
    refine ⟨ks, hk, hl, hm, fun h0 => ?_⟩
    have hc0 := hks 0 (ks[0]'(by omega)) (List.getElem?_eq_getElem _)
    have hs := spot_of hc0 rfl
    have hb := World.block_lt_of_cell? w _ hc0
    rw [plain_add hs] at hb
    refine ⟨x.block, x.off, by obtain ⟨b, o, s⟩ := x; simp only at hs; subst hs; rfl, hb, fun j hj => ?_⟩
    have := hks j (ks[j]'(by omega)) (List.getElem?_eq_getElem _)
    rw [plain_add hs] at this
    rw [this]
    simp [keepB, hk, hj]

/-- The bytes with which the disk begins. -/
def seedB (i : Nat) : UInt8 := UInt8.ofNat (48 + i % 10)
def seedTo (n k : Nat) : List UInt8 := (List.range k).map seedB ++ List.replicate (n - k) 0
theorem seedTo_length {n k : Nat} (h : k ≤ n) : (seedTo n k).length = n := by simp [seedTo]; omega
theorem seed_cell (i : Nat) : bCell (seedB i) = .int .u8 (48 + (i : Int) % 10) := by
  unfold bCell seedB
  congr 1
  rw [UInt8.toNat_ofNat']
  omega
theorem seedTo_succ {n k : Nat} (h : k < n) : (bCells (seedTo n k)).set k (.int .u8 (48 + (k : Int) % 10)) = bCells (seedTo n (k + 1)) := by
  rw [← seed_cell]
  unfold seedTo bCells
  rw [List.map_append, List.map_append, List.set_append_right _ _ (by simp), List.range_succ]
  obtain ⟨m, hm⟩ : ∃ m, n - k = m + 1 := ⟨n - k - 1, by omega⟩
  rw [hm, show n - (k + 1) = m by omega, List.replicate_succ]
  simp
/-- The k first writes as they lie on the disk. -/
def wrAt (n : Nat) (zs : List WriteP) (i : Nat) : Nat × List UInt8 := (fitOff n (zs[i]?.getD (0, ByteArray.empty, false)), fitS n (zs[i]?.getD (0, ByteArray.empty, false)))
structure CBSt (n k : Nat) (zs : List WriteP) (D : DiskS) : Prop where
  calm : Calm n k D
  sure : D.sure = seedTo n n
  pend : D.pend = (List.range k).map (wrAt n zs)
theorem cb_start (n : Nat) (zs : List WriteP) : CBSt n 0 zs { off := false, left := 0, sure := seedTo n n, vis := seedTo n n, pend := [] } := ⟨⟨rfl, rfl, seedTo_length (Nat.le_refl _), Nat.le_refl _⟩, rfl, rfl⟩
theorem cb_write {n k : Nat} {zs : List WriteP} {D : DiskS} (h : CBSt n k zs D) {fo : Nat} {fs : List UInt8} (hw : wrAt n zs k = (fo, fs)) : CBSt n (k + 1) zs { D with pend := D.pend ++ [(fo, fs)], vis := put D.vis fo fs } := by
  refine ⟨calm_write h.calm fo fs, h.sure, ?_⟩
  rw [List.range_succ, List.map_append, ← h.pend]
  simp [hw]
theorem cb_kept {n M : Nat} {zs : List WriteP} {ks : List Bool} {D : DiskS} (h : CBSt n M zs D) : D.kept ((idx ks M).reverse.map fun i : Nat => (i : Int)) = (idx ks M).map (wrAt n zs) := by
  unfold DiskS.kept
  rw [show D.pend.length = M by rw [h.pend]; simp, order_idx]
  apply List.map_congr_left
  intro i hi
  have : i < M := by simp [idx] at hi; exact hi.1
  rw [h.pend]
  simp [this]

theorem put_whole {n : Nat} (s : List UInt8) (b : List UInt8) (h : s.length = n) (hb : b.length = n) : put b 0 s = s := by
  unfold put
  rw [List.drop_eq_nil_of_le (by omega)]
  simp
theorem cb_len (n : Nat) (zs : List WriteP) (torn : Int) (il : List Nat) (j : Nat) : (puts (seedTo n n) ((lastTorn torn (il.map (wrAt n zs))).take j)).length = n := by
  have h0 := seedTo_length (Nat.le_refl n)
  rw [puts_length, h0]
  intro p hp
  rw [h0]
  have hp := List.mem_of_mem_take hp
  simp only [lastTorn, List.mem_mapIdx, List.getElem_map, List.length_map] at hp
  obtain ⟨i, hi, rfl⟩ := hp
  have h1 : (wrAt n zs il[i]).1 + (wrAt n zs il[i]).2.length ≤ n := fitS_le n _
  split
  · have h2 : ((wrAt n zs il[i]).2.take torn.toNat).length ≤ (wrAt n zs il[i]).2.length := by simp; omega
    simp only
    omega
  · exact h1
theorem cb_first (n : Nat) : (DiskS.fresh n).write 0 (seedTo n n) = ({ DiskS.fresh n with pend := [(0, seedTo n n)], vis := seedTo n n }, 0) := by
  have h := write_calm (calm_fresh n) (off := 0) (s := seedTo n n) (by rw [seedTo_length (Nat.le_refl _)]; omega)
  rw [put_whole _ _ (seedTo_length (Nat.le_refl _)) (by simp [DiskS.fresh])] at h
  exact h
theorem cb_sync (n : Nat) : ({ DiskS.fresh n with pend := [(0, seedTo n n)], vis := seedTo n n } : DiskS).sync = ({ off := false, left := 0, sure := seedTo n n, vis := seedTo n n, pend := [] }, 0) := by
  simp [DiskS.sync, DiskS.settled, DiskS.fresh]
theorem cut_str_any (s : ByteArray) (n : Int) (w : World) (hs : s.size ≤ maxLen) (h0 : 0 ≤ n) (h1 : n ≤ 9223372036854775807) :
    Calls Try.prog 22 #[.string s, .int .i64 n] w fun e w' => e = .returned (.string ⟨(s.data.toList.take n.toNat).toArray⟩) ∧ w = w' := by
  unfold maxLen at hs
  have hx : (⟨(s.data.toList.take n.toNat).toArray⟩ : ByteArray) = s.extract 0 (min (s.size : Int) n).toNat := by
    apply ByteArray.ext
    apply Array.toList_inj.1
    rw [Lib.extract_data]
    simp only [List.drop_zero, Nat.sub_zero]
    by_cases h : (s.size : Int) ≤ n
    · rw [Int.min_eq_left h, List.take_of_length_le (by rw [← Lib.size_eq]; omega), List.take_of_length_le (by rw [← Lib.size_eq]; omega)]
    · rw [Int.min_eq_right (by omega)]
  have H := hide hx
  clear hx
  go_enter Try.func22, Try.ntmps22
  go_wp2
  go_ret
  exact ⟨by rw [H.out]; rfl, rfl⟩

theorem crash_calm {n : Nat} {D : DiskS} {keep : List Int} {torn : Int} (h1 : (D.crash keep torn).sure.length = n) : Calm n 0 (D.crash keep torn) := ⟨rfl, rfl, h1, Nat.le_refl _⟩

theorem diskCrashBytes_walk (a0 : Int) (a1 : Option Addr) (len1 cap1 : Nat) (z1 : List WriteP) (a2 : Option Addr) (len2 cap2 : Nat) (z2 : List Bool) (a3 : Int) (w : World) (w0 : (Lit.int .i64 a0).wf = true) (w1 : WritesArg w a1 len1 cap1 z1) (w2 : BoolsArg w a2 len2 cap2 z2) (w3 : (Lit.int .i64 a3).wf = true) :
    Calls Try.prog 8 #[.int .i64 a0, .slice a1 len1 cap1, .slice a2 len2 cap2, .int .i64 a3] w fun e w' => e = .returned (.bool true) ∧ Below w.heap.size w w' := by
  have hl2 : len2 ≤ 9223372036854775807 := by have := w2.2.1; have := w2.2.2.1; unfold maxLen at this; omega
  have HL2 := hide hl2
  have W2 := hide w2
  clear hl2 w2
  have V3 := hide (bounds_i64 w3).2
  clear w3
  have hl : len1 ≤ 9223372036854775807 := by have := w1.2.1; have := w1.2.2.1; unfold maxLen at this; omega
  obtain ⟨n, hn, hn1, hn2⟩ := size_of_pick a0 100 (by omega) (by omega)
  have HN := hide hn
  have HL := hide hl
  have W0 := hide w0
  have W1 := hide w1
  clear hn hl w0 w1
  have hmk := fun W => make_bytes n hn2 W
  go_enter Try.func8, Try.ntmps8
  go_wp2_with fail
  refine (sane_any w).mono ?_
  rintro e w1 ⟨rfl, b1⟩
  have B1 := hide b1
  clear b1
  go_wp2_with fail
  refine (pick_any a0 100 w1 W0.out (by omega) (by omega)).mono ?_
  rintro e w' ⟨rfl, rfl⟩
  have hpk := pickN_lt a0 (n := 100) (by omega)
  obtain ⟨q1, q2⟩ := hpk
  go_wp2_with fail
  rw [show 1 + pickN a0 100 = (n : Int) from HN.out]
  clear q1 q2
  refine (new_in n w.heap.size w w1 B1.out B1.out.size [] (by simp) hn1 hn2).mono ?_
  rintro e w2 ⟨g, rfl, d2, _, _⟩
  have gb2 := (Blk.new w2 5 (bCells (List.replicate n 0)))
  have H3 := hide (d2.more ((Upd.refl [] w2).alloc (.cells (bCells (List.replicate n 0)).toArray 5)) w2.heap.size (Nat.le_refl _) (by simp))
  have G3 := hide gb2
  have hB2 := hide d2.room
  clear d2 gb2
  go_wp2_with fail
  clear hmk
  obtain ⟨gb, Eg⟩ : ∃ gb, Hid (w2.heap.size = gb) := ⟨_, rfl⟩
  have hgw := Nat.le_trans hB2.out (Nat.le_refl _)
  rw [Eg.out] at G3 H3 hgw ⊢
  have HG := hide hgw
  clear hgw hB2
  have HPL : Hid (∀ M m, (puts (seedTo n n) ((lastTorn a3 ((idx z2 M).map (wrAt n z1))).take m)).length = n) := fun M m => cb_len n z1 a3 (idx z2 M) m
  go_loopw [13] (fun i wr => ∃ k : Nat, k ≤ n ∧ i = .int .i64 k ∧ DiskIn w.heap.size [gb] w wr g (DiskS.fresh n) ∧ Blk wr gb 5 (bCells (seedTo n k)))
    (fun i _ => n - (intOf i).toNat)
  case atStart => exact ⟨0, Nat.zero_le _, rfl, H3.out, by simpa [seedTo] using G3.out⟩
  case round =>
    obtain ⟨k, hk, rfl, hd, hg⟩ := hrel
    have HD := hide hd
    have HB := hide hg
    clear hd hg
    by_cases hkn : k < n
    · obtain ⟨u, hu⟩ : ∃ u, wr.cell? ⟨gb, k, none⟩ = some u := by
        have hl := seedTo_length hk
        rw [HB.out.cell, bCells, List.getElem?_map, List.getElem?_eq_getElem (by omega)]
        exact ⟨_, rfl⟩
      have hfr : wr.frozen? ⟨gb, k, none⟩ = false := HB.out.frozen _
      go_wp2_with fail
      go_roundw
      case rel =>
        refine ⟨k + 1, by omega, by go_num, HD.out.step ((Upd.refl [gb] wr).setCell (.inl (by simp)) _) (by simp) (by simpa using HG.out), ?_⟩
        have h := HB.out.set_ k (.int .u8 (48 + (k : Int) % 10))
        rw [seedTo_succ hkn] at h
        exact h
      case measure => simp [intOf] <;> omega
    · obtain rfl : n = k := by omega
      obtain ⟨wo, rfl⟩ : ∃ wo : World, wo = wr := ⟨_, rfl⟩
      have cv0 := conv_whole HB.out (n := n) (seedTo_length (Nat.le_refl _))
      have C1 := write_in 0 ⟨(seedTo n n).toArray⟩ HD.out (by simp [DiskS.fresh])
      rw [show (⟨(seedTo n n).toArray⟩ : ByteArray).data.toList = seedTo n n from rfl, cb_first n] at C1
      have WI := hide C1
      clear C1
      go_wp2_with fail
      refine WI.out.mono ?_
      rintro e w4 ⟨rfl, d4, s4⟩
      have H4 := hide d4
      have G4 := hide (s4.blk (by simp) HB.out)
      clear d4 s4 WI cv0
      have C1 := sync_in H4.out
      rw [cb_sync] at C1
      have SI := hide C1
      clear C1
      go_wp2_with fail
      refine SI.out.mono ?_
      rintro e w6 ⟨rfl, d6, s6⟩
      have H6 := hide d6
      have G6 := hide (s6.blk (by simp) G4.out)
      clear d6 s6 SI H4 G4 HD HB
      go_wp2_with fail
      go_loopw [14, 15] (fun v i wr => ∃ k : Nat, k ≤ len1 ∧ k ≤ 20 ∧ i = .int .i64 k ∧ v = .int .i64 (lastOf z2 k) ∧ DiskIn w.heap.size [gb] w wr g { off := false, left := 0, sure := seedTo n n, vis := seedTo n n, pend := [] } ∧ Blk wr gb 5 (bCells (seedTo n n)))
        (fun _ i _ => 20 - (intOf i).toNat)
      case atStart => exact ⟨0, Nat.zero_le _, by omega, rfl, rfl, H6.out, G6.out⟩
      case round =>
        obtain ⟨q, hq, hq20, rfl, rfl, hd, hg⟩ := hrel
        have HD := hide hd
        have HB := hide hg
        clear hd hg
        have HLo := HL.out
        have HLo2 := HL2.out
        by_cases hlt : q < len1
        · by_cases h20 : q < 20
          · by_cases hk2 : q < len2
            · obtain ⟨b2, off2, rfl, hb2W, hcb⟩ := W2.out.2.2.2 (by omega)
              have cb : wr.cell? ⟨b2, off2 + q, none⟩ = some (.bool (keepB z2 q)) := (HD.out.below.cell (p := ⟨b2, off2 + q, none⟩) hb2W).trans (hcb q hk2)
              clear hcb
              cases hkb : keepB z2 q with
              | true =>
                rw [hkb] at cb
                have HK := hide hkb
                clear hkb
                go_wp2_with fail
                go_roundw
                case rel => exact ⟨q + 1, by omega, by omega, by go_num, by rw [lastOf_yes HK.out], HD.out, HB.out⟩
                case measure => simp [intOf] <;> omega
              | false =>
                rw [hkb] at cb
                have HK := hide hkb
                clear hkb
                go_wp2_with fail
                go_roundw
                case rel => exact ⟨q + 1, by omega, by omega, by go_num, by rw [lastOf_no HK.out], HD.out, HB.out⟩
                case measure => simp [intOf] <;> omega
            · have HK := hide (show keepB z2 q = false by simp [keepB, List.getElem?_eq_none (show z2.length ≤ q by rw [W2.out.1]; omega)])
              go_wp2_with fail
              go_roundw
              case rel => exact ⟨q + 1, by omega, by omega, by go_num, by rw [lastOf_no HK.out], HD.out, HB.out⟩
              case measure => simp [intOf] <;> omega
          · skip
            obtain ⟨M, EM⟩ : ∃ M : Nat, M = q := ⟨_, rfl⟩
            have hM2 : M ≤ 20 := by omega
            have hMl2 : M ≤ len1 := by omega
            have hMe2 : M = len1 ∨ M = 20 := by omega
            have hMlt : M < len1 := by omega
            have hM20 : ¬ M < 20 := by omega
            rw [← EM]
            clear EM hq hq20 hlt h20
            go_wp2_with fail
            have hM20 : M ≤ 20 := by omega
            have hMl : M ≤ len1 := by omega
            have hMe : M = len1 ∨ M = 20 := by omega
            have EMe := hide hMe
            clear hMe
            go_loopw [16, 17] (fun v i wr => ∃ (k j : Nat) (D : DiskS) (A : Option Addr) (ca : Nat), k ≤ len1 ∧ k ≤ M ∧ Hid (j = (idx z2 k).length) ∧ i = .int .i64 k ∧ v = .slice A j ca ∧ DiskIn w.heap.size ([gb] ++ (A.map (·.block)).toList) w wr g D ∧
                Blk wr gb 5 (bCells (puts (seedTo n n) ((lastTorn a3 ((idx z2 M).map (wrAt n z1))).take (idx z2 k).length))) ∧ CBSt n k z1 D ∧
                wr.ownsRow w.heap.size 3 1 (.slice A j ca) j (((idx z2 k).reverse.map fun i : Nat => (i : Int)).map (Value.int .i64)))
              (fun _ i _ => M - (intOf i).toNat)
            case atStart => exact ⟨0, 0, _, none, 0, Nat.zero_le _, Nat.zero_le _, show 0 = _ from rfl, rfl, rfl, HD.out, HB.out, cb_start n z1, World.ownsRow_nil _ _ _ _⟩
            case round =>
              obtain ⟨k, j, D, A, ca, hk, hkM, Ej, rfl, rfl, hd, hg, hcm, hrow⟩ := hrel
              have HD := hide hd
              have HB := hide hg
              have HC := hide hcm
              have HR := hide hrow
              clear hd hg hcm hrow
              have HLo := HL.out
              have HLo2 := HL2.out
              by_cases hkm : k < M
              · have hlt : k < len1 := by omega
                have h60 : k < 20 := by omega
                obtain ⟨b, off, x, rfl, hbW, hxi, hx0, hx1, c0, c1, c2⟩ := W1.out.at_ HD.out.below hlt
                obtain ⟨x0, x1, x2⟩ := x
                have HX0 := hide hx0
                have HX1 := hide hx1
                have HXI := hide hxi
                have ltb := World.block_lt_of_cell? _ _ c0
                clear hxi hx0 hx1
                simp only at c0 c1 c2
                go_wp2_with fail
                refine (fits_any n (x0, x1, x2) _ HX0.out HX1.out hn2).mono ?_
                rintro e w4 ⟨rfl, u4⟩
                have H4 := hide (HD.out.step u4 (by simp) (by simp))
                have U4 := hide u4
                have HR' := hide (own_base_kept HR.out u4 (by simp))
                have hfo := fitS_le n (x0, x1, x2)
                have HF := hide hfo
                clear u4 hfo
                obtain ⟨fo, Efo⟩ : ∃ fo, Hid (fitOff n (x0, x1, x2) = fo) := ⟨_, rfl⟩
                obtain ⟨fs, Efs⟩ : ∃ fs, Hid (fitS n (x0, x1, x2) = fs) := ⟨_, rfl⟩
                rw [Efo.out, Efs.out] at HF ⊢
                have HV := hide (show D.vis.length = n by rw [HD.out.ok.len, HC.out.calm.size])
                have H5 := hide (H4.out.more ((Upd.refl [] w4).alloc (.cells #[.int .i64 (fo : Int), .string ⟨fs.toArray⟩, .bool x2] 53)) w4.heap.size (Nat.le_refl _) (by simp))
                have L5 := hide (Blk.new w4 53 [.int .i64 (fo : Int), .string ⟨fs.toArray⟩, .bool x2])
                have hwr : wrAt n z1 k = (fo, fs) := by
                  have h1 := HXI.out
                  unfold wrAt
                  rw [h1]
                  exact congr (congrArg Prod.mk Efo.out) Efs.out
                have HW := hide hwr
                clear hwr
                have C1 := write_in (fo : Int) ⟨fs.toArray⟩ H5.out (by have := HC.out.calm.pend; omega)
                rw [show (⟨fs.toArray⟩ : ByteArray).data.toList = fs from rfl, write_calm HC.out.calm HF.out] at C1
                have WI := hide C1
                have C7 := hide (cb_write HC.out HW.out)
                clear C1
                go_wp2_with fail
                refine WI.out.mono ?_
                rintro e w7 ⟨rfl, d7, s7⟩
                have H7 := hide d7
                have G7 := hide (s7.blk (by simp) (((HB.out.upd U4.out (by simp)).alloc (.cells #[.int .i64 (fo : Int), .string ⟨fs.toArray⟩, .bool x2] 53))))
                have L7 := hide (s7.blk (by simp) L5.out)
                have hr7 := own_same ((HR'.out).alloc (.cells #[.int .i64 (fo : Int), .string ⟨fs.toArray⟩, .bool x2] 53)) (s7.mono mem_three)
                have R7 := hide hr7
                clear d7 s7 hr7 WI
                have B7 := hide H7.out.below
                by_cases hk2 : k < len2
                · obtain ⟨b2, off2, rfl, hb2W, hcb⟩ := W2.out.2.2.2 (by omega)
                  have cb : w7.cell? ⟨b2, off2 + k, none⟩ = some (.bool (keepB z2 k)) := (B7.out.cell (p := ⟨b2, off2 + k, none⟩) hb2W).trans (hcb k hk2)
                  clear hcb
                  cases hkb : keepB z2 k with
                  | true =>
                    rw [hkb] at cb
                    have HK := hide hkb
                    clear hkb
                    have j1 := L7.out.cell 1
                    have j0 := L7.out.cell 0
                    have OD := hide (own_new w.heap.size w7 (.int .i64 (k : Int)) 3 (by have := H7.out.room; omega))
                    have SRC := hide (own_src (R7.out.alloc (.cells #[.int .i64 (k : Int)] 3)))
                    have O1 := hide (show ∀ u ∈ (((idx z2 k).reverse.map fun i : Nat => (i : Int)).map (Value.int .i64)), u.oneCell' = true by intro u hu; simp at hu; obtain ⟨i, _, rfl⟩ := hu; rfl)
                    have hjk : j ≤ k := by have := Ej.out; unfold idx at this; have h2 := List.length_filter_le (keepB z2) (List.range k); simp only [List.length_range] at h2; omega
                    have O3 := hide (show 1 + j ≤ maxLen by unfold maxLen; omega)
                    have O4 := hide (show (1 + j) * 8 ≤ 140737488355328 by omega)
                    have O2 := hide (show ((((idx z2 k).reverse.map fun i : Nat => (i : Int)).map (Value.int .i64))).length = j * 1 by simp; exact Ej.out.symm)
                    by_cases hla : (k : Int) = lastOf z2 M
                    · have hla1 : lastOf z2 M ≤ (k : Int) := by omega
                      have hla2 : (k : Int) ≤ lastOf z2 M := by omega
                      have HLA := hide hla
                      clear hla
                      by_cases hto : 0 ≤ a3
                      · skip
                        go_wp2_with (at_builtin; refine wpList_append_src rfl (.tmp 113) (.tmp 114) _ rfl w.heap.size 3 _ 1 8 Try.underlying37 info_int rfl (by decide) (some ⟨w7.heap.size, 0, none⟩) 1 1 [.int .i64 (k : Int)] rfl OD.out A j ca _ rfl O2.out SRC.out O1.out O3.out O4.out (by have := H7.out.room; simp; omega) ?_; intro A' c' w9 h9 u9 a9; have H9 := hide h9; have U9 := hide u9; have A9 := hide a9; have G9 := hide ((G7.out.alloc (.cells #[.int .i64 (k : Int)] 3)).upd u9 (by simp; have := G7.out.lt; omega)); have l9 := (L7.out.alloc (.cells #[.int .i64 (k : Int)] 3)).upd u9 (by simp; have := L7.out.lt; omega); have m1 := l9.cell 1; have m0 := l9.cell 0; clear h9 u9 a9 l9)
                        have hgl7 := G7.out.lt
                        have U79 := hide (((Upd.refl [] w7).alloc (.cells #[.int .i64 (k : Int)] 3)).trans U9.out (by intro x hx; simp at hx; subst hx; exact .inr (Nat.le_refl _)))
                        obtain ⟨gA, hgA, hgA2⟩ : ∃ x, A'.map (·.block) = some x ∧ w7.heap.size ≤ x := by
                          rcases A9.out with e | e
                          · exact ⟨_, e, Nat.le_refl _⟩
                          · exact ⟨_, e, by simp⟩
                        have hgA3 : gA < w9.heap.size := (H9.out.lt gA (by rw [ownBlock_slice, hgA])).2
                        have D9 := hide ((H7.out.more U79.out gA hgA2 hgA3).mono (X' := [gb] ++ (A'.map (·.block)).toList) (by rw [hgA]; intro x hx; simp at hx ⊢; rcases hx with rfl | rfl <;> simp))
                        have hne : ∀ x, (Value.slice A' (1 + j) c').ownBlock = some x → x ∉ [gb] := by
                          intro x hx hm
                          rw [ownBlock_slice, hgA] at hx
                          simp at hx hm
                          omega
                        have NE := hide hne
                        have HLK := hide (show ((idx z2 M).map (wrAt n z1))[(idx z2 k).length]? = some (fo, fs) by rw [List.getElem?_map, idx_at hkm HK.out]; exact congrArg some HW.out)
                        have HLI := hide (last_iff hkm HK.out)
                        have HROW := hide (show [Value.int .i64 (k : Int)] ++ (((idx z2 k).reverse.map fun i : Nat => (i : Int)).map (Value.int .i64)) = (((idx z2 (k + 1)).reverse.map fun i : Nat => (i : Int)).map (Value.int .i64)) by rw [idx_yes HK.out]; simp)
                        have HLEN := hide (show (puts (seedTo n n) ((lastTorn a3 ((idx z2 M).map (wrAt n z1))).take (idx z2 k).length)).length = n from HPL.out _ _)
                        have EJ1 := hide (show 1 + j = (idx z2 (k + 1)).length by rw [idx_yes HK.out, List.length_append, ← Ej.out]; simp; omega)
                        clear hgA hgA2 hgA3 hne hgl7 U79 U9 A9
                        have CU := hide (cut_str_any ⟨fs.toArray⟩ a3 w9 (by show fs.toArray.size ≤ _; have := HF.out; unfold maxLen; simp; omega) hto V3.out)
                        have PA := hide (put_any (g := gb) (off := fo) (n := n) ⟨(fs.take a3.toNat).toArray⟩ _ w9 G9.out HLEN.out (by show fo + (fs.take a3.toNat).toArray.size ≤ n; have := HF.out; simp; omega) hn2)
                        have GET := hide (torn_get a3 _ HLK.out (p' := (fo, fs.take a3.toNat)) (if_pos ⟨by rw [HLI.out.1 HLA.out]; simp, hto⟩))
                        refine CU.out.mono ?_
                        rintro e w' ⟨rfl, rfl⟩
                        go_wp2_with fail
                        refine PA.out.mono ?_
                        rintro e w10 ⟨rfl, g10, u10⟩
                        have D10 := hide (D9.out.step u10 (by simp) (by simpa using HG.out))
                        have R10 := hide (own_base_kept H9.out u10 NE.out)
                        have G10 := hide (show Blk w10 gb 5 (bCells (puts (seedTo n n) ((lastTorn a3 ((idx z2 M).map (wrAt n z1))).take (idx z2 (k + 1)).length))) by
                          rw [← EJ1.out, Nat.add_comm, Ej.out, puts_snoc _ _ GET.out]; exact g10)
                        clear g10 u10
                        go_wp2_with fail
                        go_roundw
                        case rel => exact ⟨k + 1, 1 + j, _, A', c', by omega, by omega, EJ1.out, by go_num, rfl, D10.out, G10.out, C7.out, by rw [← HROW.out]; exact R10.out⟩
                        case measure => simp [intOf] <;> omega
                      · skip
                        go_wp2_with (at_builtin; refine wpList_append_src rfl (.tmp 113) (.tmp 114) _ rfl w.heap.size 3 _ 1 8 Try.underlying37 info_int rfl (by decide) (some ⟨w7.heap.size, 0, none⟩) 1 1 [.int .i64 (k : Int)] rfl OD.out A j ca _ rfl O2.out SRC.out O1.out O3.out O4.out (by have := H7.out.room; simp; omega) ?_; intro A' c' w9 h9 u9 a9; have H9 := hide h9; have U9 := hide u9; have A9 := hide a9; have G9 := hide ((G7.out.alloc (.cells #[.int .i64 (k : Int)] 3)).upd u9 (by simp; have := G7.out.lt; omega)); have l9 := (L7.out.alloc (.cells #[.int .i64 (k : Int)] 3)).upd u9 (by simp; have := L7.out.lt; omega); have m1 := l9.cell 1; have m0 := l9.cell 0; clear h9 u9 a9 l9)
                        have hgl7 := G7.out.lt
                        have U79 := hide (((Upd.refl [] w7).alloc (.cells #[.int .i64 (k : Int)] 3)).trans U9.out (by intro x hx; simp at hx; subst hx; exact .inr (Nat.le_refl _)))
                        obtain ⟨gA, hgA, hgA2⟩ : ∃ x, A'.map (·.block) = some x ∧ w7.heap.size ≤ x := by
                          rcases A9.out with e | e
                          · exact ⟨_, e, Nat.le_refl _⟩
                          · exact ⟨_, e, by simp⟩
                        have hgA3 : gA < w9.heap.size := (H9.out.lt gA (by rw [ownBlock_slice, hgA])).2
                        have D9 := hide ((H7.out.more U79.out gA hgA2 hgA3).mono (X' := [gb] ++ (A'.map (·.block)).toList) (by rw [hgA]; intro x hx; simp at hx ⊢; rcases hx with rfl | rfl <;> simp))
                        have hne : ∀ x, (Value.slice A' (1 + j) c').ownBlock = some x → x ∉ [gb] := by
                          intro x hx hm
                          rw [ownBlock_slice, hgA] at hx
                          simp at hx hm
                          omega
                        have NE := hide hne
                        have HLK := hide (show ((idx z2 M).map (wrAt n z1))[(idx z2 k).length]? = some (fo, fs) by rw [List.getElem?_map, idx_at hkm HK.out]; exact congrArg some HW.out)
                        have HLI := hide (last_iff hkm HK.out)
                        have HROW := hide (show [Value.int .i64 (k : Int)] ++ (((idx z2 k).reverse.map fun i : Nat => (i : Int)).map (Value.int .i64)) = (((idx z2 (k + 1)).reverse.map fun i : Nat => (i : Int)).map (Value.int .i64)) by rw [idx_yes HK.out]; simp)
                        have HLEN := hide (show (puts (seedTo n n) ((lastTorn a3 ((idx z2 M).map (wrAt n z1))).take (idx z2 k).length)).length = n from HPL.out _ _)
                        have EJ1 := hide (show 1 + j = (idx z2 (k + 1)).length by rw [idx_yes HK.out, List.length_append, ← Ej.out]; simp; omega)
                        clear hgA hgA2 hgA3 hne hgl7 U79 U9 A9
                        have PA := hide (put_any (g := gb) (off := fo) (n := n) ⟨fs.toArray⟩ _ w9 G9.out HLEN.out (by show fo + fs.toArray.size ≤ n; have := HF.out; simp; omega) hn2)
                        have GET := hide (torn_get a3 _ HLK.out (p' := (fo, fs)) (if_neg (fun h => by have := h.2; omega)))
                        refine PA.out.mono ?_
                        rintro e w10 ⟨rfl, g10, u10⟩
                        have D10 := hide (D9.out.step u10 (by simp) (by simpa using HG.out))
                        have R10 := hide (own_base_kept H9.out u10 NE.out)
                        have G10 := hide (show Blk w10 gb 5 (bCells (puts (seedTo n n) ((lastTorn a3 ((idx z2 M).map (wrAt n z1))).take (idx z2 (k + 1)).length))) by
                          rw [← EJ1.out, Nat.add_comm, Ej.out, puts_snoc _ _ GET.out]; exact g10)
                        clear g10 u10
                        go_wp2_with fail
                        go_roundw
                        case rel => exact ⟨k + 1, 1 + j, _, A', c', by omega, by omega, EJ1.out, by go_num, rfl, D10.out, G10.out, C7.out, by rw [← HROW.out]; exact R10.out⟩
                        case measure => simp [intOf] <;> omega
                    · skip
                      go_wp2_with (at_builtin; refine wpList_append_src rfl (.tmp 113) (.tmp 114) _ rfl w.heap.size 3 _ 1 8 Try.underlying37 info_int rfl (by decide) (some ⟨w7.heap.size, 0, none⟩) 1 1 [.int .i64 (k : Int)] rfl OD.out A j ca _ rfl O2.out SRC.out O1.out O3.out O4.out (by have := H7.out.room; simp; omega) ?_; intro A' c' w9 h9 u9 a9; have H9 := hide h9; have U9 := hide u9; have A9 := hide a9; have G9 := hide ((G7.out.alloc (.cells #[.int .i64 (k : Int)] 3)).upd u9 (by simp; have := G7.out.lt; omega)); have l9 := (L7.out.alloc (.cells #[.int .i64 (k : Int)] 3)).upd u9 (by simp; have := L7.out.lt; omega); have m1 := l9.cell 1; have m0 := l9.cell 0; clear h9 u9 a9 l9)
                      have hgl7 := G7.out.lt
                      have U79 := hide (((Upd.refl [] w7).alloc (.cells #[.int .i64 (k : Int)] 3)).trans U9.out (by intro x hx; simp at hx; subst hx; exact .inr (Nat.le_refl _)))
                      obtain ⟨gA, hgA, hgA2⟩ : ∃ x, A'.map (·.block) = some x ∧ w7.heap.size ≤ x := by
                        rcases A9.out with e | e
                        · exact ⟨_, e, Nat.le_refl _⟩
                        · exact ⟨_, e, by simp⟩
                      have hgA3 : gA < w9.heap.size := (H9.out.lt gA (by rw [ownBlock_slice, hgA])).2
                      have D9 := hide ((H7.out.more U79.out gA hgA2 hgA3).mono (X' := [gb] ++ (A'.map (·.block)).toList) (by rw [hgA]; intro x hx; simp at hx ⊢; rcases hx with rfl | rfl <;> simp))
                      have hne : ∀ x, (Value.slice A' (1 + j) c').ownBlock = some x → x ∉ [gb] := by
                        intro x hx hm
                        rw [ownBlock_slice, hgA] at hx
                        simp at hx hm
                        omega
                      have NE := hide hne
                      have HLK := hide (show ((idx z2 M).map (wrAt n z1))[(idx z2 k).length]? = some (fo, fs) by rw [List.getElem?_map, idx_at hkm HK.out]; exact congrArg some HW.out)
                      have HLI := hide (last_iff hkm HK.out)
                      have HROW := hide (show [Value.int .i64 (k : Int)] ++ (((idx z2 k).reverse.map fun i : Nat => (i : Int)).map (Value.int .i64)) = (((idx z2 (k + 1)).reverse.map fun i : Nat => (i : Int)).map (Value.int .i64)) by rw [idx_yes HK.out]; simp)
                      have HLEN := hide (show (puts (seedTo n n) ((lastTorn a3 ((idx z2 M).map (wrAt n z1))).take (idx z2 k).length)).length = n from HPL.out _ _)
                      have EJ1 := hide (show 1 + j = (idx z2 (k + 1)).length by rw [idx_yes HK.out, List.length_append, ← Ej.out]; simp; omega)
                      clear hgA hgA2 hgA3 hne hgl7 U79 U9 A9
                      have PA := hide (put_any (g := gb) (off := fo) (n := n) ⟨fs.toArray⟩ _ w9 G9.out HLEN.out (by show fo + fs.toArray.size ≤ n; have := HF.out; simp; omega) hn2)
                      have GET := hide (torn_get a3 _ HLK.out (p' := (fo, fs)) (if_neg (fun h => hla (HLI.out.2 (by have := h.1; simpa using this)))))
                      refine PA.out.mono ?_
                      rintro e w10 ⟨rfl, g10, u10⟩
                      have D10 := hide (D9.out.step u10 (by simp) (by simpa using HG.out))
                      have R10 := hide (own_base_kept H9.out u10 NE.out)
                      have G10 := hide (show Blk w10 gb 5 (bCells (puts (seedTo n n) ((lastTorn a3 ((idx z2 M).map (wrAt n z1))).take (idx z2 (k + 1)).length))) by
                        rw [← EJ1.out, Nat.add_comm, Ej.out, puts_snoc _ _ GET.out]; exact g10)
                      clear g10 u10
                      go_wp2_with fail
                      go_roundw
                      case rel => exact ⟨k + 1, 1 + j, _, A', c', by omega, by omega, EJ1.out, by go_num, rfl, D10.out, G10.out, C7.out, by rw [← HROW.out]; exact R10.out⟩
                      case measure => simp [intOf] <;> omega
                  | false =>
                    rw [hkb] at cb
                    have HK := hide hkb
                    clear hkb
                    go_wp2_with fail
                    go_roundw
                    case rel => exact ⟨k + 1, j, _, A, ca, by omega, by omega, show j = (idx z2 (k + 1)).length by rw [idx_no HK.out]; exact Ej.out, by go_num, rfl, H7.out.mono mem_two, by rw [idx_no HK.out]; exact G7.out, C7.out, by rw [idx_no HK.out]; exact R7.out⟩
                    case measure => simp [intOf] <;> omega
                · have HK := hide (show keepB z2 k = false by simp [keepB, List.getElem?_eq_none (show z2.length ≤ k by rw [W2.out.1]; omega)])
                  go_wp2_with fail
                  go_roundw
                  case rel => exact ⟨k + 1, j, _, A, ca, by omega, by omega, show j = (idx z2 (k + 1)).length by rw [idx_no HK.out]; exact Ej.out, by go_num, rfl, H7.out.mono mem_two, by rw [idx_no HK.out]; exact G7.out, C7.out, by rw [idx_no HK.out]; exact R7.out⟩
                  case measure => simp [intOf] <;> omega
              · obtain rfl : k = M := by omega
                obtain rfl : k = 20 := by omega
                have hM : 20 ≤ 20 := by omega
                have hidx : (idx z2 20).length ≤ 20 := by unfold idx; have := List.length_filter_le (keepB z2) (List.range 20); simpa using this
                have hrow6 : wr.ownsRow w.heap.size 3 1 (.slice A j ca) j (((idx z2 20).reverse.map fun i : Nat => (i : Int)).map (Value.int .i64)) := HR.out
                have hj6 : j = (idx z2 20).length := Ej.out
                have C1 := crash_in (.slice A j ca) ((idx z2 20).reverse.map fun i : Nat => (i : Int)) a3 HD.out (by have := HC.out.calm.pend; omega) (by simp; omega) (ints_own hrow6 (by simp; omega))
                have CR := hide C1
                have hv : (D.crash ((idx z2 20).reverse.map fun i : Nat => (i : Int)) a3).vis = puts (seedTo n n) (lastTorn a3 ((idx z2 20).map (wrAt n z1))) := by
                  show puts D.sure (lastTorn a3 (D.kept ((idx z2 20).reverse.map fun i : Nat => (i : Int)))) = _
                  rw [cb_kept HC.out, HC.out.sure]
                have EV := hide hv
                have hlen : (D.crash ((idx z2 20).reverse.map fun i : Nat => (i : Int)) a3).sure.length = n := by
                  show (puts D.sure (lastTorn a3 (D.kept ((idx z2 20).reverse.map fun i : Nat => (i : Int))))).length = n
                  rw [crash_len HD.out.ok, HC.out.calm.size]
                have CC := hide (crash_calm hlen)
                have hg6 : Blk wr gb 5 (bCells (puts (seedTo n n) (lastTorn a3 ((idx z2 20).map (wrAt n z1))))) := by
                  have := HB.out
                  rwa [List.take_of_length_le (by simp [lastTorn])] at this
                have G6 := hide hg6
                have hcl : (puts (seedTo n n) (lastTorn a3 ((idx z2 20).map (wrAt n z1)))).length = n := by rw [← hv]; exact hlen
                have HCL := hide hcl
                clear C1 hrow6 hv hlen hg6 hcl hj6 hidx
                go_wp2_with fail
                refine CR.out.mono ?_
                rintro e w7 ⟨rfl, d7, s7⟩
                have H7 := hide d7
                have cv := conv_whole (s7.blk (by simp) G6.out) (n := n) HCL.out
                clear d7 CR s7
                go_wp2_with fail
                have C1 := read_in 0 (n : Int) H7.out
                rw [read_calm_to CC.out H7.out.ok EV.out] at C1
                refine C1.mono ?_
                clear C1
                rintro e w' ⟨rfl, rfl⟩
                go_wp2_with fail
                go_ret
                exact ⟨rfl, H7.out.below⟩
        · skip
          obtain ⟨M, EM⟩ : ∃ M : Nat, M = q := ⟨_, rfl⟩
          have hM2 : M ≤ 20 := by omega
          have hMl2 : M ≤ len1 := by omega
          have hMe2 : M = len1 ∨ M = 20 := by omega
          have hMlt : ¬ M < len1 := by omega
          rw [← EM]
          clear EM hq hq20 hlt
          go_wp2_with fail
          have hM20 : M ≤ 20 := by omega
          have hMl : M ≤ len1 := by omega
          have hMe : M = len1 ∨ M = 20 := by omega
          have EMe := hide hMe
          clear hMe
          go_loopw [16, 17] (fun v i wr => ∃ (k j : Nat) (D : DiskS) (A : Option Addr) (ca : Nat), k ≤ len1 ∧ k ≤ M ∧ Hid (j = (idx z2 k).length) ∧ i = .int .i64 k ∧ v = .slice A j ca ∧ DiskIn w.heap.size ([gb] ++ (A.map (·.block)).toList) w wr g D ∧
              Blk wr gb 5 (bCells (puts (seedTo n n) ((lastTorn a3 ((idx z2 M).map (wrAt n z1))).take (idx z2 k).length))) ∧ CBSt n k z1 D ∧
              wr.ownsRow w.heap.size 3 1 (.slice A j ca) j (((idx z2 k).reverse.map fun i : Nat => (i : Int)).map (Value.int .i64)))
            (fun _ i _ => M - (intOf i).toNat)
          case atStart => exact ⟨0, 0, _, none, 0, Nat.zero_le _, Nat.zero_le _, show 0 = _ from rfl, rfl, rfl, HD.out, HB.out, cb_start n z1, World.ownsRow_nil _ _ _ _⟩
          case round =>
            obtain ⟨k, j, D, A, ca, hk, hkM, Ej, rfl, rfl, hd, hg, hcm, hrow⟩ := hrel
            have HD := hide hd
            have HB := hide hg
            have HC := hide hcm
            have HR := hide hrow
            clear hd hg hcm hrow
            have HLo := HL.out
            have HLo2 := HL2.out
            by_cases hkm : k < M
            · have hlt : k < len1 := by omega
              have h60 : k < 20 := by omega
              obtain ⟨b, off, x, rfl, hbW, hxi, hx0, hx1, c0, c1, c2⟩ := W1.out.at_ HD.out.below hlt
              obtain ⟨x0, x1, x2⟩ := x
              have HX0 := hide hx0
              have HX1 := hide hx1
              have HXI := hide hxi
              have ltb := World.block_lt_of_cell? _ _ c0
              clear hxi hx0 hx1
              simp only at c0 c1 c2
              go_wp2_with fail
              refine (fits_any n (x0, x1, x2) _ HX0.out HX1.out hn2).mono ?_
              rintro e w4 ⟨rfl, u4⟩
              have H4 := hide (HD.out.step u4 (by simp) (by simp))
              have U4 := hide u4
              have HR' := hide (own_base_kept HR.out u4 (by simp))
              have hfo := fitS_le n (x0, x1, x2)
              have HF := hide hfo
              clear u4 hfo
              obtain ⟨fo, Efo⟩ : ∃ fo, Hid (fitOff n (x0, x1, x2) = fo) := ⟨_, rfl⟩
              obtain ⟨fs, Efs⟩ : ∃ fs, Hid (fitS n (x0, x1, x2) = fs) := ⟨_, rfl⟩
              rw [Efo.out, Efs.out] at HF ⊢
              have HV := hide (show D.vis.length = n by rw [HD.out.ok.len, HC.out.calm.size])
              have H5 := hide (H4.out.more ((Upd.refl [] w4).alloc (.cells #[.int .i64 (fo : Int), .string ⟨fs.toArray⟩, .bool x2] 53)) w4.heap.size (Nat.le_refl _) (by simp))
              have L5 := hide (Blk.new w4 53 [.int .i64 (fo : Int), .string ⟨fs.toArray⟩, .bool x2])
              have hwr : wrAt n z1 k = (fo, fs) := by
                have h1 := HXI.out
                unfold wrAt
                rw [h1]
                exact congr (congrArg Prod.mk Efo.out) Efs.out
              have HW := hide hwr
              clear hwr
              have C1 := write_in (fo : Int) ⟨fs.toArray⟩ H5.out (by have := HC.out.calm.pend; omega)
              rw [show (⟨fs.toArray⟩ : ByteArray).data.toList = fs from rfl, write_calm HC.out.calm HF.out] at C1
              have WI := hide C1
              have C7 := hide (cb_write HC.out HW.out)
              clear C1
              go_wp2_with fail
              refine WI.out.mono ?_
              rintro e w7 ⟨rfl, d7, s7⟩
              have H7 := hide d7
              have G7 := hide (s7.blk (by simp) (((HB.out.upd U4.out (by simp)).alloc (.cells #[.int .i64 (fo : Int), .string ⟨fs.toArray⟩, .bool x2] 53))))
              have L7 := hide (s7.blk (by simp) L5.out)
              have hr7 := own_same ((HR'.out).alloc (.cells #[.int .i64 (fo : Int), .string ⟨fs.toArray⟩, .bool x2] 53)) (s7.mono mem_three)
              have R7 := hide hr7
              clear d7 s7 hr7 WI
              have B7 := hide H7.out.below
              by_cases hk2 : k < len2
              · obtain ⟨b2, off2, rfl, hb2W, hcb⟩ := W2.out.2.2.2 (by omega)
                have cb : w7.cell? ⟨b2, off2 + k, none⟩ = some (.bool (keepB z2 k)) := (B7.out.cell (p := ⟨b2, off2 + k, none⟩) hb2W).trans (hcb k hk2)
                clear hcb
                cases hkb : keepB z2 k with
                | true =>
                  rw [hkb] at cb
                  have HK := hide hkb
                  clear hkb
                  have j1 := L7.out.cell 1
                  have j0 := L7.out.cell 0
                  have OD := hide (own_new w.heap.size w7 (.int .i64 (k : Int)) 3 (by have := H7.out.room; omega))
                  have SRC := hide (own_src (R7.out.alloc (.cells #[.int .i64 (k : Int)] 3)))
                  have O1 := hide (show ∀ u ∈ (((idx z2 k).reverse.map fun i : Nat => (i : Int)).map (Value.int .i64)), u.oneCell' = true by intro u hu; simp at hu; obtain ⟨i, _, rfl⟩ := hu; rfl)
                  have hjk : j ≤ k := by have := Ej.out; unfold idx at this; have h2 := List.length_filter_le (keepB z2) (List.range k); simp only [List.length_range] at h2; omega
                  have O3 := hide (show 1 + j ≤ maxLen by unfold maxLen; omega)
                  have O4 := hide (show (1 + j) * 8 ≤ 140737488355328 by omega)
                  have O2 := hide (show ((((idx z2 k).reverse.map fun i : Nat => (i : Int)).map (Value.int .i64))).length = j * 1 by simp; exact Ej.out.symm)
                  by_cases hla : (k : Int) = lastOf z2 M
                  · have hla1 : lastOf z2 M ≤ (k : Int) := by omega
                    have hla2 : (k : Int) ≤ lastOf z2 M := by omega
                    have HLA := hide hla
                    clear hla
                    by_cases hto : 0 ≤ a3
                    · skip
                      go_wp2_with (at_builtin; refine wpList_append_src rfl (.tmp 113) (.tmp 114) _ rfl w.heap.size 3 _ 1 8 Try.underlying37 info_int rfl (by decide) (some ⟨w7.heap.size, 0, none⟩) 1 1 [.int .i64 (k : Int)] rfl OD.out A j ca _ rfl O2.out SRC.out O1.out O3.out O4.out (by have := H7.out.room; simp; omega) ?_; intro A' c' w9 h9 u9 a9; have H9 := hide h9; have U9 := hide u9; have A9 := hide a9; have G9 := hide ((G7.out.alloc (.cells #[.int .i64 (k : Int)] 3)).upd u9 (by simp; have := G7.out.lt; omega)); have l9 := (L7.out.alloc (.cells #[.int .i64 (k : Int)] 3)).upd u9 (by simp; have := L7.out.lt; omega); have m1 := l9.cell 1; have m0 := l9.cell 0; clear h9 u9 a9 l9)
                      have hgl7 := G7.out.lt
                      have U79 := hide (((Upd.refl [] w7).alloc (.cells #[.int .i64 (k : Int)] 3)).trans U9.out (by intro x hx; simp at hx; subst hx; exact .inr (Nat.le_refl _)))
                      obtain ⟨gA, hgA, hgA2⟩ : ∃ x, A'.map (·.block) = some x ∧ w7.heap.size ≤ x := by
                        rcases A9.out with e | e
                        · exact ⟨_, e, Nat.le_refl _⟩
                        · exact ⟨_, e, by simp⟩
                      have hgA3 : gA < w9.heap.size := (H9.out.lt gA (by rw [ownBlock_slice, hgA])).2
                      have D9 := hide ((H7.out.more U79.out gA hgA2 hgA3).mono (X' := [gb] ++ (A'.map (·.block)).toList) (by rw [hgA]; intro x hx; simp at hx ⊢; rcases hx with rfl | rfl <;> simp))
                      have hne : ∀ x, (Value.slice A' (1 + j) c').ownBlock = some x → x ∉ [gb] := by
                        intro x hx hm
                        rw [ownBlock_slice, hgA] at hx
                        simp at hx hm
                        omega
                      have NE := hide hne
                      have HLK := hide (show ((idx z2 M).map (wrAt n z1))[(idx z2 k).length]? = some (fo, fs) by rw [List.getElem?_map, idx_at hkm HK.out]; exact congrArg some HW.out)
                      have HLI := hide (last_iff hkm HK.out)
                      have HROW := hide (show [Value.int .i64 (k : Int)] ++ (((idx z2 k).reverse.map fun i : Nat => (i : Int)).map (Value.int .i64)) = (((idx z2 (k + 1)).reverse.map fun i : Nat => (i : Int)).map (Value.int .i64)) by rw [idx_yes HK.out]; simp)
                      have HLEN := hide (show (puts (seedTo n n) ((lastTorn a3 ((idx z2 M).map (wrAt n z1))).take (idx z2 k).length)).length = n from HPL.out _ _)
                      have EJ1 := hide (show 1 + j = (idx z2 (k + 1)).length by rw [idx_yes HK.out, List.length_append, ← Ej.out]; simp; omega)
                      clear hgA hgA2 hgA3 hne hgl7 U79 U9 A9
                      have CU := hide (cut_str_any ⟨fs.toArray⟩ a3 w9 (by show fs.toArray.size ≤ _; have := HF.out; unfold maxLen; simp; omega) hto V3.out)
                      have PA := hide (put_any (g := gb) (off := fo) (n := n) ⟨(fs.take a3.toNat).toArray⟩ _ w9 G9.out HLEN.out (by show fo + (fs.take a3.toNat).toArray.size ≤ n; have := HF.out; simp; omega) hn2)
                      have GET := hide (torn_get a3 _ HLK.out (p' := (fo, fs.take a3.toNat)) (if_pos ⟨by rw [HLI.out.1 HLA.out]; simp, hto⟩))
                      refine CU.out.mono ?_
                      rintro e w' ⟨rfl, rfl⟩
                      go_wp2_with fail
                      refine PA.out.mono ?_
                      rintro e w10 ⟨rfl, g10, u10⟩
                      have D10 := hide (D9.out.step u10 (by simp) (by simpa using HG.out))
                      have R10 := hide (own_base_kept H9.out u10 NE.out)
                      have G10 := hide (show Blk w10 gb 5 (bCells (puts (seedTo n n) ((lastTorn a3 ((idx z2 M).map (wrAt n z1))).take (idx z2 (k + 1)).length))) by
                        rw [← EJ1.out, Nat.add_comm, Ej.out, puts_snoc _ _ GET.out]; exact g10)
                      clear g10 u10
                      go_wp2_with fail
                      go_roundw
                      case rel => exact ⟨k + 1, 1 + j, _, A', c', by omega, by omega, EJ1.out, by go_num, rfl, D10.out, G10.out, C7.out, by rw [← HROW.out]; exact R10.out⟩
                      case measure => simp [intOf] <;> omega
                    · skip
                      go_wp2_with (at_builtin; refine wpList_append_src rfl (.tmp 113) (.tmp 114) _ rfl w.heap.size 3 _ 1 8 Try.underlying37 info_int rfl (by decide) (some ⟨w7.heap.size, 0, none⟩) 1 1 [.int .i64 (k : Int)] rfl OD.out A j ca _ rfl O2.out SRC.out O1.out O3.out O4.out (by have := H7.out.room; simp; omega) ?_; intro A' c' w9 h9 u9 a9; have H9 := hide h9; have U9 := hide u9; have A9 := hide a9; have G9 := hide ((G7.out.alloc (.cells #[.int .i64 (k : Int)] 3)).upd u9 (by simp; have := G7.out.lt; omega)); have l9 := (L7.out.alloc (.cells #[.int .i64 (k : Int)] 3)).upd u9 (by simp; have := L7.out.lt; omega); have m1 := l9.cell 1; have m0 := l9.cell 0; clear h9 u9 a9 l9)
                      have hgl7 := G7.out.lt
                      have U79 := hide (((Upd.refl [] w7).alloc (.cells #[.int .i64 (k : Int)] 3)).trans U9.out (by intro x hx; simp at hx; subst hx; exact .inr (Nat.le_refl _)))
                      obtain ⟨gA, hgA, hgA2⟩ : ∃ x, A'.map (·.block) = some x ∧ w7.heap.size ≤ x := by
                        rcases A9.out with e | e
                        · exact ⟨_, e, Nat.le_refl _⟩
                        · exact ⟨_, e, by simp⟩
                      have hgA3 : gA < w9.heap.size := (H9.out.lt gA (by rw [ownBlock_slice, hgA])).2
                      have D9 := hide ((H7.out.more U79.out gA hgA2 hgA3).mono (X' := [gb] ++ (A'.map (·.block)).toList) (by rw [hgA]; intro x hx; simp at hx ⊢; rcases hx with rfl | rfl <;> simp))
                      have hne : ∀ x, (Value.slice A' (1 + j) c').ownBlock = some x → x ∉ [gb] := by
                        intro x hx hm
                        rw [ownBlock_slice, hgA] at hx
                        simp at hx hm
                        omega
                      have NE := hide hne
                      have HLK := hide (show ((idx z2 M).map (wrAt n z1))[(idx z2 k).length]? = some (fo, fs) by rw [List.getElem?_map, idx_at hkm HK.out]; exact congrArg some HW.out)
                      have HLI := hide (last_iff hkm HK.out)
                      have HROW := hide (show [Value.int .i64 (k : Int)] ++ (((idx z2 k).reverse.map fun i : Nat => (i : Int)).map (Value.int .i64)) = (((idx z2 (k + 1)).reverse.map fun i : Nat => (i : Int)).map (Value.int .i64)) by rw [idx_yes HK.out]; simp)
                      have HLEN := hide (show (puts (seedTo n n) ((lastTorn a3 ((idx z2 M).map (wrAt n z1))).take (idx z2 k).length)).length = n from HPL.out _ _)
                      have EJ1 := hide (show 1 + j = (idx z2 (k + 1)).length by rw [idx_yes HK.out, List.length_append, ← Ej.out]; simp; omega)
                      clear hgA hgA2 hgA3 hne hgl7 U79 U9 A9
                      have PA := hide (put_any (g := gb) (off := fo) (n := n) ⟨fs.toArray⟩ _ w9 G9.out HLEN.out (by show fo + fs.toArray.size ≤ n; have := HF.out; simp; omega) hn2)
                      have GET := hide (torn_get a3 _ HLK.out (p' := (fo, fs)) (if_neg (fun h => by have := h.2; omega)))
                      refine PA.out.mono ?_
                      rintro e w10 ⟨rfl, g10, u10⟩
                      have D10 := hide (D9.out.step u10 (by simp) (by simpa using HG.out))
                      have R10 := hide (own_base_kept H9.out u10 NE.out)
                      have G10 := hide (show Blk w10 gb 5 (bCells (puts (seedTo n n) ((lastTorn a3 ((idx z2 M).map (wrAt n z1))).take (idx z2 (k + 1)).length))) by
                        rw [← EJ1.out, Nat.add_comm, Ej.out, puts_snoc _ _ GET.out]; exact g10)
                      clear g10 u10
                      go_wp2_with fail
                      go_roundw
                      case rel => exact ⟨k + 1, 1 + j, _, A', c', by omega, by omega, EJ1.out, by go_num, rfl, D10.out, G10.out, C7.out, by rw [← HROW.out]; exact R10.out⟩
                      case measure => simp [intOf] <;> omega
                  · skip
                    go_wp2_with (at_builtin; refine wpList_append_src rfl (.tmp 113) (.tmp 114) _ rfl w.heap.size 3 _ 1 8 Try.underlying37 info_int rfl (by decide) (some ⟨w7.heap.size, 0, none⟩) 1 1 [.int .i64 (k : Int)] rfl OD.out A j ca _ rfl O2.out SRC.out O1.out O3.out O4.out (by have := H7.out.room; simp; omega) ?_; intro A' c' w9 h9 u9 a9; have H9 := hide h9; have U9 := hide u9; have A9 := hide a9; have G9 := hide ((G7.out.alloc (.cells #[.int .i64 (k : Int)] 3)).upd u9 (by simp; have := G7.out.lt; omega)); have l9 := (L7.out.alloc (.cells #[.int .i64 (k : Int)] 3)).upd u9 (by simp; have := L7.out.lt; omega); have m1 := l9.cell 1; have m0 := l9.cell 0; clear h9 u9 a9 l9)
                    have hgl7 := G7.out.lt
                    have U79 := hide (((Upd.refl [] w7).alloc (.cells #[.int .i64 (k : Int)] 3)).trans U9.out (by intro x hx; simp at hx; subst hx; exact .inr (Nat.le_refl _)))
                    obtain ⟨gA, hgA, hgA2⟩ : ∃ x, A'.map (·.block) = some x ∧ w7.heap.size ≤ x := by
                      rcases A9.out with e | e
                      · exact ⟨_, e, Nat.le_refl _⟩
                      · exact ⟨_, e, by simp⟩
                    have hgA3 : gA < w9.heap.size := (H9.out.lt gA (by rw [ownBlock_slice, hgA])).2
                    have D9 := hide ((H7.out.more U79.out gA hgA2 hgA3).mono (X' := [gb] ++ (A'.map (·.block)).toList) (by rw [hgA]; intro x hx; simp at hx ⊢; rcases hx with rfl | rfl <;> simp))
                    have hne : ∀ x, (Value.slice A' (1 + j) c').ownBlock = some x → x ∉ [gb] := by
                      intro x hx hm
                      rw [ownBlock_slice, hgA] at hx
                      simp at hx hm
                      omega
                    have NE := hide hne
                    have HLK := hide (show ((idx z2 M).map (wrAt n z1))[(idx z2 k).length]? = some (fo, fs) by rw [List.getElem?_map, idx_at hkm HK.out]; exact congrArg some HW.out)
                    have HLI := hide (last_iff hkm HK.out)
                    have HROW := hide (show [Value.int .i64 (k : Int)] ++ (((idx z2 k).reverse.map fun i : Nat => (i : Int)).map (Value.int .i64)) = (((idx z2 (k + 1)).reverse.map fun i : Nat => (i : Int)).map (Value.int .i64)) by rw [idx_yes HK.out]; simp)
                    have HLEN := hide (show (puts (seedTo n n) ((lastTorn a3 ((idx z2 M).map (wrAt n z1))).take (idx z2 k).length)).length = n from HPL.out _ _)
                    have EJ1 := hide (show 1 + j = (idx z2 (k + 1)).length by rw [idx_yes HK.out, List.length_append, ← Ej.out]; simp; omega)
                    clear hgA hgA2 hgA3 hne hgl7 U79 U9 A9
                    have PA := hide (put_any (g := gb) (off := fo) (n := n) ⟨fs.toArray⟩ _ w9 G9.out HLEN.out (by show fo + fs.toArray.size ≤ n; have := HF.out; simp; omega) hn2)
                    have GET := hide (torn_get a3 _ HLK.out (p' := (fo, fs)) (if_neg (fun h => hla (HLI.out.2 (by have := h.1; simpa using this)))))
                    refine PA.out.mono ?_
                    rintro e w10 ⟨rfl, g10, u10⟩
                    have D10 := hide (D9.out.step u10 (by simp) (by simpa using HG.out))
                    have R10 := hide (own_base_kept H9.out u10 NE.out)
                    have G10 := hide (show Blk w10 gb 5 (bCells (puts (seedTo n n) ((lastTorn a3 ((idx z2 M).map (wrAt n z1))).take (idx z2 (k + 1)).length))) by
                      rw [← EJ1.out, Nat.add_comm, Ej.out, puts_snoc _ _ GET.out]; exact g10)
                    clear g10 u10
                    go_wp2_with fail
                    go_roundw
                    case rel => exact ⟨k + 1, 1 + j, _, A', c', by omega, by omega, EJ1.out, by go_num, rfl, D10.out, G10.out, C7.out, by rw [← HROW.out]; exact R10.out⟩
                    case measure => simp [intOf] <;> omega
                | false =>
                  rw [hkb] at cb
                  have HK := hide hkb
                  clear hkb
                  go_wp2_with fail
                  go_roundw
                  case rel => exact ⟨k + 1, j, _, A, ca, by omega, by omega, show j = (idx z2 (k + 1)).length by rw [idx_no HK.out]; exact Ej.out, by go_num, rfl, H7.out.mono mem_two, by rw [idx_no HK.out]; exact G7.out, C7.out, by rw [idx_no HK.out]; exact R7.out⟩
                  case measure => simp [intOf] <;> omega
              · have HK := hide (show keepB z2 k = false by simp [keepB, List.getElem?_eq_none (show z2.length ≤ k by rw [W2.out.1]; omega)])
                go_wp2_with fail
                go_roundw
                case rel => exact ⟨k + 1, j, _, A, ca, by omega, by omega, show j = (idx z2 (k + 1)).length by rw [idx_no HK.out]; exact Ej.out, by go_num, rfl, H7.out.mono mem_two, by rw [idx_no HK.out]; exact G7.out, C7.out, by rw [idx_no HK.out]; exact R7.out⟩
                case measure => simp [intOf] <;> omega
            · obtain rfl : k = M := by omega
              obtain rfl : k = len1 := by omega
              have hM : k ≤ 20 := by omega
              have hidx : (idx z2 k).length ≤ k := by unfold idx; have := List.length_filter_le (keepB z2) (List.range k); simpa using this
              have hrow6 : wr.ownsRow w.heap.size 3 1 (.slice A j ca) j (((idx z2 k).reverse.map fun i : Nat => (i : Int)).map (Value.int .i64)) := HR.out
              have hj6 : j = (idx z2 k).length := Ej.out
              have C1 := crash_in (.slice A j ca) ((idx z2 k).reverse.map fun i : Nat => (i : Int)) a3 HD.out (by have := HC.out.calm.pend; omega) (by simp; omega) (ints_own hrow6 (by simp; omega))
              have CR := hide C1
              have hv : (D.crash ((idx z2 k).reverse.map fun i : Nat => (i : Int)) a3).vis = puts (seedTo n n) (lastTorn a3 ((idx z2 k).map (wrAt n z1))) := by
                show puts D.sure (lastTorn a3 (D.kept ((idx z2 k).reverse.map fun i : Nat => (i : Int)))) = _
                rw [cb_kept HC.out, HC.out.sure]
              have EV := hide hv
              have hlen : (D.crash ((idx z2 k).reverse.map fun i : Nat => (i : Int)) a3).sure.length = n := by
                show (puts D.sure (lastTorn a3 (D.kept ((idx z2 k).reverse.map fun i : Nat => (i : Int))))).length = n
                rw [crash_len HD.out.ok, HC.out.calm.size]
              have CC := hide (crash_calm hlen)
              have hg6 : Blk wr gb 5 (bCells (puts (seedTo n n) (lastTorn a3 ((idx z2 k).map (wrAt n z1))))) := by
                have := HB.out
                rwa [List.take_of_length_le (by simp [lastTorn])] at this
              have G6 := hide hg6
              have hcl : (puts (seedTo n n) (lastTorn a3 ((idx z2 k).map (wrAt n z1)))).length = n := by rw [← hv]; exact hlen
              have HCL := hide hcl
              clear C1 hrow6 hv hlen hg6 hcl hj6 hidx
              go_wp2_with fail
              refine CR.out.mono ?_
              rintro e w7 ⟨rfl, d7, s7⟩
              have H7 := hide d7
              have cv := conv_whole (s7.blk (by simp) G6.out) (n := n) HCL.out
              clear d7 CR s7
              go_wp2_with fail
              have C1 := read_in 0 (n : Int) H7.out
              rw [read_calm_to CC.out H7.out.ok EV.out] at C1
              refine C1.mono ?_
              clear C1
              rintro e w' ⟨rfl, rfl⟩
              go_wp2_with fail
              go_ret
              exact ⟨rfl, H7.out.below⟩
end Go.Proofs.Ythjcgaahnpbcdaa
