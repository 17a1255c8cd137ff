/-
  digest.Sum: the digest of a string.
-/
import Derived.Test.YtafjolibfbccbaaGreatDoorZ21JournalOpensAnythingCard
import Derived.Sort.CutIn

namespace Go.Proofs.YtafjolibfbccbaaGreatDoor
open Go.RowKit Go.Shelf
set_option maxRecDepth 100000
attribute [local go_sem] Oper.semAt_some

def h0S : List Int := [1779033703, 3144134277, 1013904242, 2773480762, 1359893119, 2600822924, 528734635, 1541459225]
def padN (n : Nat) : Nat := (119 - n % 64) % 64
/-- The eight bytes of the number of bits. -/
def lenB (n : Nat) : List UInt8 := (List.range 8).map fun j => UInt8.ofNat (8 * n / 2 ^ (8 * (7 - j)))
def padS (s : List UInt8) : List UInt8 := s ++ (128 :: (List.replicate (padN s.length) 0 ++ lenB s.length))
def blockAt (b : List UInt8) (k : Nat) : List UInt8 := (b.drop (64 * k)).take 64
def stateS (ks : List Int) (b : List UInt8) (xs : List Nat) : List Int := xs.foldl (fun h k => addS ks (blockAt b k) h) h0S
def sumS (ks : List Int) (s : List UInt8) : List UInt8 := digS (stateS ks (padS s) (List.range ((padS s).length / 64)))
theorem padS_length (s : List UInt8) : (padS s).length = s.length + padN s.length + 9 := by
  simp [padS, lenB]; omega
theorem padS_blocks (s : List UInt8) : (padS s).length = 64 * ((padS s).length / 64) := by
  rw [padS_length]
  unfold padN
  omega
theorem h0S_word : ∀ x ∈ h0S, Word x := by unfold Word; decide
theorem stateS_word (ks : List Int) (b : List UInt8) (xs : List Nat) : (stateS ks b xs).length = 8 ∧ ∀ x ∈ stateS ks b xs, Word x := by
  rcases List.eq_nil_or_concat xs with rfl | ⟨p, k, rfl⟩
  · exact ⟨rfl, h0S_word⟩
  · rw [List.concat_eq_append]
    unfold stateS
    rw [List.foldl_append]
    exact ⟨addS_length _ _ _, addS_word _ _ _⟩
theorem stateS_snoc (ks : List Int) (b : List UInt8) (xs : List Nat) (k : Nat) : stateS ks b (xs ++ [k]) = addS ks (blockAt b k) (stateS ks b xs) := by
  unfold stateS
  rw [List.foldl_append]
  rfl
def sliceLen (v : Value) : Nat := match v with | .slice _ n _ => n | _ => 0
theorem brow_zeros {w : World} {g cap : Nat} {s : List UInt8} {k : Nat} (h : BRow w g cap (bCells (s ++ (128 :: List.replicate k 0)) ++ [.int .u8 0])) : BRow w g cap (bCells (s ++ (128 :: List.replicate (k + 1) 0))) := by
  have e : bCells (s ++ (128 :: List.replicate k 0)) ++ [.int .u8 0] = bCells (s ++ (128 :: List.replicate (k + 1) 0)) := by
    rw [List.replicate_succ', bCells, bCells, show ([Value.int .u8 0] : List Value) = [bCell 0] from rfl, ← List.map_singleton, ← List.map_append]
    simp
  rwa [e] at h
theorem lenB_next (n j : Nat) (hj : j < 8) : (lenB n).take (j + 1) = (lenB n).take j ++ [UInt8.ofNat (8 * n / 2 ^ (8 * (7 - j)))] := by
  rw [List.take_add_one]
  unfold lenB
  rw [List.getElem?_map, List.getElem?_range hj]
  rfl

theorem it_keepsFrom {l : List Nat} {B : Nat} {W W' : World} (h : Upd l W W') (hl : ∀ x ∈ l, x < B) : KeepsFrom B W W' :=
  ⟨h.size, fun k o hk ho _ => (h.block k (Array.getElem?_eq_some_iff.1 ho).1 (fun hm => by have := hl k hm; omega)).trans ho⟩
set_option maxHeartbeats 40000000 in
theorem sum_in (n : Nat) (hn6 : 6 ≤ n) (s : ByteArray) (ks : List Int) (w : World) (hs : s.size ≤ 1000000000) (hk : RoundAt w ks) (hkl : ks.length = 64) :
    CallsIn Fence.wide n Tryz.prog 110 #[.string s] w fun e w' => e = .returned (.string ⟨(sumS ks s.data.toList).toArray⟩) ∧ Upd [] w w' := by
  have h1 : 1 ≤ n := by omega
  have hkn : w.heap.size ≠ 3 := by have := hk.lt; omega
  refine callsIn_of_wp_marks Tryz.func110 rfl trivial ?_ rfl
  simp only [Tryz.ntmps110, List.size_toArray, List.length_cons, List.length_nil, Nat.reduceAdd, Nat.reduceSub, Array.replicate_succ, Array.replicate_zero, List.push_toArray, List.append_toArray, List.nil_append, List.cons_append]
  obtain ⟨i0, hi, hz0, hz1, hz2⟩ := info_parts it_info_byte
  obtain ⟨bs, hbs⟩ : ∃ bs, s.data.toList = bs := ⟨_, rfl⟩
  obtain ⟨m, hm⟩ : ∃ m, s.size = m := ⟨_, rfl⟩
  have hbl : bs.length = m := by rw [← hbs, ← hm]; exact Lib.size_eq s ▸ rfl
  have hfC : Fence.wide.fn 128 := trivial
  have hfA : Fence.wide.fn 129 := trivial
  have hfD : Fence.wide.fn 130 := trivial
  have HS := hide hs
  have HK := hide hk
  have HKL := hide hkl
  have HKN := hide hkn
  have HBS := hide hbs
  have HM := hide hm
  have HBL := hide hbl
  clear hs hk hkl hkn hbs hm hbl
  gi_upto_region 2 with fail
  obtain ⟨w1, hw⟩ : ∃ x, w.alloc (.cells #[.int .u32 1779033703, .int .u32 3144134277, .int .u32 1013904242, .int .u32 2773480762, .int .u32 1359893119, .int .u32 2600822924, .int .u32 528734635, .int .u32 1541459225] 193) = x := ⟨_, rfl⟩
  have HB1 := hide (show Blk w1 w.heap.size 193 (h0S.map (Value.int .u32)) by rw [← hw]; exact Blk.new w _ _)
  have U1 := hide (show Upd [] w w1 by rw [← hw]; exact (Upd.refl [] _).alloc _)
  have hsz1 : w1.heap.size = w.heap.size + 1 := by rw [← hw]; simp
  rw [hw]
  clear hw
  have hcv := Lib.run_convert_string_bytes (P := Tryz.prog) w1 9 39 5 s Tryz.underlying9 Tryz.underlying39 Tryz.underlying5
  obtain ⟨hbr, hub⟩ := BRow.conv w1 s (by have := HS.out; unfold maxLen; omega)
  obtain ⟨c0, hc0⟩ : ∃ x, grownCap w1 s.size 0 5 = x := ⟨_, rfl⟩
  obtain ⟨w2, hw2⟩ : ∃ x, Lib.bytesWorld w1 5 s = x := ⟨_, rfl⟩
  rw [hc0, hw2, HM.out, hsz1] at hcv
  rw [hc0, hw2, HBS.out, hsz1] at hbr
  rw [hw2] at hub
  obtain ⟨b4, hb4⟩ : ∃ x, w.heap.size + 1 = x := ⟨_, rfl⟩
  rw [hb4] at hcv hbr hsz1
  have HBR := hide hbr
  have HB2 := hide (keepB HB1.out hub)
  have U2 := hide (U1.out.trans hub (by simp))
  have HSZ1 := hide hsz1
  have HB4 := hide hb4
  have hm0 : m ≤ 1000000000 := by have := HS.out; have := HM.out; omega
  clear hbr hub hsz1 hc0 hw2 hb4
  gi_wp2_with (gi_at_builtin; refine wpListIn_append_brow rfl _ _ 39 rfl Tryz.underlying39 b4 c0 m (bCells bs) rfl (HBR.out.upd ((Upd.refl [] _).alloc _) (by simp)) (by rw [bCells_length, HBL.out]) ⟨w2.heap.size, 0, none⟩ 1 128 rfl (cell_one_new _ _ _ 0 _ rfl) (by omega) ?_; intro g3 c3 w3 hb3 hu3 hg3; have HB3 := hide hb3; have HU3 := hide hu3; have HG3 := hide hg3; clear hb3 hu3 hg3)
  have U3 := hide ((U2.out.alloc _).trans HU3.out (by simp; have := HB4.out; omega))
  have HD3 := hide (HB2.out.alloc (.cells #[.int .u8 128] 5) |>.upd HU3.out (by simp; have := HB4.out; omega))
  have HBG3 := hide (show w.heap.size < g3 by
    rcases HG3.out with h | h
    · have := HB4.out; omega
    · rw [World.size_alloc] at h; have := U2.out.size; omega)
  have HR3 := hide (show BRow w3 g3 c3 (bCells (bs ++ (128 :: List.replicate 0 0))) by
    have h := HB3.out
    have e : bCells bs ++ [Value.int .u8 128] = bCells (bs ++ (128 :: List.replicate 0 0)) := by rw [bCells_append]; rfl
    rwa [e] at h)
  clear HB3 HU3 HG3 HB2 U2 HBR hcv U1 HB1 HB4
  obtain ⟨z, hz⟩ : ∃ z, padN m = z := ⟨_, rfl⟩
  have HZ := hide hz
  have hzb : z < 64 := by rw [← hz]; unfold padN; omega
  have HZM := hide (show (m + 1 + z) % 64 = 56 by rw [← hz]; unfold padN; omega)
  have HZL := hide (show ∀ k, k < z → (m + 1 + k) % 64 ≠ 56 by intro k hk; rw [← hz] at hk; unfold padN at hk; omega)
  have HZZ := hide (show padN m = z from hz)
  clear hz
  gi_loopw [4] (fun s4 wr => ∃ (k g c : Nat), k ≤ z ∧ s4 = .slice (some ⟨g, 0, none⟩) (m + 1 + k) c ∧ Hid (BRow wr g c (bCells (bs ++ (128 :: List.replicate k 0)))) ∧ Hid (w.heap.size < g) ∧ Hid (Blk wr w.heap.size 193 (h0S.map (Value.int .u32))) ∧ Hid (Upd [] w wr)) (fun s _ => m + 1 + z - sliceLen s)
  case atStart => exact ⟨0, g3, c3, Nat.zero_le _, rfl, HR3, HBG3, HD3, U3⟩
  case round =>
    obtain ⟨k, ga, ca, hk, rfl, hR, hG, hD, hU⟩ := hrel
    obtain ⟨wo, rfl⟩ : ∃ x : World, x = wr := ⟨_, rfl⟩
    obtain ⟨nn, hnn⟩ : ∃ x, m + 1 + k = x := ⟨_, rfl⟩
    rw [hnn]
    by_cases hkz : k < z
    case neg =>
      obtain rfl : k = z := by omega
      have heq : (((nn : Int) % 64) != 56) = false := by
        have h1 := HZM.out
        rw [hnn] at h1
        simp; omega
      obtain ⟨B0, hB0⟩ : ∃ x, bs ++ (128 :: List.replicate k 0) = x := ⟨_, rfl⟩
      rw [hB0] at hR
      have HB0L := hide (show B0.length = nn by rw [← hB0, ← hnn]; simp; have := HBL.out; omega)
      have HB0 := hide hB0
      have HNN := hide hnn
      have hnn2 : nn ≤ 1000000100 := by omega
      clear hnn hB0 hzb HZM HZL
      gi_wp2_with fail
      clear heq
      gi_loopw [4, 5] (fun s4 s5 wr => ∃ (j g c : Nat), j ≤ 8 ∧ s4 = .slice (some ⟨g, 0, none⟩) (nn + j) c ∧ s5 = .int .i64 (7 - (j : Int)) ∧ Hid (BRow wr g c (bCells (B0 ++ (lenB m).take j))) ∧ Hid (w.heap.size < g) ∧ Hid (Blk wr w.heap.size 193 (h0S.map (Value.int .u32))) ∧ Hid (Upd [] w wr)) (fun s _ _ => nn + 8 - sliceLen s)
      case atStart => exact ⟨0, ga, ca, Nat.zero_le _, rfl, rfl, hide (by rw [List.take_zero, List.append_nil]; exact hR.out), hG, hD, hU⟩
      case round =>
        clear hR hG hD hU
        obtain ⟨j, g, c, hj, rfl, rfl, hR, hG, hD, hU⟩ := hrel
        obtain ⟨wo, rfl⟩ : ∃ x : World, x = wr := ⟨_, rfl⟩
        obtain ⟨nj, hnj⟩ : ∃ x, nn + j = x := ⟨_, rfl⟩
        rw [hnj]
        by_cases hj8 : j < 8
        case neg =>
          obtain rfl : j = 8 := by omega
          rw [show (7 - ((8 : Nat) : Int)) = -1 by omega]
          obtain ⟨pb, hpb⟩ : ∃ x, padS bs = x := ⟨_, rfl⟩
          have hpb2 : B0 ++ (lenB m).take 8 = pb := by
            rw [← hpb, List.take_of_length_le (by simp [lenB]), ← HB0.out]
            unfold padS
            rw [HBL.out, HZZ.out]
            simp
          rw [hpb2] at hR
          have hbl := padS_blocks bs
          rw [hpb] at hbl
          obtain ⟨mb, hmb⟩ : ∃ x, pb.length / 64 = x := ⟨_, rfl⟩
          rw [hmb] at hbl
          have hle := hR.out.le
          have hcm := hR.out.cap_le
          rw [bCells_length] at hle
          have hpl : pb.length = nj := by rw [← hpb2, ← hnj, List.length_append, HB0L.out]; simp [lenB]
          have hnj64 : nj = 64 * mb := by omega
          rw [hnj64]
          have HR := hide hR.out
          have HPB := hide hpb
          have HMB := hide hmb
          have HPL := hide hpl
          have HBLK := hide hbl
          have HLE := hide (show 64 * mb ≤ c by omega)
          have HCM := hide hcm
          have hmbb : 64 * mb ≤ 1000000200 := by omega
          have CA := hide (show ∀ W : World, CallsIn Fence.wide (n - 1) Tryz.prog 128 #[.slice (some ⟨g, 0, none⟩) (64 * mb) c, .int .i64 64] W _ from fun W => (callsIn_wide (n := n - 1)).2 (chunk_any (some ⟨g, 0, none⟩) (64 * mb) c W))
          clear hR hpb hpb2 hbl hmb hle hcm hpl hnj64 hnj hnn2
          gi_wp2_with (gi_at_call 128; refine (CA.out _).mono ?_; rintro e w2 ⟨rfl, rfl⟩)
          obtain ⟨W0, hW0⟩ : ∃ W0, ((wo.alloc (.cells #[.slice (some ⟨g, 0, none⟩) (64 * mb) c] 39)).alloc (.cells #[.int .i64 64] 3)) = W0 := ⟨_, rfl⟩
          rw [hW0]
          have hs0 : W0.heap.size = wo.heap.size + 2 := by rw [← hW0]; simp
          have u0 : Upd [] wo W0 := by rw [← hW0]; exact ((Upd.refl [] wo).alloc _).alloc _
          have bX2 : Boxed W0 (wo.heap.size + 1) 3 (.int .i64 64) := by
            have := Blk.new (wo.alloc (.cells #[.slice (some ⟨g, 0, none⟩) (64 * mb) c] 39)) 3 [.int .i64 64]
            rw [← hW0]
            rw [World.size_alloc] at this
            exact this
          have bX1 : Boxed W0 wo.heap.size 39 (.slice (some ⟨g, 0, none⟩) (64 * mb) c) := by
            have := (Blk.new wo 39 [.slice (some ⟨g, 0, none⟩) (64 * mb) c]).alloc (.cells #[.int .i64 64] 3)
            rw [← hW0]
            exact this
          have HR0 := hide (HR.out.upd u0 (by simp))
          have HD0 := hide (keepB hD.out u0)
          have U0 := hide (hU.out.trans u0 (by simp))
          have HK0 := hide (HK.out.upd U0.out (by simp))
          have hwo : w.heap.size < wo.heap.size := hD.out.lt
          clear hW0 hU hD HR u0
          refine wpIn_range_told rfl h1 (gf := 143) (lb := #[.pointer (some ⟨wo.heap.size, 0, none⟩), .pointer (some ⟨wo.heap.size + 1, 0, none⟩)]) rfl trivial (enters_of Tryz.func143 (by kernel_rfl) rfl)
            (chunk_told (n - 1) (by omega) g c mb wo.heap.size (wo.heap.size + 1) W0.heap.size (by omega) HLE.out HCM.out [w.heap.size] W0 bX1 bX2 (by omega) (by omega) (by simp; omega) (by simp; omega) (Nat.le_refl _)) (by simp) KeepX.trans (KeepX.put (Nat.le_refl _)) (Below.refl _ _) (fun _ => rfl)
            (fun x _ _ _ _ h _ _ => h)
            (fun pre W => Blk W w.heap.size 193 ((stateS ks pb pre).map (Value.int .u32)) ∧ Upd [w.heap.size] W0 W)
            (fun pre W W' row h hg hr => ⟨h.1.grown hg (fun e => by have := (hr _ e.symm).1; omega), h.2.grown hg (fun k e => .inr (hr k e).1)⟩)
            (fun pre A B hI hu => ⟨keepB hI.1 hu, hI.2.trans hu (by simp)⟩)
            ⟨HD0.out, Upd.refl _ _⟩
            (fun y => { tmps := #[.string s, undef, .string ⟨#[]⟩, .pointer (some ⟨w.heap.size, 0, none⟩), .slice (some ⟨g, 0, none⟩) (64 * mb) c, .int .i64 (-1), .slice (some ⟨g, 64 * y, none⟩) 64 64,
              .agg #[.int .u32 1779033703, .int .u32 3144134277, .int .u32 1013904242, .int .u32 2773480762, .int .u32 1359893119, .int .u32 2600822924, .int .u32 528734635, .int .u32 1541459225], .string s, .slice (some ⟨b4, 0, none⟩) m c0, .slice (some ⟨w2.heap.size, 0, none⟩) 1 1,
              .slice (some ⟨g3, 0, none⟩) (m + 1) c3, .slice (some ⟨ga, 0, none⟩) nn ca, .int .i64 nn, .int .i64 ((nn : Int) % 64), .bool false, u16, u17, u18, .int .i64 (-1), .bool false, u21, u22, u23, u24, u25, u26, u27, u28, u29, u30, u31, u32,
              .slice (some ⟨g, 0, none⟩) (64 * mb) c, .func (.func 143) #[] #[.pointer (some ⟨wo.heap.size, 0, none⟩), .pointer (some ⟨wo.heap.size + 1, 0, none⟩)], .slice (some ⟨g, 64 * y, none⟩) 64 64, undef, undef, undef, undef], defers := [] }) ?assign ?body ?done
          case assign =>
            intro l y W K hK
            gi_wp2
            exact hK
          case body =>
            rintro l pre y W ⟨hB, hu⟩ hy hlt
            have hd : 1 ≤ n - 1 - 1 := by omega
            have hst := stateS_word ks pb pre
            have hkw := HK0.out.upd hu (by simp; have := HKN.out; omega)
            have hrw := HR0.out.upd hu (by simp; have := hG.out; omega)
            have hbb : BytesAt W g (64 * y) (blockAt pb y) := fun i x hx => by
              have hx2 : pb[64 * y + i]? = some x := by
                unfold blockAt at hx
                have hi := (List.getElem?_eq_some_iff.1 hx).1
                rw [List.length_take] at hi
                rwa [List.getElem?_take_of_lt (by omega), List.getElem?_drop] at hx
              exact hrw.cell (by rw [bCells, List.getElem?_map, hx2]; rfl)
            have M := (callsIn_wide (n := n - 1 - 1 - 1)).2 (add_any g (64 * y) 64 w.heap.size (blockAt pb y) (stateS ks pb pre) ks W hbb hrw.lt (by unfold blockAt; rw [List.length_take, List.length_drop]; have := HBLK.out; omega) hB hst.1 hst.2 hkw HKL.out HKN.out)
            have ME := hide (CallsIn.inRound l M)
            have HU := hide hu
            have HB := hide hB
            clear M hbb hst hkw hrw hu hB
            gi_wp2_with (gi_at_call 129; refine ME.out.mono ?_; rintro e W1 ⟨rfl, q1, q2⟩; have Q1 := hide q1; have Q2 := hide q2; clear q1 q2)
            refine ⟨it_keepsFrom Q1.out (by simp; omega), KeepX.of_upd Q1.out HU.out.size, ?_, HU.out.trans Q1.out (by simp)⟩
            rw [stateS_snoc]
            exact Q2.out
          case done =>
            rintro D ys W hD hys ⟨hB, hu⟩ hK
            subst hys
            have hst := stateS_word ks pb (List.range mb)
            have HSUM := hide (show digS (stateS ks pb (List.range mb)) = sumS ks bs by unfold sumS; rw [HPB.out, HMB.out])
            obtain ⟨x0, x1, x2, x3, x4, x5, x6, x7, hx⟩ := eight_of _ hst.1
            rw [hx] at hB hst HSUM
            have DG := hide (show ∀ V : World, CallsIn Fence.wide (n - 1) Tryz.prog 130 #[.agg #[.int .u32 x0, .int .u32 x1, .int .u32 x2, .int .u32 x3, .int .u32 x4, .int .u32 x5, .int .u32 x6, .int .u32 x7]] V _ from fun V => (callsIn_wide (n := n - 1)).2 (digest_any [x0, x1, x2, x3, x4, x5, x6, x7] V rfl hst.2))
            have HB := hide (show Blk W w.heap.size 193 [.int .u32 x0, .int .u32 x1, .int .u32 x2, .int .u32 x3, .int .u32 x4, .int .u32 x5, .int .u32 x6, .int .u32 x7] from hB)
            have c0 : W.cell? ⟨w.heap.size, 0, none⟩ = some (.int .u32 x0) := (HB.out.cell 0).trans rfl
            have c1 : W.cell? ⟨w.heap.size, 1, none⟩ = some (.int .u32 x1) := (HB.out.cell 1).trans rfl
            have c2 : W.cell? ⟨w.heap.size, 2, none⟩ = some (.int .u32 x2) := (HB.out.cell 2).trans rfl
            have c3 : W.cell? ⟨w.heap.size, 3, none⟩ = some (.int .u32 x3) := (HB.out.cell 3).trans rfl
            have c4 : W.cell? ⟨w.heap.size, 4, none⟩ = some (.int .u32 x4) := (HB.out.cell 4).trans rfl
            have c5 : W.cell? ⟨w.heap.size, 5, none⟩ = some (.int .u32 x5) := (HB.out.cell 5).trans rfl
            have c6 : W.cell? ⟨w.heap.size, 6, none⟩ = some (.int .u32 x6) := (HB.out.cell 6).trans rfl
            have c7 : W.cell? ⟨w.heap.size, 7, none⟩ = some (.int .u32 x7) := (HB.out.cell 7).trans rfl
            have HU := hide hu
            have HKD := hide hK
            clear hB hst hx hu hK
            gi_wp2_with (gi_at_call 130; refine (DG.out _).mono ?_; rintro e W9 ⟨rfl, u9⟩; have U9 := hide u9; clear u9)
            refine ⟨by simp, .inl ⟨_, _, rfl, run_takeDeferred ((U9.out.block D (Array.getElem?_eq_some_iff.1 HKD.out).1 (by simp)).trans HKD.out), ?_⟩⟩
            refine ⟨_, results_tmp rfl _ _ _, ?_, (((U0.out.trans (HU.out.mono (l' := [w.heap.size]) (by simp)) (by simp)).trans U9.out (by simp))).grown (grownBy_putObj' W9 D _) (fun k e => by cases e; right; have := U0.out.size; omega)⟩
            rw [HSUM.out, HBS.out]
            rfl
        obtain ⟨q, hq⟩ : ∃ q, 7 - j = q := ⟨_, rfl⟩
        rw [show (7 - (j : Int)) = (q : Int) by omega]
        have hq0 : (0 : Int) ≤ (q : Int) := by omega
        have hsm : s.size = m := HM.out
        obtain ⟨M8, hM8⟩ : ∃ x, 8 * m = x := ⟨_, rfl⟩
        obtain ⟨q8, hq8⟩ : ∃ x, 8 * q = x := ⟨_, rfl⟩
        have e1 : IntKind.i64.wrap (8 * (m : Int)) = (M8 : Int) := by rw [Go.IntWalk.i64_in _ (by omega)]; omega
        have e2 : IntKind.i64.wrap (8 * (q : Int)) = (q8 : Int) := by rw [Go.IntWalk.i64_in _ (by omega)]; omega
        have hq64 : q8 < 64 := by omega
        have hqi : (q8 : Int) < 64 := by omega
        have eq1 : IntKind.i64.wrap ((q : Int) - 1) = (q : Int) - 1 := Go.IntWalk.i64_in _ (by omega)
        have HV := hide (show (Value.int .u8 ((M8 : Int) / 2 ^ q8 % 256)) = bCell (UInt8.ofNat (8 * m / 2 ^ (8 * (7 - j)))) by
          rw [hq, hq8, hM8]
          show _ = Value.int .u8 ((UInt8.ofNat (M8 / 2 ^ q8)).toNat : Int)
          rw [UInt8.toNat_ofNat']
          norm_cast)
        have hnb : nj + 1 ≤ 2000000000 := by omega
        have HL := hide (show (bCells (B0 ++ (lenB m).take j)).length = nj by rw [bCells_length, ← hnj, List.length_append, HB0L.out, List.length_take]; simp [lenB]; omega)
        have HNJ := hide hnj
        have HQ := hide hq
        clear hnj hq hM8 hq8
        gi_wp2_with (gi_at_builtin; refine wpListIn_append_brow rfl _ _ 39 rfl Tryz.underlying39 g c nj _ rfl (hR.out.upd ((Upd.refl [] _).alloc _) (by simp)) HL.out ⟨wo.heap.size, 0, none⟩ 1 _ rfl (cell_one_new _ _ _ 0 _ rfl) (by omega) ?_; intro g3 c3 w3 hb3 hu3 hg3; have HB3 := hide hb3; have HU3 := hide hu3; have HG3 := hide hg3; clear hb3 hu3 hg3)
        go_roundw
        case rel =>
          exact ⟨j + 1, g3, c3, by omega, by rw [show nn + (j + 1) = nj + 1 by have := HNJ.out; omega], by rw [show (7 - ((j + 1 : Nat) : Int)) = (q : Int) - 1 by have := HQ.out; omega], hide (by
            rw [lenB_next m j hj8, ← List.append_assoc, bCells_append, show bCells [UInt8.ofNat (8 * m / 2 ^ (8 * (7 - j)))] = [bCell (UInt8.ofNat (8 * m / 2 ^ (8 * (7 - j))))] from rfl, ← HV.out]
            exact HB3.out), hide (by
            have h0 := hG.out
            have h2 := hU.out.size
            rcases HG3.out with h | h
            · omega
            · rw [World.size_alloc] at h; omega), hide (hD.out.alloc _ |>.upd HU3.out (by simp; have := hG.out; omega)), hide ((hU.out.alloc _).trans HU3.out (by simp; have := hG.out; omega))⟩
        case measure => have := HNJ.out; simp [sliceLen] <;> omega
    have hne : (((nn : Int) % 64) != 56) = true := by
      have h1 := HZL.out k hkz
      rw [hnn] at h1
      simp; omega
    have hnb : nn + 1 ≤ 2000000000 := by omega
    have HNN := hide hnn
    have HL := hide (show (bCells (bs ++ (128 :: List.replicate k 0))).length = nn by rw [bCells_length, ← hnn]; simp; have := HBL.out; omega)
    clear hnn
    gi_wp2_with (gi_at_builtin; refine wpListIn_append_brow rfl _ _ 39 rfl Tryz.underlying39 ga ca nn _ rfl (hR.out.upd ((Upd.refl [] _).alloc _) (by simp)) HL.out ⟨wo.heap.size, 0, none⟩ 1 0 rfl (cell_one_new _ _ _ 0 _ rfl) (by omega) ?_; intro g3 c3 w3 hb3 hu3 hg3; have HB3 := hide hb3; have HU3 := hide hu3; have HG3 := hide hg3; clear hb3 hu3 hg3)
    go_roundw
    case rel =>
      exact ⟨k + 1, g3, c3, by omega, by rw [show m + 1 + (k + 1) = nn + 1 by have := HNN.out; omega], hide (brow_zeros HB3.out), hide (by
        have h0 := hG.out
        have h2 := hU.out.size
        rcases HG3.out with h | h
        · omega
        · rw [World.size_alloc] at h; omega), hide (hD.out.alloc (.cells #[.int .u8 0] 5) |>.upd HU3.out (by simp; have := hG.out; omega)), hide ((hU.out.alloc _).trans HU3.out (by simp; have := hG.out; omega))⟩
    case measure => have := HNN.out; simp [sliceLen] <;> omega
/-- digest.Sum -/
theorem sum_any (s : ByteArray) (ks : List Int) (w : World) (hs : s.size ≤ 1000000000) (hk : RoundAt w ks) (hkl : ks.length = 64) :
    Calls Tryz.prog 110 #[.string s] w fun e w' => e = .returned (.string ⟨(sumS ks s.data.toList).toArray⟩) ∧ Upd [] w w' :=
  callsIn_wide.1 (sum_in 6 (by omega) s ks w hs hk hkl)
theorem sumS_length (ks : List Int) (s : List UInt8) : (sumS ks s).length = 32 := digS_length _
end Go.Proofs.YtafjolibfbccbaaGreatDoor
