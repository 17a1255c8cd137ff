/-
  aircheckref34.Stored and Open.
  aircheckref34.(*Journal).Append and Room.
  The program's journal and the reference's, each with its disk, in blocks apart.
  airchecklaw34: world.open and begin.
  Looking at both journals.
-/
import Derived.Test.YtafjolibfbccbaaGreatDoorZ32JournalOpensAnythingCard
import Derived.Test.YtafjolibfbccbaaGreatDoorZ34JournalOpensAnythingCard
import Derived.Test.YtafjolibfbccbaaGreatDoorZ28JournalOpensAnythingCard
import Derived.Test.YtafjolibfbccbaaGreatDoorZ27JournalOpensAnythingCard

namespace Go.Proofs.YtafjolibfbccbaaGreatDoor
open Go.RowKit
set_option maxRecDepth 100000
set_option maxHeartbeats 40000000

/-- The reference's journal: the struct at xb on the disk at x, the row of records. -/
def RJAt (w : World) (base xb x : Nat) (A : Option Addr) (c : Nat) (T : TapeS) (br : Bool) : Prop :=
  base ≤ xb ∧ Blk w xb 43 [.pointer (some ⟨x, 0, none⟩), .slice A T.recs.length c, .int .i64 (T.size : Int), .bool br] ∧ w.ownsRow base 9 1 (.slice A T.recs.length c) T.recs.length (T.recs.map strV)
theorem RJAt.stay {w w' : World} {base xb x : Nat} {A : Option Addr} {c : Nat} {T : TapeS} {br : Bool} {l : List Nat} (h : RJAt w base xb x A c T br) (hu : Upd l w w') (h1 : xb ∉ l) (h2 : ∀ k ∈ (A.map (·.block)).toList, k ∉ l) : RJAt w' base xb x A c T br :=
  ⟨h.1, h.2.1.upd hu h1, own_kept h.2.2 hu (fun k hk => h2 k (by rw [ownBlock_slice] at hk; simpa using hk))⟩
theorem RJAt.upd0 {w w' : World} {base xb x : Nat} {A : Option Addr} {c : Nat} {T : TapeS} {br : Bool} (h : RJAt w base xb x A c T br) (hu : Upd [] w w') : RJAt w' base xb x A c T br := h.stay hu (by simp) (by simp)
theorem RJAt.ge {w : World} {base xb x : Nat} {A : Option Addr} {c : Nat} {T : TapeS} {br : Bool} (h : RJAt w base xb x A c T br) : ∀ k ∈ xb :: (A.map (·.block)).toList, base ≤ k := by
  intro k hk
  rcases List.mem_cons.1 hk with rfl | hk
  · exact h.1
  · exact it_own_block h.2.2 k (by rw [ownBlock_slice]; simpa using hk)
theorem RJAt.lt {w : World} {base xb x : Nat} {A : Option Addr} {c : Nat} {T : TapeS} {br : Bool} (h : RJAt w base xb x A c T br) : ∀ k ∈ xb :: (A.map (·.block)).toList, k < w.heap.size := by
  intro k hk
  rcases List.mem_cons.1 hk with rfl | hk
  · exact h.2.1.lt
  · exact it_own_lt h.2.2 k (by rw [ownBlock_slice]; simpa using hk)
theorem sizeIn_rj {w : World} {base xb x : Nat} {A : Option Addr} {c : Nat} {T : TapeS} {br : Bool} (h : RJAt w base xb x A c T br) : sizeIn w xb = T.size := by
  unfold sizeIn
  rw [h.2.1.cell 2]
  rfl
theorem refStored (T : TapeS) (r : ByteArray) (w : World) (hh : T.head.length = 32) (hr : r.size ≤ 3600) :
    Calls Tryz.prog 44 #[.string ⟨T.head.toArray⟩, .string r] w fun e w' => e = .returned (.tuple #[.string ⟨(storedS refK T r.data.toList).toArray⟩, .string ⟨(chainS refK T.head r.data.toList).toArray⟩]) ∧ Upd [] w w' := by
  have HCH := hide (refChain ⟨T.head.toArray⟩ r w (by show T.head.toArray.size ≤ _; rw [List.size_toArray, hh]; decide) (by omega))
  have HP := hide (fun W => refPutString r W hr)
  obtain ⟨hd, hhd⟩ : ∃ y : ByteArray, ⟨(chainS refK T.head r.data.toList).toArray⟩ = y := ⟨_, rfl⟩
  rw [show (⟨(chainS refK (⟨T.head.toArray⟩ : ByteArray).data.toList r.data.toList).toArray⟩ : ByteArray) = hd from hhd] at HCH
  obtain ⟨ps, hps⟩ : ∃ y : ByteArray, ⟨(putStrS r.data.toList).toArray⟩ = y := ⟨_, rfl⟩
  rw [hps] at HP
  have hdl : hd.size = 32 := by rw [← hhd]; show (chainS refK T.head r.data.toList).toArray.size = 32; rw [List.size_toArray]; exact chainS_length _ _ _
  have hpl : ps.size ≤ 65545 := by
    rw [← hps]
    show (putStrS r.data.toList).toArray.size ≤ _
    rw [List.size_toArray]
    unfold putStrS
    rw [List.length_append]
    have h1 : r.data.toList.length = r.size := Lib.size_eq r ▸ rfl
    have h2 := putS_len (r.data.toList.length : Int) (by omega) (by omega)
    omega
  have HCAT := hide (show (⟨(storedS refK T r.data.toList).toArray⟩ : ByteArray) = (⟨#[1]⟩ ++ ps) ++ hd by
    rw [← hhd, ← hps]
    unfold storedS
    apply ByteArray.ext
    apply Array.toList_inj.1
    simp [ByteArray.data_append])
  have hz1 : (⟨#[1]⟩ : ByteArray).size = 1 := rfl
  have hz2 : ((⟨#[1]⟩ : ByteArray) ++ ps).size = 1 + ps.size := by rw [ByteArray.size_append]; rfl
  obtain ⟨pl, hple⟩ : ∃ y, ps.size = y := ⟨_, rfl⟩
  rw [hple] at hpl hz2
  have hs1 : ¬ 9223372036854775807 < 1 + pl := by omega
  have hs2 : ¬ 9223372036854775807 < 1 + pl + hd.size := by omega
  have hs3 : ¬ 9223372036854775807 < 1 + pl + 32 := by omega
  have HHD := hide hhd
  clear hhd hps hpl
  go_enter Tryz.func44, Tryz.ntmps44
  go_wp2_with fail
  refine HCH.out.mono ?_
  rintro e w1 ⟨rfl, u⟩
  have HU := hide u
  clear u HCH
  go_wp2_with fail
  refine (HP.out w1).mono ?_
  rintro e w2 ⟨rfl, u⟩
  replace HU := hide (HU.out.trans u (by simp))
  clear u HP
  go_wp2_with fail
  refine bodyPost_ret (v := .tuple #[.string ((⟨#[1]⟩ ++ ps) ++ hd), .string hd]) (by simp [results, Tryz.results44, go_sem]) rfl ?_
  exact ⟨by rw [HCAT.out, HHD.out], HU.out⟩
def RefOpenPost (x : Nat) (G : List Nat) (D : DiskS) (w : World) (e : Ending) (w' : World) : Prop :=
  match (OpenS refK D).1 with
  | some T => ∃ xb A c G', e = .returned (.tuple #[.pointer (some ⟨xb, 0, none⟩), .int .i64 0]) ∧ RJAt w' w.heap.size xb x A c T false ∧ IsRef w' G' x (OpenS refK D).2.1 ∧ Upd G w w' ∧ (∀ k ∈ G', k ∈ G ∨ w.heap.size ≤ k) ∧ (∀ k ∈ xb :: (A.map (·.block)).toList, k ∉ G')
  | none => e = .returned (.tuple #[.pointer none, .int .i64 (OpenS refK D).2.2]) ∧ MovedR G w w' x (OpenS refK D).2.1
theorem refOpen {G : List Nat} {D : DiskS} (x : Nat) (w : World) (h : IsRef w G x D) (hi : DInv 1000 D) :
    Calls Tryz.prog 50 #[.pointer (some ⟨x, 0, none⟩)] w (RefOpenPost x G D w) := by
  have HI := hide hi
  have HR := hide h
  have HGL := hide h.lt
  obtain ⟨N, hN⟩ : ∃ N, D.sure.length = N := ⟨_, rfl⟩
  have hNm : N ≤ 4194304 := by rw [← hN]; obtain ⟨_, _, _, _, _, h9⟩ := h; exact h9.ok.max
  have hvl : D.vis.length = N := by rw [← hN]; exact hi.2.1
  have HRD := hide (refRead 0 (N : Int) w h (by have := hi.2.2; omega) hi.1)
  obtain ⟨gd, cs, r0, A0, c0, h0⟩ := h
  have c0 : w.cell? ⟨x, 0, none⟩ = some (.slice (some ⟨gd, 0, none⟩) N cs) := by rw [← hN]; exact h0.head.cell 0
  have HVL := hide hvl
  have HN := hide hN
  clear h0 hN hvl hi
  obtain ⟨off, hoff⟩ : ∃ y, D.off = y := ⟨_, rfl⟩
  cases off with
  | true =>
    have HOF := hide (show OpenS refK D = (none, D, 331) by unfold OpenS; rw [if_pos hoff])
    have hrd : D.read 0 (N : Int) = ([], 331) := by unfold DiskS.read; rw [if_pos hoff]
    rw [hrd] at HRD
    clear hrd hoff
    go_enter Tryz.func50, Tryz.ntmps50
    go_wp2_with fail
    refine HRD.out.mono ?_
    rintro e w1 ⟨rfl, u⟩
    have HU := hide u
    clear u HRD
    go_wp2_with fail
    refine bodyPost_ret (v := .tuple #[.pointer none, .int .i64 331]) (by simp [results, Tryz.results50, go_sem]) rfl ?_
    unfold RefOpenPost
    rw [HOF.out]
    exact ⟨rfl, G, HR.out.upd HU.out (by simp), HU.out.mono (by simp), fun _ hk => .inl hk⟩
  | false =>
    have hrd : D.read 0 (N : Int) = (D.vis, 0) := by
      unfold DiskS.read inB
      rw [if_neg (by simp [hoff]), HN.out, if_pos (by simp)]
      simp only [Int.toNat_natCast, List.drop_zero, Int.toNat_zero]
      rw [List.take_of_length_le (by have := HVL.out; omega)]
    rw [hrd] at HRD
    have HOF := hide hoff
    clear hrd hoff
    obtain ⟨s, hs⟩ : ∃ s : ByteArray, ⟨D.vis.toArray⟩ = s := ⟨_, rfl⟩
    rw [hs] at HRD
    obtain ⟨bs, hbs⟩ : ∃ l, D.vis = l := ⟨_, rfl⟩
    have hsb : s.data.toList = bs := by rw [← hs, hbs]
    have hbl : bs.length = N := by rw [← hbs]; exact HVL.out
    have hsz : s.size = N := by rw [← hbl, ← hsb]; exact (Lib.size_eq s).symm
    have HSB := hide hsb
    have HBL := hide hbl
    have HBS := hide hbs
    clear hs hsb hbl hbs HVL
    go_enter Tryz.func50, Tryz.ntmps50
    go_wp2_with fail
    refine HRD.out.mono ?_
    rintro e w1 ⟨rfl, u⟩
    have HU := hide u
    replace HR := hide (HR.out.upd u (by simp))
    clear u HRD c0
    go_upto_region 6 with fail
    obtain ⟨w2, hw⟩ : ∃ y, w1.alloc (.cells #[.pointer (some ⟨x, 0, none⟩), .slice none 0 0, .int .i64 0, .bool false] 43) = y := ⟨_, rfl⟩
    obtain ⟨xb, hxb⟩ : ∃ y, w1.heap.size = y := ⟨_, rfl⟩
    have u : Upd [] w1 w2 := by rw [← hw]; exact (Upd.refl [] _).alloc _
    have HJ := hide (show RJAt w2 w.heap.size xb x none 0 tape0 false from ⟨by rw [← hxb]; exact HU.out.size, by rw [← hw, ← hxb]; exact Blk.new w1 _ _, World.ownsRow_nil _ _ _ _⟩)
    replace HU := hide (HU.out.trans u (by simp))
    replace HR := hide (HR.out.upd u (by simp))
    have HXL := hide (show w.heap.size ≤ xb from HJ.out.1)
    rw [hw, hxb]
    clear hw hxb u
    have HHD := hide (refHeadL none 0 0 [] w2 rfl (by intro j s hs; simp at hs) (by simp) (by decide))
    rw [show headTo refK (List.replicate 32 0) [] = tape0.head from rfl] at HHD
    go_wp2_with fail
    refine HHD.out.mono ?_
    rintro e w3 ⟨rfl, u⟩
    replace HU := hide (HU.out.trans u (by simp))
    replace HR := hide (HR.out.upd u (by simp))
    replace HJ := hide (HJ.out.upd0 u)
    clear u HHD
    go_wp2_with fail
    go_loopw [8] (fun s8 wr => ∃ (T : TapeS) (A : Option Addr) (c f : Nat), s8 = strV T.head ∧ Hid (loadS refK bs (bs.length + 1) tape0 = loadS refK bs f T) ∧ Hid (bs.length < f + T.size) ∧ Hid (RJAt wr w.heap.size xb x A c T false) ∧ Hid (Upd [] w wr) ∧ Hid (IsRef wr G x D) ∧ Hid (T.recs.length ≤ T.size ∧ T.size ≤ N ∧ T.head.length = 32)) (fun _ wr => N - sizeIn wr xb)
    case atStart => exact ⟨tape0, none, 0, bs.length + 1, rfl, hide rfl, hide (by omega), HJ, HU, HR, hide ⟨Nat.le_refl _, Nat.zero_le _, by simp [tape0]⟩⟩
    case round =>
      clear HJ HU HR
      obtain ⟨T, A, c, f, rfl, hS, hF, hJ, hU, hR, hT3⟩ := hrel
      obtain ⟨wo, rfl⟩ : ∃ y : World, y = wr := ⟨_, rfl⟩
      obtain ⟨f, rfl⟩ : ∃ f', f = f' + 1 := ⟨f - 1, by have := hF.out; have := hT3.out.2.1; have := HBL.out; omega⟩
      obtain ⟨q, hq⟩ : ∃ q, T.size = q := ⟨_, rfl⟩
      have HBk := hide hJ.out.2.1
      have c2 : wo.cell? ⟨xb, 2, none⟩ = some (.int .i64 (q : Int)) := by rw [← hq]; exact (HBk.out.cell 2).trans rfl
      have hqb : q ≤ N := by have := hT3.out.2.1; omega
      have HQ := hide hq
      have HMS := hide (show sizeIn wo xb = q by rw [sizeIn_rj hJ.out]; exact hq)
      clear hq
      unfold strV
      by_cases hqn : q < N
      case neg =>
        have hqi : ¬ (q : Int) < (N : Int) := by omega
        have HE2 := hide (show loadS refK bs (bs.length + 1) tape0 = some T by rw [hS.out, loadS, if_neg (fun h => by have := h.1; have := HQ.out; have := HBL.out; omega)])
        clear hS hF
        obtain ⟨nz, hnz⟩ : ∃ y, N - q = y := ⟨_, rfl⟩
        have hnb : nz ≤ 4194304 := by omega
        have hsub : IntKind.i64.wrap ((N : Int) - (q : Int)) = (nz : Int) := by rw [Go.IntWalk.i64_in _ (by omega)]; omega
        have hm := make_bytes nz hnb wo
        have hcv := conv_zeros (wo.alloc (.cells (bCells (List.replicate nz 0)).toArray 5)) nz wo.heap.size (Blk.new wo _ _)
        obtain ⟨wz, hwz⟩ : ∃ y, wo.alloc (.cells (bCells (List.replicate nz 0)).toArray 5) = y := ⟨_, rfl⟩
        have u : Upd [] wo wz := by rw [← hwz]; exact (Upd.refl [] _).alloc _
        have HUz := hide (hU.out.trans u (by simp))
        have HRz := hide (hR.out.upd u (by simp))
        have HJz := hide (hJ.out.upd0 u)
        rw [hwz] at hm hcv
        have HBz := hide (keepB HBk.out u)
        have d2 : wz.cell? ⟨xb, 2, none⟩ = some (.int .i64 (q : Int)) := by rw [← HQ.out]; exact (HBz.out.cell 2).trans rfl
        clear hwz u hU hR hJ HBk
        obtain ⟨zb, hzb⟩ : ∃ y : ByteArray, zs nz = y := ⟨_, rfl⟩
        have hzd : zb.data.toList = List.replicate nz 0 := by rw [← hzb]; rfl
        rw [hzb] at hcv
        have hsl := fun W => slice_str_l (P := Tryz.prog) W Tryz.underlying9 s HSB.out q (by omega) (q : Int) rfl
        obtain ⟨rs, hrs⟩ : ∃ y : ByteArray, ⟨(bs.drop q).toArray⟩ = y := ⟨_, rfl⟩
        have hrd : rs.data.toList = bs.drop q := by rw [← hrs]
        rw [hrs] at hsl
        have HNZ := hide hnz
        have HZD := hide hzd
        have HRSD := hide hrd
        clear hrs hzb hnz hzd hrd
        by_cases hz : bs.drop q = List.replicate nz 0
        case pos =>
          have hcb : (rs.toList == zb.toList) = true := by rw [ByteArray.toList_eq, ByteArray.toList_eq, HRSD.out, HZD.out, hz]; simp
          have hcb2 : (rs.toList != zb.toList) = false := by rw [bne, hcb]; rfl
          have HOP := hide (show OpenS refK D = (some T, D, 0) by unfold OpenS; rw [if_neg (by simp [HOF.out]), HBS.out, HE2.out]; simp only; rw [HQ.out, hz, trim_zeros, if_pos rfl])
          clear hz
          go_wp2_with fail
          refine bodyPost_ret (v := .tuple #[.pointer (some ⟨xb, 0, none⟩), .int .i64 0]) (by simp [results, Tryz.results50, go_sem]) rfl ?_
          unfold RefOpenPost
          rw [HOP.out]
          exact ⟨xb, A, c, G, rfl, HJz.out, HRz.out, HUz.out.mono (by simp), fun _ hk => .inl hk, fun k hk hg => by have h8 := HGL.out k hg; have h9 := HJz.out.ge k hk; omega⟩
        have hcb : (rs.toList == zb.toList) = false := by rw [ByteArray.toList_eq, ByteArray.toList_eq, HRSD.out, HZD.out]; simp [hz]
        have hcb2 : (rs.toList != zb.toList) = true := by rw [bne, hcb]; rfl
        have HTN := hide (show Lib.trimB (D.vis.drop T.size) 0 ≠ [] from fun h => hz (by have h9 := trim_nil _ h; rw [HBS.out, HQ.out, List.length_drop, HBL.out, HNZ.out] at h9; exact h9))
        have HOP := hide (show OpenS refK D = (let r := runOps D [.write (q : Int) zb, .sync]; if r.2 ≠ 0 then (none, r.1, r.2) else (some T, r.1, 0)) by
          unfold OpenS
          rw [if_neg (by simp [HOF.out])]
          rw [show loadS refK D.vis (D.vis.length + 1) tape0 = some T by rw [HBS.out]; exact HE2.out]
          simp only
          rw [if_neg HTN.out, HQ.out, show D.vis.length - q = nz by rw [HBS.out, HBL.out]; exact HNZ.out, show (⟨(List.replicate nz 0).toArray⟩ : ByteArray) = zb by rw [← HZD.out]])
        clear hz HTN HE2
        have HWR := hide (refWrite (q : Int) zb wz HRz.out (by have := HI.out.2.2; omega))
        obtain ⟨D1, e1, hwr⟩ : ∃ a b, D.write (q : Int) zb.data.toList = (a, b) := ⟨_, _, rfl⟩
        have HI1 := hide (show DInv 1001 D1 by have := (HI.out.write (q : Int) zb.data.toList).1; rw [hwr] at this; exact this)
        rw [hwr] at HWR
        have HWE := hide hwr
        clear hwr hnb
        go_wp2_with fail
        refine HWR.out.mono ?_
        rintro e w4 ⟨rfl, G1, hr1, u, hg1⟩
        have HR1 := hide hr1
        have HJ1 := hide (HJz.out.stay u (fun hm => by have := HGL.out _ hm; have := HXL.out; omega) (fun k hk hm => by have := HGL.out _ hm; have := HJz.out.ge k (List.mem_cons_of_mem _ hk); omega))
        have HU1 := hide ((HUz.out.mono (l' := G) (by simp)).trans u (fun y hy => .inl hy))
        have HG1 := hide (show ∀ k ∈ G1, k ∈ G ∨ w.heap.size ≤ k from fun k hk => (hg1 k hk).elim .inl (fun h => .inr (Nat.le_trans HUz.out.size h)))
        have HGA := hide (show ∀ k ∈ xb :: (A.map (·.block)).toList, k ∉ G1 from fun k hk hm => (hg1 k hm).elim (fun h => by have h8 := HGL.out k h; have h9 := HJz.out.ge k hk; omega) (fun h => by have h9 := HJz.out.lt k hk; omega))
        clear hr1 u hg1 HWR HJz HUz HRz HBz d2
        by_cases he1 : e1 = 0
        case neg =>
          have g1 : ((e1 : Int) == 0) = false := by simp [he1]
          have g2 : ((e1 : Int) != 0) = true := by simp [he1]
          have HO1 := hide (show OpenS refK D = (none, D1, e1) by rw [HOP.out, show runOps D [.write (q : Int) zb, .sync] = (D1, e1) by rw [runOps_stop (by show (D.write (q : Int) zb.data.toList).2 ≠ 0; rw [HWE.out]; exact he1)]; exact HWE.out]; simp only; rw [if_pos he1])
          clear he1
          go_wp2_with fail
          refine bodyPost_ret (v := .tuple #[.pointer none, .int .i64 e1]) (by simp [results, Tryz.results50, go_sem]) rfl ?_
          unfold RefOpenPost
          rw [HO1.out]
          exact ⟨rfl, G1, HR1.out, HU1.out, HG1.out⟩
        subst he1
        have HSY := hide (refSync w4 HR1.out (by have := HI1.out.2.2; omega) HI1.out.1)
        obtain ⟨D2, e2, hsy⟩ : ∃ a b, D1.sync = (a, b) := ⟨_, _, rfl⟩
        rw [hsy] at HSY
        have HSE := hide hsy
        clear hsy
        have HRO := hide (show runOps D [.write (q : Int) zb, .sync] = (D2, e2) by
          rw [runOps_on (by show (D.write (q : Int) zb.data.toList).2 = 0; rw [HWE.out])]
          rw [show (DOp.run D (.write (q : Int) zb)).1 = D1 by show (D.write (q : Int) zb.data.toList).1 = D1; rw [HWE.out]]
          show (if D1.sync.2 ≠ 0 then D1.sync else (D1.sync.1, 0)) = _
          rw [HSE.out]
          by_cases h : e2 = 0
          · rw [if_neg (by simp [h])]; rw [h]
          · rw [if_pos h])
        go_wp2_with fail
        refine HSY.out.mono ?_
        rintro e w5 ⟨rfl, G2, hr2, u, hg2⟩
        have HR2 := hide hr2
        have HJ2 := hide (HJ1.out.stay u (fun hm => HGA.out xb (by simp) hm) (fun k hk hm => HGA.out k (List.mem_cons_of_mem _ hk) hm))
        have HU2 := hide (HU1.out.trans u HG1.out)
        have HG2 := hide (show ∀ k ∈ G2, k ∈ G ∨ w.heap.size ≤ k from fun k hk => (hg2 k hk).elim (HG1.out k) (fun h => .inr (Nat.le_trans HU1.out.size h)))
        have HGB := hide (show ∀ k ∈ xb :: (A.map (·.block)).toList, k ∉ G2 from fun k hk hm => (hg2 k hm).elim (fun h => HGA.out k hk h) (fun h => by have h9 := HJ1.out.lt k hk; omega))
        clear hr2 u hg2 HSY HJ1 HU1 HR1 HG1 HGA
        by_cases he2 : e2 = 0
        case neg =>
          have g2 : ((e2 : Int) != 0) = true := by simp [he2]
          have HO1 := hide (show OpenS refK D = (none, D2, e2) by rw [HOP.out, HRO.out]; simp only; rw [if_pos he2])
          clear he2
          go_wp2_with fail
          refine bodyPost_ret (v := .tuple #[.pointer none, .int .i64 e2]) (by simp [results, Tryz.results50, go_sem]) rfl ?_
          unfold RefOpenPost
          rw [HO1.out]
          exact ⟨rfl, G2, HR2.out, HU2.out, HG2.out⟩
        subst he2
        have HO1 := hide (show OpenS refK D = (some T, D2, 0) by rw [HOP.out, HRO.out]; simp only; rw [if_neg (by simp)])
        go_wp2_with fail
        refine bodyPost_ret (v := .tuple #[.pointer (some ⟨xb, 0, none⟩), .int .i64 0]) (by simp [results, Tryz.results50, go_sem]) rfl ?_
        unfold RefOpenPost
        rw [HO1.out]
        exact ⟨xb, A, c, G2, rfl, HJ2.out, HR2.out, HU2.out, HG2.out, HGB.out⟩
      have hqi : (q : Int) < (N : Int) := by omega
      obtain ⟨b0, hx⟩ : ∃ b0, bs[q]? = some b0 := ⟨_, List.getElem?_eq_getElem (by have := HBL.out; omega)⟩
      have hix := fun W => index_str (P := Tryz.prog) W Tryz.underlying9 s HSB.out q b0 hx
      obtain ⟨b, hb⟩ : ∃ b, b0.toNat = b := ⟨_, rfl⟩
      rw [hb] at hix
      have hbx : ∀ k : Nat, k < 256 → (b = k ↔ b0 = UInt8.ofNat k) := fun k hk => by rw [← hb]; exact ⟨fun h => UInt8.toNat_inj.1 (by rw [h, UInt8.toNat_ofNat', Nat.mod_eq_of_lt hk]), fun h => by rw [h, UInt8.toNat_ofNat', Nat.mod_eq_of_lt hk]⟩
      have HX := hide hx
      have HBX := hide hbx
      clear hx hb hbx
      by_cases hb0 : b = 0
      case pos =>
        have hb0b : ((b : Int) != 0) = false := by simp [hb0]
        have HE2 := hide (show loadS refK bs (bs.length + 1) tape0 = some T by rw [hS.out, loadS, if_neg (fun h => h.2 (by rw [HQ.out, HX.out, (HBX.out 0 (by decide)).1 hb0]; rfl))])
        clear hb0 hS hF HX HBX
        obtain ⟨nz, hnz⟩ : ∃ y, N - q = y := ⟨_, rfl⟩
        have hnb : nz ≤ 4194304 := by omega
        have hsub : IntKind.i64.wrap ((N : Int) - (q : Int)) = (nz : Int) := by rw [Go.IntWalk.i64_in _ (by omega)]; omega
        have hm := make_bytes nz hnb wo
        have hcv := conv_zeros (wo.alloc (.cells (bCells (List.replicate nz 0)).toArray 5)) nz wo.heap.size (Blk.new wo _ _)
        obtain ⟨wz, hwz⟩ : ∃ y, wo.alloc (.cells (bCells (List.replicate nz 0)).toArray 5) = y := ⟨_, rfl⟩
        have u : Upd [] wo wz := by rw [← hwz]; exact (Upd.refl [] _).alloc _
        have HUz := hide (hU.out.trans u (by simp))
        have HRz := hide (hR.out.upd u (by simp))
        have HJz := hide (hJ.out.upd0 u)
        rw [hwz] at hm hcv
        have HBz := hide (keepB HBk.out u)
        have d2 : wz.cell? ⟨xb, 2, none⟩ = some (.int .i64 (q : Int)) := by rw [← HQ.out]; exact (HBz.out.cell 2).trans rfl
        clear hwz u hU hR hJ HBk
        obtain ⟨zb, hzb⟩ : ∃ y : ByteArray, zs nz = y := ⟨_, rfl⟩
        have hzd : zb.data.toList = List.replicate nz 0 := by rw [← hzb]; rfl
        rw [hzb] at hcv
        have hsl := fun W => slice_str_l (P := Tryz.prog) W Tryz.underlying9 s HSB.out q (by omega) (q : Int) rfl
        obtain ⟨rs, hrs⟩ : ∃ y : ByteArray, ⟨(bs.drop q).toArray⟩ = y := ⟨_, rfl⟩
        have hrd : rs.data.toList = bs.drop q := by rw [← hrs]
        rw [hrs] at hsl
        have HNZ := hide hnz
        have HZD := hide hzd
        have HRSD := hide hrd
        clear hrs hzb hnz hzd hrd
        by_cases hz : bs.drop q = List.replicate nz 0
        case pos =>
          have hcb : (rs.toList == zb.toList) = true := by rw [ByteArray.toList_eq, ByteArray.toList_eq, HRSD.out, HZD.out, hz]; simp
          have hcb2 : (rs.toList != zb.toList) = false := by rw [bne, hcb]; rfl
          have HOP := hide (show OpenS refK D = (some T, D, 0) by unfold OpenS; rw [if_neg (by simp [HOF.out]), HBS.out, HE2.out]; simp only; rw [HQ.out, hz, trim_zeros, if_pos rfl])
          clear hz
          go_wp2_with fail
          refine bodyPost_ret (v := .tuple #[.pointer (some ⟨xb, 0, none⟩), .int .i64 0]) (by simp [results, Tryz.results50, go_sem]) rfl ?_
          unfold RefOpenPost
          rw [HOP.out]
          exact ⟨xb, A, c, G, rfl, HJz.out, HRz.out, HUz.out.mono (by simp), fun _ hk => .inl hk, fun k hk hg => by have h8 := HGL.out k hg; have h9 := HJz.out.ge k hk; omega⟩
        have hcb : (rs.toList == zb.toList) = false := by rw [ByteArray.toList_eq, ByteArray.toList_eq, HRSD.out, HZD.out]; simp [hz]
        have hcb2 : (rs.toList != zb.toList) = true := by rw [bne, hcb]; rfl
        have HTN := hide (show Lib.trimB (D.vis.drop T.size) 0 ≠ [] from fun h => hz (by have h9 := trim_nil _ h; rw [HBS.out, HQ.out, List.length_drop, HBL.out, HNZ.out] at h9; exact h9))
        have HOP := hide (show OpenS refK D = (let r := runOps D [.write (q : Int) zb, .sync]; if r.2 ≠ 0 then (none, r.1, r.2) else (some T, r.1, 0)) by
          unfold OpenS
          rw [if_neg (by simp [HOF.out])]
          rw [show loadS refK D.vis (D.vis.length + 1) tape0 = some T by rw [HBS.out]; exact HE2.out]
          simp only
          rw [if_neg HTN.out, HQ.out, show D.vis.length - q = nz by rw [HBS.out, HBL.out]; exact HNZ.out, show (⟨(List.replicate nz 0).toArray⟩ : ByteArray) = zb by rw [← HZD.out]])
        clear hz HTN HE2
        have HWR := hide (refWrite (q : Int) zb wz HRz.out (by have := HI.out.2.2; omega))
        obtain ⟨D1, e1, hwr⟩ : ∃ a b, D.write (q : Int) zb.data.toList = (a, b) := ⟨_, _, rfl⟩
        have HI1 := hide (show DInv 1001 D1 by have := (HI.out.write (q : Int) zb.data.toList).1; rw [hwr] at this; exact this)
        rw [hwr] at HWR
        have HWE := hide hwr
        clear hwr hnb
        go_wp2_with fail
        refine HWR.out.mono ?_
        rintro e w4 ⟨rfl, G1, hr1, u, hg1⟩
        have HR1 := hide hr1
        have HJ1 := hide (HJz.out.stay u (fun hm => by have := HGL.out _ hm; have := HXL.out; omega) (fun k hk hm => by have := HGL.out _ hm; have := HJz.out.ge k (List.mem_cons_of_mem _ hk); omega))
        have HU1 := hide ((HUz.out.mono (l' := G) (by simp)).trans u (fun y hy => .inl hy))
        have HG1 := hide (show ∀ k ∈ G1, k ∈ G ∨ w.heap.size ≤ k from fun k hk => (hg1 k hk).elim .inl (fun h => .inr (Nat.le_trans HUz.out.size h)))
        have HGA := hide (show ∀ k ∈ xb :: (A.map (·.block)).toList, k ∉ G1 from fun k hk hm => (hg1 k hm).elim (fun h => by have h8 := HGL.out k h; have h9 := HJz.out.ge k hk; omega) (fun h => by have h9 := HJz.out.lt k hk; omega))
        clear hr1 u hg1 HWR HJz HUz HRz HBz d2
        by_cases he1 : e1 = 0
        case neg =>
          have g1 : ((e1 : Int) == 0) = false := by simp [he1]
          have g2 : ((e1 : Int) != 0) = true := by simp [he1]
          have HO1 := hide (show OpenS refK D = (none, D1, e1) by rw [HOP.out, show runOps D [.write (q : Int) zb, .sync] = (D1, e1) by rw [runOps_stop (by show (D.write (q : Int) zb.data.toList).2 ≠ 0; rw [HWE.out]; exact he1)]; exact HWE.out]; simp only; rw [if_pos he1])
          clear he1
          go_wp2_with fail
          refine bodyPost_ret (v := .tuple #[.pointer none, .int .i64 e1]) (by simp [results, Tryz.results50, go_sem]) rfl ?_
          unfold RefOpenPost
          rw [HO1.out]
          exact ⟨rfl, G1, HR1.out, HU1.out, HG1.out⟩
        subst he1
        have HSY := hide (refSync w4 HR1.out (by have := HI1.out.2.2; omega) HI1.out.1)
        obtain ⟨D2, e2, hsy⟩ : ∃ a b, D1.sync = (a, b) := ⟨_, _, rfl⟩
        rw [hsy] at HSY
        have HSE := hide hsy
        clear hsy
        have HRO := hide (show runOps D [.write (q : Int) zb, .sync] = (D2, e2) by
          rw [runOps_on (by show (D.write (q : Int) zb.data.toList).2 = 0; rw [HWE.out])]
          rw [show (DOp.run D (.write (q : Int) zb)).1 = D1 by show (D.write (q : Int) zb.data.toList).1 = D1; rw [HWE.out]]
          show (if D1.sync.2 ≠ 0 then D1.sync else (D1.sync.1, 0)) = _
          rw [HSE.out]
          by_cases h : e2 = 0
          · rw [if_neg (by simp [h])]; rw [h]
          · rw [if_pos h])
        go_wp2_with fail
        refine HSY.out.mono ?_
        rintro e w5 ⟨rfl, G2, hr2, u, hg2⟩
        have HR2 := hide hr2
        have HJ2 := hide (HJ1.out.stay u (fun hm => HGA.out xb (by simp) hm) (fun k hk hm => HGA.out k (List.mem_cons_of_mem _ hk) hm))
        have HU2 := hide (HU1.out.trans u HG1.out)
        have HG2 := hide (show ∀ k ∈ G2, k ∈ G ∨ w.heap.size ≤ k from fun k hk => (hg2 k hk).elim (HG1.out k) (fun h => .inr (Nat.le_trans HU1.out.size h)))
        have HGB := hide (show ∀ k ∈ xb :: (A.map (·.block)).toList, k ∉ G2 from fun k hk hm => (hg2 k hm).elim (fun h => HGA.out k hk h) (fun h => by have h9 := HJ1.out.lt k hk; omega))
        clear hr2 u hg2 HSY HJ1 HU1 HR1 HG1 HGA
        by_cases he2 : e2 = 0
        case neg =>
          have g2 : ((e2 : Int) != 0) = true := by simp [he2]
          have HO1 := hide (show OpenS refK D = (none, D2, e2) by rw [HOP.out, HRO.out]; simp only; rw [if_pos he2])
          clear he2
          go_wp2_with fail
          refine bodyPost_ret (v := .tuple #[.pointer none, .int .i64 e2]) (by simp [results, Tryz.results50, go_sem]) rfl ?_
          unfold RefOpenPost
          rw [HO1.out]
          exact ⟨rfl, G2, HR2.out, HU2.out, HG2.out⟩
        subst he2
        have HO1 := hide (show OpenS refK D = (some T, D2, 0) by rw [HOP.out, HRO.out]; simp only; rw [if_neg (by simp)])
        go_wp2_with fail
        refine bodyPost_ret (v := .tuple #[.pointer (some ⟨xb, 0, none⟩), .int .i64 0]) (by simp [results, Tryz.results50, go_sem]) rfl ?_
        unfold RefOpenPost
        rw [HO1.out]
        exact ⟨xb, A, c, G2, rfl, HJ2.out, HR2.out, HU2.out, HG2.out, HGB.out⟩
      have hb0b : ((b : Int) != 0) = true := by simp [hb0]
      have HGO := hide (show T.size < bs.length ∧ bs[T.size]?.getD 0 ≠ 0 from ⟨by have := HQ.out; have := HBL.out; omega, fun h => hb0 ((HBX.out 0 (by decide)).2 (by rw [HQ.out, HX.out] at h; exact h))⟩)
      have hw1 : IntKind.i64.wrap ((q : Int) + 1) = ((q + 1 : Nat) : Int) := by rw [Go.IntWalk.i64_in _ (by omega)]; omega
      have HSt := hide (refString s bs (q + 1) wo HSB.out (by have := HBL.out; omega) (by omega))
      obtain ⟨rec, nx, er, hr⟩ : ∃ r x e, stringS bs (q + 1) = (r, x, e) := ⟨_, _, _, rfl⟩
      rw [hr] at HSt
      have HRS := hide hr
      clear hb0 hr
      go_wp2_with fail
      (try rw [show (q : Int) + 1 = ((q + 1 : Nat) : Int) by omega])
      refine HSt.out.mono ?_
      rintro e9 w4 ⟨rfl, u⟩
      have HU4 := hide (hU.out.trans u (by simp))
      have HR4 := hide (hR.out.upd u (by simp))
      have HJ4 := hide (hJ.out.upd0 u)
      replace HBk := hide (keepB HBk.out u)
      clear u HSt hU hR hJ c2
      unfold stringV
      have c2 : w4.cell? ⟨xb, 2, none⟩ = some (.int .i64 (q : Int)) := by rw [← HQ.out]; exact (HBk.out.cell 2).trans rfl
      by_cases hb1 : b = 1
      case neg =>
        have hb1b : ((b : Int) != 1) = true := by simp; omega
        have HE2 := hide (show loadS refK bs (bs.length + 1) tape0 = none by rw [hS.out, loadS, if_pos HGO.out, if_neg (fun h => hb1 ((HBX.out 1 (by decide)).2 (by have h1 := h.1; rw [HQ.out, HX.out] at h1; exact Option.some.inj h1)))])
        clear hb1
        go_wp2_with fail
        refine bodyPost_ret (v := .tuple #[.pointer none, .int .i64 342]) (by simp [results, Tryz.results50, go_sem]) rfl ?_
        unfold RefOpenPost
        rw [show OpenS refK D = (none, D, 342) by unfold OpenS; rw [if_neg (by simp [HOF.out]), HBS.out, HE2.out]]
        exact ⟨rfl, G, HR4.out, HU4.out.mono (by simp), fun _ hk => .inl hk⟩
      have hb1b : ((b : Int) != 1) = false := by simp; omega
      have HX1 := hide (show bs[T.size]? = some 1 by rw [HQ.out, HX.out, (HBX.out 1 (by decide)).1 hb1]; rfl)
      clear hb1
      by_cases he0 : er = 0
      case neg =>
        have heb0 : ((er : Int) != 0) = true := by simp [he0]
        have HE2 := hide (show loadS refK bs (bs.length + 1) tape0 = none by rw [hS.out, loadS, if_pos HGO.out, if_neg (fun h => he0 (by have h1 := h.2.1; rw [HQ.out, HRS.out] at h1; exact h1))])
        clear he0
        go_wp2_with fail
        refine bodyPost_ret (v := .tuple #[.pointer none, .int .i64 342]) (by simp [results, Tryz.results50, go_sem]) rfl ?_
        unfold RefOpenPost
        rw [show OpenS refK D = (none, D, 342) by unfold OpenS; rw [if_neg (by simp [HOF.out]), HBS.out, HE2.out]]
        exact ⟨rfl, G, HR4.out, HU4.out.mono (by simp), fun _ hk => .inl hk⟩
      subst he0
      obtain ⟨k, rfl, hk1, hk2, hk3⟩ := stringS_ok bs (q + 1) rec nx HRS.out
      have hkn : k ≤ N := by have := HBL.out; omega
      have hw32 : IntKind.i64.wrap ((k : Int) + 32) = ((k + 32 : Nat) : Int) := by rw [Go.IntWalk.i64_in _ (by omega)]; omega
      have HCH := hide (refChain ⟨T.head.toArray⟩ ⟨rec.toArray⟩ w4 (by show T.head.toArray.size ≤ _; rw [List.size_toArray, hT3.out.2.2]; decide) (by show rec.toArray.size ≤ _; rw [List.size_toArray]; omega))
      obtain ⟨hd, hhd⟩ : ∃ y, chainS refK T.head rec = y := ⟨_, rfl⟩
      rw [show chainS refK (⟨T.head.toArray⟩ : ByteArray).data.toList (⟨rec.toArray⟩ : ByteArray).data.toList = hd from hhd] at HCH
      have HHD := hide hhd
      clear hhd
      go_wp2_with fail
      refine HCH.out.mono ?_
      rintro e9 w5 ⟨rfl, u⟩
      have HU5 := hide (HU4.out.trans u (by simp))
      have HR5 := hide (HR4.out.upd u (by simp))
      have HJ5 := hide (HJ4.out.upd0 u)
      replace HBk := hide (keepB HBk.out u)
      clear u HCH HU4 HR4 HJ4 c2
      by_cases hk32 : k + 32 ≤ N
      case neg =>
        have hk32i : ((N : Int) < (k : Int) + 32) := by omega
        have HE2 := hide (show loadS refK bs (bs.length + 1) tape0 = none by rw [hS.out, loadS, if_pos HGO.out, if_neg (fun h => by have h1 := h.2.2.1; rw [HQ.out, HRS.out] at h1; have := HBL.out; simp only at h1; omega)])
        clear hk32
        go_wp2_with fail
        refine bodyPost_ret (v := .tuple #[.pointer none, .int .i64 342]) (by simp [results, Tryz.results50, go_sem]) rfl ?_
        unfold RefOpenPost
        rw [show OpenS refK D = (none, D, 342) by unfold OpenS; rw [if_neg (by simp [HOF.out]), HBS.out, HE2.out]]
        exact ⟨rfl, G, HR5.out, HU5.out.mono (by simp), fun _ hk => .inl hk⟩
      have hk32i : ¬ ((N : Int) < (k : Int) + 32) := by omega
      obtain ⟨pt, hpt⟩ : ∃ y, (bs.drop k).take 32 = y := ⟨_, rfl⟩
      have hex : (s.extract k (k + 32)).toList = pt := by rw [ByteArray.toList_eq, str_extract, HSB.out, show k + 32 - k = 32 by omega, ← hpt]
      have HEX := hide hex
      clear hex
      have hiff := stored_iff refK bs T rec k HX1.out (by rw [HQ.out]; exact HRS.out) (by have := HBL.out; omega)
      rw [HHD.out, hpt] at hiff
      have HIFF := hide hiff
      clear hiff hpt
      by_cases hcm : pt = hd
      case neg =>
        have hcb : ((s.extract k (k + 32)).toList == hd) = false := by rw [HEX.out]; exact str_neq hcm
        have HE2 := hide (show loadS refK bs (bs.length + 1) tape0 = none by rw [hS.out, loadS, if_pos HGO.out, if_neg (fun h => hcm (HIFF.out.1 (by have h1 := h.2.2.2; rw [HQ.out, HRS.out] at h1; simp only [Int.toNat_natCast] at h1; rw [HQ.out]; exact h1)).symm)])
        clear hcm
        go_wp2_with fail
        refine bodyPost_ret (v := .tuple #[.pointer none, .int .i64 342]) (by simp [results, Tryz.results50, go_sem]) rfl ?_
        unfold RefOpenPost
        rw [show OpenS refK D = (none, D, 342) by unfold OpenS; rw [if_neg (by simp [HOF.out]), HBS.out, HE2.out]]
        exact ⟨rfl, G, HR5.out, HU5.out.mono (by simp), fun _ hk => .inl hk⟩
      have hcb : ((s.extract k (k + 32)).toList == hd) = true := by rw [HEX.out]; exact str_eq hcm
      have HST := hide (HIFF.out.2 hcm.symm)
      have HE2 := hide (show loadS refK bs (bs.length + 1) tape0 = loadS refK bs f (T.add refK rec) by rw [hS.out, loadS, if_pos HGO.out, if_pos ⟨HX1.out, by rw [HQ.out, HRS.out], by rw [HQ.out, HRS.out]; have := HBL.out; simp only [Int.toNat_natCast]; omega, by rw [HQ.out, HRS.out]; simp only [Int.toNat_natCast]; rw [← HQ.out]; exact HST.out⟩, HQ.out, HRS.out])
      have HSZ := hide (show (T.add refK rec).size = k + 32 by
        have h1 := congrArg List.length HST.out
        rw [List.length_take, List.length_drop] at h1
        unfold storedS at h1
        unfold TapeS.add
        simp only [List.length_cons, List.length_append, chainS_length] at h1 ⊢
        have := HQ.out
        have := HBL.out
        omega)
      clear hcm
      obtain ⟨n, hn⟩ : ∃ n, T.recs.length = n := ⟨_, rfl⟩
      obtain ⟨hj1, hj2, hj3⟩ := HJ5.out
      rw [hn] at hj2 hj3
      have HN1 := hide hn
      have HB5 := hide hj2
      have HO5 := hide hj3
      have hnb : n ≤ N := by have := hT3.out.1; have := hT3.out.2.1; omega
      have c1 : w5.cell? ⟨xb, 1, none⟩ = some (.slice A n c) := (HB5.out.cell 1).trans rfl
      have HU5S := hide (show w.heap.size ≤ w5.heap.size from HU5.out.size)
      clear hj1 hj2 hj3 hn HBk
      go_upto_region 14 with fail
      go_upto_region 15 with (at_builtin; refine wpList_append_base rfl _ _ 22 rfl w.heap.size 9 (.string ⟨#[]⟩) 1 16 Tryz.underlying22 info_str rfl (by decide) A n c _ rfl (HO5.out.alloc _) ⟨w5.heap.size, 0, none⟩ 1 1 [.string ⟨rec.toArray⟩] rfl rfl (it_one_new _ _ _ _ rfl) (by simp [Value.oneCell']) (by unfold maxLen; omega) (by omega) (by have := HU5S.out; simp; omega) ?_; intro A' c' w6 hO6 hu6 hA6; have HO6 := hide hO6; have HU6 := hide hu6; have hB6 := HB5.out.alloc (.cells #[.string ⟨rec.toArray⟩] 9); have HB6 := hide (hB6.upd hu6 (fun hm => own_blk_ne (HO5.out.alloc (.cells #[.string ⟨rec.toArray⟩] 9)) hB6 (by decide) xb (by rw [ownBlock_slice]; simpa using hm) rfl)); have HR6 := hide ((HR5.out.upd ((Upd.refl [] w5).alloc (.cells #[.string ⟨rec.toArray⟩] 9)) (by simp)).upd hu6 (fun k hk hm => by have h8 := HGL.out k hk; have h9 := it_own_block HO5.out k (by rw [ownBlock_slice]; simpa using hm); omega)); have HUU6 := hide (show Upd [] w w6 from (HU5.out.trans ((Upd.refl [] w5).alloc (.cells #[.string ⟨rec.toArray⟩] 9)) (by simp)).trans hu6 (fun y hy => .inr (it_own_block HO5.out y (by rw [ownBlock_slice]; simpa using hy)))); have f1 := HB6.out.frozen 1; have d1 : w6.cell? ⟨xb, 1, none⟩ = some (.slice A n c) := (HB6.out.cell 1).trans rfl; clear hO6 hu6 hA6 hB6)
      obtain ⟨w7, hw⟩ : ∃ y, w6.setCell ⟨xb, 1, none⟩ (.slice A' (n + 1) c') = y := ⟨_, rfl⟩
      have u : Upd [xb] w6 w7 := by rw [← hw]; exact (Upd.refl _ _).setCell (.inl (by simp)) _
      have hB7 : Blk w7 xb 43 [.pointer (some ⟨x, 0, none⟩), .slice A' (n + 1) c', .int .i64 (T.size : Int), .bool false] := by rw [← hw]; exact HB6.out.set_ 1 _
      have HO7 := hide (own_kept HO6.out u (fun k hk => by have := own_blk_ne HO6.out HB6.out (by decide) k hk; simpa using this))
      have HR7 := hide (HR6.out.upd u (fun k hk hm => by have h8 := HGL.out k hk; have := HXL.out; simp at hm; omega))
      have HU7 := hide (HUU6.out.trans u (fun y hy => .inr (by have := HXL.out; simp at hy; omega)))
      have HB7 := hide hB7
      rw [hw]
      clear hw u hB7 HO5 HO6 HU6 HB5 HB6 HR6 HUU6 f1 d1 c1 HR5 HU5 HJ5
      have f2 := HB7.out.frozen 2
      have d2 : w7.cell? ⟨xb, 2, none⟩ = some (.int .i64 (T.size : Int)) := (HB7.out.cell 2).trans rfl
      go_wp2_with fail
      obtain ⟨w8, hw⟩ : ∃ y, w7.setCell ⟨xb, 2, none⟩ (.int .i64 ((k : Int) + 32)) = y := ⟨_, rfl⟩
      have u : Upd [xb] w7 w8 := by rw [← hw]; exact (Upd.refl _ _).setCell (.inl (by simp)) _
      have HJ8 := hide (show RJAt w8 w.heap.size xb x A' c' (T.add refK rec) false from ⟨HXL.out, by rw [show (T.add refK rec).recs.length = n + 1 by unfold TapeS.add; simp [HN1.out], HSZ.out, show ((k + 32 : Nat) : Int) = (k : Int) + 32 by omega, ← hw]; exact HB7.out.set_ 2 _, by
        rw [show (T.add refK rec).recs.length = n + 1 by unfold TapeS.add; simp [HN1.out], show (T.add refK rec).recs.map strV = T.recs.map strV ++ [.string ⟨rec.toArray⟩] by unfold TapeS.add; rw [List.map_append]; rfl]
        exact own_kept HO7.out u (fun k hk => by have := own_blk_ne HO7.out HB7.out (by decide) k hk; simpa using this)⟩)
      have HR8 := hide (HR7.out.upd u (fun k hk hm => by have h8 := HGL.out k hk; have := HXL.out; simp at hm; omega))
      have HU8 := hide (HU7.out.trans u (fun y hy => .inr (by have := HXL.out; simp at hy; omega)))
      rw [hw]
      clear hw u HR7 HU7 HB7 HO7 f2 d2
      go_roundw
      case rel => exact ⟨T.add refK rec, A', c', f, by unfold TapeS.add; rw [← HHD.out], HE2, hide (by have := HSZ.out; have := hF.out; have := HQ.out; omega), HJ8, HU8, HR8, hide ⟨by have := HSZ.out; have := hT3.out.1; have := HQ.out; unfold TapeS.add; simp only [List.length_append, List.length_singleton]; unfold TapeS.add at *; simp only at *; omega, by have := HSZ.out; omega, by unfold TapeS.add; exact chainS_length _ _ _⟩⟩
      case measure => rw [sizeIn_rj HJ8.out, HMS.out, HSZ.out]; omega
end Go.Proofs.YtafjolibfbccbaaGreatDoor

namespace Go.Proofs.YtafjolibfbccbaaGreatDoor
open Go.RowKit
set_option maxRecDepth 100000
set_option maxHeartbeats 40000000

theorem strs_src {w : World} {la : Option Addr} {n : Nat} {l : List ByteArray} (hl : l.length = n) (hS : StrsAt w la l) : (la = none ∧ n = 0) ∨ ∃ ad, la = some ad ∧ ∀ j u, (l.map Value.string)[j]? = some u → w.cell? (ad.add j) = some u := by
  cases la with
  | none =>
    left
    refine ⟨rfl, ?_⟩
    cases l with
    | nil => exact hl.symm
    | cons s l => obtain ⟨b, o, e, _⟩ := hS 0 s rfl; cases e
  | some ad =>
    right
    refine ⟨ad, rfl, fun j u hj => ?_⟩
    rw [List.getElem?_map] at hj
    obtain ⟨s, hs, rfl⟩ := Option.map_eq_some_iff.1 hj
    obtain ⟨b, o, e, h⟩ := hS j s hs
    cases e
    rw [plain_add rfl]
    exact h
theorem refRoom {base : Nat} {G : List Nat} {D : DiskS} (xb x : Nat) (A : Option Addr) (c : Nat) (T : TapeS) (br : Bool) (w : World) (hJ : RJAt w base xb x A c T br) (hR : IsRef w G x D) (hts : T.size ≤ D.sure.length) :
    Calls Tryz.prog 21 #[.pointer (some ⟨xb, 0, none⟩)] w fun e w' => e = .returned (.int .i64 ((D.sure.length - T.size : Nat) : Int)) ∧ Upd [] w w' := by
  obtain ⟨gd, cs, r0, A0, c0, h0⟩ := hR
  have hmx := h0.ok.max
  obtain ⟨N, hN⟩ : ∃ N, D.sure.length = N := ⟨_, rfl⟩
  obtain ⟨q, hq⟩ : ∃ q, T.size = q := ⟨_, rfl⟩
  have c0 : w.cell? ⟨x, 0, none⟩ = some (.slice (some ⟨gd, 0, none⟩) N cs) := by rw [← hN]; exact h0.head.cell 0
  have k0 : w.cell? ⟨xb, 0, none⟩ = some (.pointer (some ⟨x, 0, none⟩)) := (hJ.2.1.cell 0).trans rfl
  have k2 : w.cell? ⟨xb, 2, none⟩ = some (.int .i64 (q : Int)) := by rw [← hq]; exact (hJ.2.1.cell 2).trans rfl
  rw [hN, hq] at hts ⊢
  rw [hN] at hmx
  have hsub : IntKind.i64.wrap ((N : Int) - (q : Int)) = ((N - q : Nat) : Int) := by rw [Go.IntWalk.i64_in _ (by omega)]; omega
  clear hN hq h0 hJ
  go_enter Tryz.func21, Tryz.ntmps21
  go_wp2_with fail
  go_region
  go_wp2_with fail
  go_ret
  exact ⟨rfl, (Upd.refl [] _).drew⟩
def RefAppPost (base xb x : Nat) (G : List Nat) (A : Option Addr) (T : TapeS) (D : DiskS) (br : Bool) (l : List ByteArray) (w : World) (e : Ending) (w' : World) : Prop :=
  e = .returned (.int .i64 (appendS refK T D br l).2.2.2) ∧ ∃ A' c' G', RJAt w' base xb x A' c' (appendS refK T D br l).1 (appendS refK T D br l).2.2.1 ∧ IsRef w' G' x (appendS refK T D br l).2.1 ∧ Upd (xb :: G) w w' ∧
    (∀ k ∈ G', k ∈ G ∨ w.heap.size ≤ k) ∧ (∀ k ∈ (A'.map (·.block)).toList, k ∈ (A.map (·.block)).toList ∨ w.heap.size ≤ k) ∧ (∀ k ∈ xb :: (A'.map (·.block)).toList, k ∉ G')
theorem refAppend {G : List Nat} {D : DiskS} (base xb x : Nat) (A : Option Addr) (c : Nat) (T : TapeS) (br : Bool) (la : Option Addr) (ln lc : Nat) (l : List ByteArray) (w : World)
    (hJ : RJAt w base xb x A c T br) (hR : IsRef w G x D) (hxg : ∀ k ∈ xb :: (A.map (·.block)).toList, k ∉ G) (hi : DInv 1000 D) (hT : TInv T) (hts : T.size ≤ D.sure.length) (hl : l.length = ln) (hla : ln ≤ 1000) (hS : StrsAt w la l) (hsg : ∀ (b o : Nat), la = some ⟨b, o, none⟩ → b ∉ G) (hb : ∀ s ∈ l, s.size ≤ 3600) (hbase : base ≤ w.heap.size) :
    Calls Tryz.prog 12 #[.pointer (some ⟨xb, 0, none⟩), .slice la ln lc] w (RefAppPost base xb x G A T D br l w) := by
  have HSG := hide (show ∀ (b o : Nat), la = some ⟨b, o, none⟩ → b ∉ G from hsg)
  clear hsg
  have HJ := hide hJ
  have HR := hide hR
  have HXG := hide hxg
  have HI := hide hi
  have HT := hide hT
  have HL := hide hl
  have HS := hide hS
  have HB := hide hb
  have HLA := hide hla
  have HTS := hide hts
  have HBASE := hide hbase
  have HGL := hide hR.lt
  obtain ⟨n, hn⟩ : ∃ n, T.recs.length = n := ⟨_, rfl⟩
  obtain ⟨q, hq⟩ : ∃ q, T.size = q := ⟨_, rfl⟩
  obtain ⟨N, hN⟩ : ∃ N, D.sure.length = N := ⟨_, rfl⟩
  have hNm : N ≤ 4194304 := by rw [← hN]; obtain ⟨_, _, _, _, _, h9⟩ := hR; exact h9.ok.max
  have hqN : q ≤ N := by rw [← hN, ← hq]; exact hts
  have hnq : 33 * n ≤ q := by rw [← hn, ← hq]; exact hT.2.2
  have HN := hide hn
  have HQ := hide hq
  have HNN := hide hN
  have hB0 : Blk w xb 43 [.pointer (some ⟨x, 0, none⟩), .slice A n c, .int .i64 (q : Int), .bool br] := by rw [← hn, ← hq]; exact hJ.2.1
  have HB0 := hide hB0
  have c3 : w.cell? ⟨xb, 3, none⟩ = some (.bool br) := (hB0.cell 3).trans rfl
  clear hJ hR hxg hi hT hl hS hb hla hts hbase hn hq hN hB0
  have HLN := hide (show anyLong l = false by unfold anyLong; rw [List.any_eq_false]; intro s hs; have := HB.out s hs; simp; omega)
  cases br with
  | true =>
    have HE := hide (show appendS refK T D true l = (T, D, true, 340) by unfold appendS; rw [if_pos (.inl rfl)])
    go_enter Tryz.func12, Tryz.ntmps12
    go_wp2_with fail
    go_ret
    unfold RefAppPost
    rw [HE.out]
    exact ⟨rfl, A, c, G, HJ.out, HR.out, Upd.refl _ _, fun _ hk => .inl hk, fun _ hk => .inl hk, HXG.out⟩
  | false =>
    have c1 : w.cell? ⟨xb, 1, none⟩ = some (.slice A n c) := (HB0.out.cell 1).trans rfl
    have HHD := hide (refHeadL A n c T.recs w HN.out (strs_own (by have h9 := HJ.out.2.2; rw [HN.out] at h9; exact h9)) HT.out.2.1 (by omega))
    rw [← HT.out.1] at HHD
    go_enter Tryz.func12, Tryz.ntmps12
    go_wp2_with fail
    refine HHD.out.mono ?_
    rintro e w1 ⟨rfl, u⟩
    have HU := hide u
    clear u HHD c1 c3
    go_wp2_with fail
    go_loopw [5, 6, 7] (fun s5 s6 s7 wr => ∃ (k : Nat) (Tk : TapeS) (out : List UInt8), k ≤ ln ∧ s5 = strV out ∧ s6 = strV Tk.head ∧ s7 = .int .i64 k ∧ Hid (addAll refK T (l.take k) = (Tk, out)) ∧ Hid (Upd [] w wr) ∧ Hid (Tk.head.length = 32 ∧ Tk.size = q + out.length ∧ out.length ≤ k * 4000 ∧ (0 < k → 0 < out.length))) (fun _ _ s _ => ln - (intOf s).toNat)
    case atStart => exact ⟨0, T, [], Nat.zero_le _, rfl, rfl, rfl, hide (by rw [List.take_zero]; rfl), HU, hide ⟨HT.out.head32, by rw [HQ.out]; rfl, by simp, by omega⟩⟩
    case round =>
      have hla2 : ln ≤ 1000 := HLA.out
      clear HU
      obtain ⟨k, Tk, out, hk, rfl, rfl, rfl, hAd, hU, hBd⟩ := hrel
      obtain ⟨wo, rfl⟩ : ∃ y : World, y = wr := ⟨_, rfl⟩
      unfold strV
      by_cases hkn : k < ln
      case pos =>
        have hki : (k : Int) < ln := by omega
        have hkw : IntKind.i64.wrap ((k : Int) + 1) = (k : Int) + 1 := Go.IntWalk.i64_in _ (by omega)
        obtain ⟨r, hr⟩ : ∃ r, l[k]? = some r := ⟨_, List.getElem?_eq_getElem (by have := HL.out; omega)⟩
        obtain ⟨lb, lo, rfl, hc⟩ := HS.out k r hr
        have hrc : wo.cell? ⟨lb, lo + k, none⟩ = some (.string r) := keepc _ _ _ _ hU.out hc
        have hr6 := HB.out r (List.mem_of_getElem? hr)
        have hr65 : ¬ (65536 : Int) < (r.size : Int) := by omega
        have HST := hide (refStored Tk r wo hBd.out.1 hr6)
        have HRR := hide hr
        clear hr hc
        obtain ⟨st, hst⟩ : ∃ y, storedS refK Tk r.data.toList = y := ⟨_, rfl⟩
        rw [hst] at HST
        have hstl : st.length = (putStrS r.data.toList).length + 33 := by rw [← hst]; unfold storedS; simp only [List.length_cons, List.length_append, chainS_length]
        have hpl : (putStrS r.data.toList).length ≤ 3609 := by unfold putStrS; rw [List.length_append]; have h1 : r.data.toList.length = r.size := Lib.size_eq r ▸ rfl; have h2 := putS_len (r.data.toList.length : Int) (by omega) (by omega); omega
        have HADK := hide (show addAll refK T (l.take (k + 1)) = (Tk.add refK r.data.toList, out ++ st) by rw [List.take_add_one, HRR.out, Option.toList_some, addAll_snoc, hAd.out, ← hst])
        have HB2 := hide (show (Tk.add refK r.data.toList).head.length = 32 ∧ (Tk.add refK r.data.toList).size = q + (out ++ st).length ∧ (out ++ st).length ≤ (k + 1) * 4000 ∧ (0 < k + 1 → 0 < (out ++ st).length) from ⟨by unfold TapeS.add; exact chainS_length _ _ _, by unfold TapeS.add; simp only [List.length_append]; have := hBd.out.2.1; omega, by rw [List.length_append, Nat.add_mul]; have := hBd.out.2.2.1; omega, fun _ => by rw [List.length_append]; omega⟩)
        have HHE := hide (show chainS refK Tk.head r.data.toList = (Tk.add refK r.data.toList).head from rfl)
        obtain ⟨Tn, hTn⟩ : ∃ y, Tk.add refK r.data.toList = y := ⟨_, rfl⟩
        rw [hTn] at HADK HB2 HHE
        rw [HHE.out] at HST
        have hol : out.length ≤ 4000000 := by have := hBd.out.2.2.1; have : k * 4000 ≤ 1000 * 4000 := Nat.mul_le_mul_right _ (by omega); omega
        have hsum : ¬ 9223372036854775807 < out.length + st.length := by omega
        obtain ⟨ob, hob⟩ : ∃ y : ByteArray, ⟨out.toArray⟩ = y := ⟨_, rfl⟩
        obtain ⟨sb, hsb⟩ : ∃ y : ByteArray, ⟨st.toArray⟩ = y := ⟨_, rfl⟩
        have HCAT := hide (show (⟨(out ++ st).toArray⟩ : ByteArray) = ob ++ sb by rw [← hob, ← hsb]; apply ByteArray.ext; apply Array.toList_inj.1; simp [ByteArray.data_append])
        have hos : ob.size = out.length := by rw [← hob]; simp [ByteArray.size]
        have hss : sb.size = st.length := by rw [← hsb]; simp [ByteArray.size]
        rw [hob]
        rw [hsb] at HST
        have hsum2 : ¬ 9223372036854775807 < ob.size + sb.size := by omega
        clear hst hTn hstl hpl hob hsb hos hss hol hsum
        go_wp2_with fail
        refine HST.out.mono ?_
        rintro e w5 ⟨rfl, u⟩
        have HU5 := hide (hU.out.trans u (by simp))
        clear u HST hU hrc
        go_wp2_with fail
        go_roundw
        case rel => exact ⟨k + 1, Tn, out ++ st, by omega, by rw [HCAT.out], rfl, by go_num, HADK, HU5, HB2⟩
        case measure => simp [intOf] <;> omega
      obtain rfl : k = ln := by omega
      have hki : ¬ (k : Int) < k := by omega
      have HADK := hide (show addAll refK T l = (Tk, out) by have h9 := hAd.out; rwa [List.take_of_length_le (by have := HL.out; omega)] at h9)
      clear hAd
      have HR1 := hide (HR.out.upd hU.out (by simp))
      have HJ1 := hide (HJ.out.upd0 hU.out)
      have HB1 := hide (keepB HB0.out hU.out)
      have HRM := hide (refRoom xb x A c T false wo HJ1.out HR1.out HTS.out)
      rw [HNN.out, HQ.out] at HRM
      obtain ⟨rm, hrm⟩ : ∃ y, N - q = y := ⟨_, rfl⟩
      rw [hrm] at HRM
      have HRMN := hide hrm
      obtain ⟨ol, hol⟩ : ∃ y, out.length = y := ⟨_, rfl⟩
      obtain ⟨ob, hob⟩ : ∃ y : ByteArray, ⟨out.toArray⟩ = y := ⟨_, rfl⟩
      have hobl : ob.data.toList = out := by rw [← hob]
      have hos : ob.size = ol := by rw [← hob, ← hol]; simp [ByteArray.size]
      have hom : ol ≤ 4000000 := by have := hBd.out.2.2.1; have : k * 4000 ≤ 1000 * 4000 := Nat.mul_le_mul_right _ (by omega); omega
      rw [hob]
      have HOL := hide hol
      have HOB := hide hobl
      clear hol hob hobl hrm
      by_cases hfit : rm < ol
      case pos =>
        have HE := hide (show appendS refK T D false l = (T, D, false, 341) by unfold appendS; rw [if_neg (by rw [HLN.out]; simp), HADK.out, if_pos (by rw [HNN.out, HQ.out, HRMN.out, HOL.out]; exact hfit)])
        have hfi : (rm : Int) < (ol : Int) := by omega
        go_wp2_with fail
        refine HRM.out.mono ?_
        rintro e w6 ⟨rfl, u⟩
        have HR1 := hide (HR1.out.upd u (by simp))
        have HJ1 := hide (HJ1.out.upd0 u)
        have HB1 := hide (keepB HB1.out u)
        have hU := hide (hU.out.trans u (by simp))
        clear u
        go_wp2_with fail
        go_ret
        unfold RefAppPost
        rw [HE.out]
        exact ⟨rfl, A, c, G, HJ1.out, HR1.out, hU.out.mono (by simp), fun _ hk => .inl hk, fun _ hk => .inl hk, HXG.out⟩
      have hfi : ¬ (rm : Int) < (ol : Int) := by omega
      by_cases ho0 : out = []
      case pos =>
        have HE := hide (show appendS refK T D false l = (T, D, false, 0) by unfold appendS; rw [if_neg (by rw [HLN.out]; simp), HADK.out, if_neg (by rw [HNN.out, HQ.out, HRMN.out, HOL.out]; exact hfit), ho0])
        have hem : ob.toList.isEmpty = true := by rw [ByteArray.toList_eq, HOB.out, ho0]; rfl
        clear ho0
        go_wp2_with fail
        refine HRM.out.mono ?_
        rintro e w6 ⟨rfl, u⟩
        have HR1 := hide (HR1.out.upd u (by simp))
        have HJ1 := hide (HJ1.out.upd0 u)
        have HB1 := hide (keepB HB1.out u)
        have hU := hide (hU.out.trans u (by simp))
        clear u
        go_wp2_with fail
        go_ret
        unfold RefAppPost
        rw [HE.out]
        exact ⟨rfl, A, c, G, HJ1.out, HR1.out, hU.out.mono (by simp), fun _ hk => .inl hk, fun _ hk => .inl hk, HXG.out⟩
      have hem : ob.toList.isEmpty = false := by rw [ByteArray.toList_eq, HOB.out]; cases out with
                                                                                    | nil => exact absurd rfl ho0
                                                                                    | cons _ _ => rfl
      obtain ⟨ch, t, hct⟩ : ∃ ch t, out = ch :: t := by
        cases out with
        | nil => exact absurd rfl ho0
        | cons ch t => exact ⟨ch, t, rfl⟩
      have HCT := hide hct
      have HE := hide (show appendS refK T D false l = (let r := runOps D [.write ((q : Int) + 1) ⟨t.toArray⟩, .sync, .write (q : Int) ⟨#[ch]⟩, .sync]; if r.2 ≠ 0 then (T, r.1, true, r.2) else (Tk, r.1, false, 0)) by unfold appendS; rw [if_neg (by rw [HLN.out]; simp), HADK.out, if_neg (by rw [HNN.out, HQ.out, HRMN.out, HOL.out]; exact hfit), HQ.out, hct])
      have hq1 : IntKind.i64.wrap ((q : Int) + 1) = ((q + 1 : Nat) : Int) := by rw [Go.IntWalk.i64_in _ (by omega)]; omega
      have hol1 : 1 ≤ ol := by have := HOL.out; rw [hct] at this; simp at this; omega
      have hsl := fun W => slice_str_l (P := Tryz.prog) W Tryz.underlying9 ob HOB.out 1 (by omega) (1 : Int) rfl
      have hsh := fun W => slice_str_h (P := Tryz.prog) W Tryz.underlying9 ob HOB.out 1 (by omega) (1 : Int) rfl
      rw [hct, show (ch :: t).drop 1 = t from rfl] at hsl
      rw [hct, show (ch :: t).take 1 = [ch] from rfl] at hsh
      obtain ⟨tb, htb⟩ : ∃ y : ByteArray, ⟨t.toArray⟩ = y := ⟨_, rfl⟩
      obtain ⟨cb, hcb⟩ : ∃ y : ByteArray, ⟨[ch].toArray⟩ = y := ⟨_, rfl⟩
      rw [htb] at hsl
      rw [hcb] at hsh
      rw [htb, show (⟨#[ch]⟩ : ByteArray) = cb from hcb] at HE
      clear htb hcb hct ho0
      go_wp2_with fail
      refine HRM.out.mono ?_
      rintro e w6 ⟨rfl, u⟩
      have HR1 := hide (HR1.out.upd u (by simp))
      have HJ1 := hide (HJ1.out.upd0 u)
      have HB1 := hide (keepB HB1.out u)
      have hU := hide (hU.out.trans u (by simp))
      clear u
      clear HRM
      go_upto_region 17 with fail
      have HU1 := hide (hU.out.mono (l' := G) (by simp))
      have HG0 := hide (show ∀ k ∈ G, k ∈ G ∨ w.heap.size ≤ k from fun _ hk => .inl hk)
      clear hU HB0 HR HJ
      refine wp_region_held_drew (S := (fun w' => w'.cell? ⟨xb, 0, none⟩ = some (.pointer (some ⟨x, 0, none⟩)) ∧ w'.cell? ⟨xb, 2, none⟩ = some (.int .i64 (q : Int)))) (by kernel_rfl) (by exact ⟨(HB1.out.cell 0).trans rfl, (HB1.out.cell 2).trans rfl⟩) (fun hHeld => ?_)
      obtain ⟨v1, hw⟩ : ∃ y, w6.drew = y := ⟨_, rfl⟩
      have u : Upd [] w6 v1 := by rw [← hw]; exact (Upd.refl [] _).drew
      rw [hw] at hHeld ⊢
      clear hw
      replace HR1 := hide (HR1.out.upd u (by simp))
      replace HJ1 := hide (HJ1.out.upd0 u)
      replace HB1 := hide (keepB HB1.out u)
      replace HU1 := hide (HU1.out.trans u (by simp))
      clear u
      refine wpAnyH_take (i := 0) (oi := ?oi0M2) (v := ?v0M2) ?oi0_0M2 (by kernel_rfl) ?ff0M2 ?rr0M2 ?hq0M2 (Or.inl ⟨?hw0M2, ?hy0M2⟩) (by assumption) ?rest0M2
      case oi0_0M2 => conv => lhs; whnf; arg 1; whnf
      case hq0M2 => exact fun _ _ _ h => h
      case ff0M2 | rr0M2 => kernel_rfl
      case hw0M2 => rfl
      case hy0M2 => intro w hSw; (try dsimp only at hSw); first | (go_simp; done) | (go_simp; with_reducible rfl)
      try simp only [Act.put, List.setIfInBounds_toArray, List.set_cons_zero, List.set_cons_succ]
      refine wpAnyH_take (i := 1) (oi := ?oi1M2) (v := ?v1M2) ?oi0_1M2 (by kernel_rfl) ?ff1M2 ?rr1M2 ?hq1M2 (Or.inl ⟨?hw1M2, ?hy1M2⟩) (by assumption) ?rest1M2
      case oi0_1M2 => conv => lhs; whnf; arg 1; whnf
      case hq1M2 => exact fun _ _ _ h => h
      case ff1M2 | rr1M2 => kernel_rfl
      case hw1M2 => rfl
      case hy1M2 => intro w hSw; (try dsimp only at hSw); first | (go_simp; done) | (go_simp; with_reducible rfl)
      try simp only [Act.put, List.setIfInBounds_toArray, List.set_cons_zero, List.set_cons_succ]
      refine wpAnyH_take (i := 2) (oi := ?oi2M2) (v := ?v2M2) ?oi0_2M2 (by kernel_rfl) ?ff2M2 ?rr2M2 ?hq2M2 (Or.inl ⟨?hw2M2, ?hy2M2⟩) (by assumption) ?rest2M2
      case oi0_2M2 => conv => lhs; whnf; arg 1; whnf
      case hq2M2 => exact fun _ _ _ h => h
      case ff2M2 | rr2M2 => kernel_rfl
      case hw2M2 => rfl
      case hy2M2 => intro w hSw; (try dsimp only at hSw); first | (go_simp; done) | (go_simp; with_reducible rfl)
      try simp only [Act.put, List.setIfInBounds_toArray, List.set_cons_zero, List.set_cons_succ]
      refine wpAnyH_take (i := 3) (oi := ?oi3M2) (v := ?v3M2) ?oi0_3M2 (by kernel_rfl) ?ff3M2 ?rr3M2 ?hq3M2 (Or.inl ⟨?hw3M2, ?hy3M2⟩) (by assumption) ?rest3M2
      case oi0_3M2 => conv => lhs; whnf; arg 1; whnf
      case hq3M2 => exact fun _ _ _ h => h
      case ff3M2 | rr3M2 => kernel_rfl
      case hw3M2 => rfl
      case hy3M2 => intro w hSw; (try dsimp only at hSw); first | (go_simp; done) | (go_simp; with_reducible rfl)
      try simp only [Act.put, List.setIfInBounds_toArray, List.set_cons_zero, List.set_cons_succ]
      refine wpAnyH_take (i := 4) (oi := ?oi4M2) (v := ?v4M2) ?oi0_4M2 (by kernel_rfl) ?ff4M2 ?rr4M2 ?hq4M2 (Or.inl ⟨?hw4M2, ?hy4M2⟩) (by assumption) ?rest4M2
      case oi0_4M2 => conv => lhs; whnf; arg 1; whnf
      case hq4M2 => exact fun _ _ _ h => h
      case ff4M2 | rr4M2 => kernel_rfl
      case hw4M2 => rfl
      case hy4M2 => intro w hSw; (try dsimp only at hSw); first | (go_simp; done) | (go_simp; with_reducible rfl)
      try simp only [Act.put, List.setIfInBounds_toArray, List.set_cons_zero, List.set_cons_succ]
      refine wpAnyH_take (i := 5) (oi := ?oi5M2) (v := ?v5M2) ?oi0_5M2 (by kernel_rfl) ?ff5M2 ?rr5M2 ?hq5M2 (Or.inl ⟨?hw5M2, ?hy5M2⟩) (by assumption) ?rest5M2
      case oi0_5M2 => conv => lhs; whnf; arg 1; whnf
      case hq5M2 => exact fun _ _ _ h => h
      case ff5M2 | rr5M2 => kernel_rfl
      case hw5M2 => rfl
      case hy5M2 => intro w hSw; (try dsimp only at hSw); first | (go_simp; done) | (go_simp; with_reducible rfl)
      try simp only [Act.put, List.setIfInBounds_toArray, List.set_cons_zero, List.set_cons_succ]
      refine wpAnyH_take (i := 6) (oi := ?oi6M2) (v := ?v6M2) ?oi0_6M2 (by kernel_rfl) ?ff6M2 ?rr6M2 ?hq6M2 (Or.inl ⟨?hw6M2, ?hy6M2⟩) (by assumption) ?rest6M2
      case oi0_6M2 => conv => lhs; whnf; arg 1; whnf
      case hq6M2 => exact fun _ _ _ h => h
      case ff6M2 | rr6M2 => kernel_rfl
      case hw6M2 => rfl
      case hy6M2 => intro w hSw; (try dsimp only at hSw); first | (go_simp; done) | (go_simp; with_reducible rfl)
      try simp only [Act.put, List.setIfInBounds_toArray, List.set_cons_zero, List.set_cons_succ]
      refine wpAnyH_take (i := 7) (oi := ?oi7M2) (v := ?v7M2) ?oi0_7M2 (by kernel_rfl) ?ff7M2 ?rr7M2 ?hq7M2 (Or.inl ⟨?hw7M2, ?hy7M2⟩) (by assumption) ?rest7M2
      case oi0_7M2 => conv => lhs; whnf; arg 1; whnf
      case hq7M2 => exact fun _ _ _ h => h
      case ff7M2 | rr7M2 => kernel_rfl
      case hw7M2 => rfl
      case hy7M2 => intro w hSw; (try dsimp only at hSw); first | (go_simp; done) | (go_simp; with_reducible rfl)
      try simp only [Act.put, List.setIfInBounds_toArray, List.set_cons_zero, List.set_cons_succ]
      refine wpAnyH_take (i := 8) (oi := ?oi8M2) (v := ?v8M2) ?oi0_8M2 (by kernel_rfl) ?ff8M2 ?rr8M2 ?hq8M2 (Or.inl ⟨?hw8M2, ?hy8M2⟩) (by assumption) ?rest8M2
      case oi0_8M2 => conv => lhs; whnf; arg 1; whnf
      case hq8M2 => exact fun _ _ _ h => h
      case ff8M2 | rr8M2 => kernel_rfl
      case hw8M2 => rfl
      case hy8M2 => intro w hSw; (try dsimp only at hSw); first | (go_simp; done) | (go_simp; with_reducible rfl)
      try simp only [Act.put, List.setIfInBounds_toArray, List.set_cons_zero, List.set_cons_succ]
      refine wpAnyH_take (i := 9) (oi := ?oi9M2) (v := ?v9M2) ?oi0_9M2 (by kernel_rfl) ?ff9M2 ?rr9M2 ?hq9M2 (Or.inl ⟨?hw9M2, ?hy9M2⟩) (by assumption) ?rest9M2
      case oi0_9M2 => conv => lhs; whnf; arg 1; whnf
      case hq9M2 => exact fun _ _ _ h => h
      case ff9M2 | rr9M2 => kernel_rfl
      case hw9M2 => rfl
      case hy9M2 => intro w hSw; (try dsimp only at hSw); first | (go_simp; done) | (go_simp; with_reducible rfl)
      try simp only [Act.put, List.setIfInBounds_toArray, List.set_cons_zero, List.set_cons_succ]
      refine wpAnyH_take (i := 10) (oi := ?oi10M2) (v := ?v10M2) ?oi0_10M2 (by kernel_rfl) ?ff10M2 ?rr10M2 ?hq10M2 (Or.inl ⟨?hw10M2, ?hy10M2⟩) (by assumption) ?rest10M2
      case oi0_10M2 => conv => lhs; whnf; arg 1; whnf
      case hq10M2 => exact fun _ _ _ h => h
      case ff10M2 | rr10M2 => kernel_rfl
      case hw10M2 => rfl
      case hy10M2 => intro w hSw; (try dsimp only at hSw); first | (go_simp; done) | (go_simp; with_reducible rfl)
      try simp only [Act.put, List.setIfInBounds_toArray, List.set_cons_zero, List.set_cons_succ]
      refine wpAnyH_ready (rs := [11]) (by kernel_rfl) (by simp) (AllReadyH.cons (o := ?oiM3) ?oi0_M3 (fun K hK => ?_) AllReadyH.nil)
      case oi0_M3 => conv => lhs; whnf; arg 1; whnf
      go_simp
      have HC1 := hide (refWrite ((q : Int) + 1) tb v1 HR1.out (by have := HI.out.2.2; omega))
      obtain ⟨D1, e1, hop⟩ : ∃ a b, D.write ((q : Int) + 1) tb.data.toList = (a, b) := ⟨_, _, rfl⟩
      have HI1 := hide (show DInv 1001 D1 by have := (HI.out.write ((q : Int) + 1) tb.data.toList).1; rw [hop] at this; exact this)
      rw [hop] at HC1
      have HOP1 := hide hop
      clear hop
      try rw [show ((q + 1 : Nat) : Int) = (q : Int) + 1 by omega]
      refine HC1.out.mono ?_
      rintro e w2' ⟨rfl, G1, hr1, u, hg1⟩
      have HR2 := hide hr1
      have HJ2 := hide (HJ1.out.stay u (fun hm => HXG.out xb (by simp) hm) (fun k hk hm => HXG.out k (List.mem_cons_of_mem _ hk) hm))
      have HB2 := hide (HB1.out.upd u (fun hm => HXG.out xb (by simp) hm))
      have HU2 := hide (HU1.out.trans u HG0.out)
      have HG1 := hide (show ∀ k ∈ G1, k ∈ G ∨ w.heap.size ≤ k from fun k hk => (hg1 k hk).elim (fun h => HG0.out k h) (fun h => .inr (Nat.le_trans HU1.out.size h)))
      have HXG1 := hide (show ∀ k ∈ xb :: (A.map (·.block)).toList, k ∉ G1 from fun k hk hm => (hg1 k hm).elim (fun h => HXG.out k hk h) (fun h => by have h9 := HJ1.out.lt k hk; omega))
      clear hr1 u hg1 HC1 HJ1 HB1 HU1 HR1
      skip
      have hc2 : w2'.cell? ⟨xb, 0, none⟩ = some (.pointer (some ⟨x, 0, none⟩)) ∧ w2'.cell? ⟨xb, 2, none⟩ = some (.int .i64 (q : Int)) := ⟨(HB2.out.cell 0).trans rfl, (HB2.out.cell 2).trans rfl⟩
      (try dsimp only)
      refine hK.out _ _ (by exact hc2) (fun hHeld => ?_)
      clear hK K hc2
      try simp only [Act.put, List.setIfInBounds_toArray, List.set_cons_zero, List.set_cons_succ]
      refine wpAnyH_take (i := 12) (oi := ?oi12M4) (v := ?v12M4) ?oi0_12M4 (by kernel_rfl) ?ff12M4 ?rr12M4 ?hq12M4 (Or.inl ⟨?hw12M4, ?hy12M4⟩) (by assumption) ?rest12M4
      case oi0_12M4 => conv => lhs; whnf; arg 1; whnf
      case hq12M4 => exact fun _ _ _ h => h
      case ff12M4 | rr12M4 => kernel_rfl
      case hw12M4 => rfl
      case hy12M4 => intro w hSw; (try dsimp only at hSw); first | (go_simp; done) | (go_simp; with_reducible rfl)
      try simp only [Act.put, List.setIfInBounds_toArray, List.set_cons_zero, List.set_cons_succ]
      refine wpAnyH_done (by kernel_rfl) ?_ _
      clear hHeld
      by_cases he : e1 = 0
      case neg =>
        have g1 : ((e1 : Int) == 0) = false := by simp [he]
        have g2 : ((e1 : Int) != 0) = true := by simp [he]
        have HRO := hide (show runOps D [.write ((q : Int) + 1) tb, .sync, .write (q : Int) cb, .sync] = (D1, e1) by rw [runOps_stop (by show (DOp.run D (.write ((q : Int) + 1) tb)).2 ≠ 0; rw [show DOp.run D (.write ((q : Int) + 1) tb) = (D1, e1) from HOP1.out]; exact he)]; exact HOP1.out)
        have HO1 := hide (show appendS refK T D false l = (T, D1, true, e1) by rw [HE.out, HRO.out]; simp only; rw [if_pos he])
        clear he
        have f3 := HB2.out.frozen 3
        have d3 : w2'.cell? ⟨xb, 3, none⟩ = some (.bool false) := (HB2.out.cell 3).trans rfl
        go_wp2_with fail
        obtain ⟨w9, hw⟩ : ∃ y, w2'.setCell ⟨xb, 3, none⟩ (.bool true) = y := ⟨_, rfl⟩
        have u : Upd [xb] w2' w9 := by rw [← hw]; exact (Upd.refl _ _).setCell (.inl (by simp)) _
        rw [hw]
        have HJ9 := hide (show RJAt w9 base xb x A c T true from ⟨HJ2.out.1, by rw [HN.out, HQ.out, ← hw]; exact HB2.out.set_ 3 _, own_kept HJ2.out.2.2 u (fun k hk => by have := own_blk_ne HJ2.out.2.2 HB2.out (by decide) k hk; simpa using this)⟩)
        have HR9 := hide (HR2.out.upd u (fun k hk hm => HXG1.out xb (by simp) (by simp at hm; rw [← hm]; exact hk)))
        have HU9 := hide ((HU2.out.mono (l' := xb :: G) (fun y hy => .inl (List.mem_cons_of_mem _ hy))).trans u (fun y hy => .inl (by simp at hy; simp [hy])))
        clear hw u f3 d3
        go_ret
        unfold RefAppPost
        rw [HO1.out]
        exact ⟨rfl, A, c, G1, HJ9.out, HR9.out, HU9.out, HG1.out, fun _ hk => .inl hk, HXG1.out⟩
      subst he
      skip
      have c0 : w2'.cell? ⟨xb, 0, none⟩ = some (.pointer (some ⟨x, 0, none⟩)) := (HB2.out.cell 0).trans rfl
      go_wp2_with fail
      have HC2 := hide (refSync w2' HR2.out (by have := HI1.out.2.2; omega) HI1.out.1)
      obtain ⟨D2, e2, hop⟩ : ∃ a b, D1.sync = (a, b) := ⟨_, _, rfl⟩
      have HI2 := hide (show DInv 1002 D2 by have := (HI1.out.sync).1; rw [hop] at this; exact this)
      rw [hop] at HC2
      have HOP2 := hide hop
      clear hop
      refine HC2.out.mono ?_
      rintro e w3' ⟨rfl, G2, hr1, u, hg1⟩
      have HR3 := hide hr1
      have HJ3 := hide (HJ2.out.stay u (fun hm => HXG1.out xb (by simp) hm) (fun k hk hm => HXG1.out k (List.mem_cons_of_mem _ hk) hm))
      have HB3 := hide (HB2.out.upd u (fun hm => HXG1.out xb (by simp) hm))
      have HU3 := hide (HU2.out.trans u HG1.out)
      have HG2 := hide (show ∀ k ∈ G2, k ∈ G ∨ w.heap.size ≤ k from fun k hk => (hg1 k hk).elim (fun h => HG1.out k h) (fun h => .inr (Nat.le_trans HU2.out.size h)))
      have HXG2 := hide (show ∀ k ∈ xb :: (A.map (·.block)).toList, k ∉ G2 from fun k hk hm => (hg1 k hm).elim (fun h => HXG1.out k hk h) (fun h => by have h9 := HJ2.out.lt k hk; omega))
      clear hr1 u hg1 HC2 HJ2 HB2 HU2 HR2
      clear c0
      by_cases he : e2 = 0
      case neg =>
        have g1 : ((e2 : Int) == 0) = false := by simp [he]
        have g2 : ((e2 : Int) != 0) = true := by simp [he]
        have HRO := hide (show runOps D [.write ((q : Int) + 1) tb, .sync, .write (q : Int) cb, .sync] = (D2, e2) by rw [runOps_on (by rw [show DOp.run D (.write ((q : Int) + 1) tb) = (D1, 0) from HOP1.out]), show (DOp.run D (.write ((q : Int) + 1) tb)).1 = D1 by rw [show DOp.run D (.write ((q : Int) + 1) tb) = (D1, 0) from HOP1.out]]; rw [runOps_stop (by show (DOp.run D1 .sync).2 ≠ 0; rw [show DOp.run D1 .sync = (D2, e2) from HOP2.out]; exact he)]; exact HOP2.out)
        have HO1 := hide (show appendS refK T D false l = (T, D2, true, e2) by rw [HE.out, HRO.out]; simp only; rw [if_pos he])
        clear he
        have f3 := HB3.out.frozen 3
        have d3 : w3'.cell? ⟨xb, 3, none⟩ = some (.bool false) := (HB3.out.cell 3).trans rfl
        go_wp2_with fail
        obtain ⟨w9, hw⟩ : ∃ y, w3'.setCell ⟨xb, 3, none⟩ (.bool true) = y := ⟨_, rfl⟩
        have u : Upd [xb] w3' w9 := by rw [← hw]; exact (Upd.refl _ _).setCell (.inl (by simp)) _
        rw [hw]
        have HJ9 := hide (show RJAt w9 base xb x A c T true from ⟨HJ3.out.1, by rw [HN.out, HQ.out, ← hw]; exact HB3.out.set_ 3 _, own_kept HJ3.out.2.2 u (fun k hk => by have := own_blk_ne HJ3.out.2.2 HB3.out (by decide) k hk; simpa using this)⟩)
        have HR9 := hide (HR3.out.upd u (fun k hk hm => HXG2.out xb (by simp) (by simp at hm; rw [← hm]; exact hk)))
        have HU9 := hide ((HU3.out.mono (l' := xb :: G) (fun y hy => .inl (List.mem_cons_of_mem _ hy))).trans u (fun y hy => .inl (by simp at hy; simp [hy])))
        clear hw u f3 d3
        go_ret
        unfold RefAppPost
        rw [HO1.out]
        exact ⟨rfl, A, c, G2, HJ9.out, HR9.out, HU9.out, HG2.out, fun _ hk => .inl hk, HXG2.out⟩
      subst he
      go_upto_region 21 with fail
      refine wp_region_held_drew (S := (fun w' => w'.cell? ⟨xb, 0, none⟩ = some (.pointer (some ⟨x, 0, none⟩)) ∧ w'.cell? ⟨xb, 2, none⟩ = some (.int .i64 (q : Int)))) (by kernel_rfl) (by exact ⟨(HB3.out.cell 0).trans rfl, (HB3.out.cell 2).trans rfl⟩) (fun hHeld => ?_)
      obtain ⟨v3, hw⟩ : ∃ y, w3'.drew = y := ⟨_, rfl⟩
      have u : Upd [] w3' v3 := by rw [← hw]; exact (Upd.refl [] _).drew
      rw [hw] at hHeld ⊢
      clear hw
      replace HR3 := hide (HR3.out.upd u (by simp))
      replace HJ3 := hide (HJ3.out.upd0 u)
      replace HB3 := hide (keepB HB3.out u)
      replace HU3 := hide (HU3.out.trans u (by simp))
      clear u
      refine wpAnyH_take (i := 0) (oi := ?oi0M7) (v := ?v0M7) ?oi0_0M7 (by kernel_rfl) ?ff0M7 ?rr0M7 ?hq0M7 (Or.inl ⟨?hw0M7, ?hy0M7⟩) (by assumption) ?rest0M7
      case oi0_0M7 => conv => lhs; whnf; arg 1; whnf
      case hq0M7 => exact fun _ _ _ h => h
      case ff0M7 | rr0M7 => kernel_rfl
      case hw0M7 => rfl
      case hy0M7 => intro w hSw; (try dsimp only at hSw); first | (go_simp; done) | (go_simp; with_reducible rfl)
      try simp only [Act.put, List.setIfInBounds_toArray, List.set_cons_zero, List.set_cons_succ]
      refine wpAnyH_take (i := 1) (oi := ?oi1M7) (v := ?v1M7) ?oi0_1M7 (by kernel_rfl) ?ff1M7 ?rr1M7 ?hq1M7 (Or.inl ⟨?hw1M7, ?hy1M7⟩) (by assumption) ?rest1M7
      case oi0_1M7 => conv => lhs; whnf; arg 1; whnf
      case hq1M7 => exact fun _ _ _ h => h
      case ff1M7 | rr1M7 => kernel_rfl
      case hw1M7 => rfl
      case hy1M7 => intro w hSw; (try dsimp only at hSw); first | (go_simp; done) | (go_simp; with_reducible rfl)
      try simp only [Act.put, List.setIfInBounds_toArray, List.set_cons_zero, List.set_cons_succ]
      refine wpAnyH_take (i := 2) (oi := ?oi2M7) (v := ?v2M7) ?oi0_2M7 (by kernel_rfl) ?ff2M7 ?rr2M7 ?hq2M7 (Or.inl ⟨?hw2M7, ?hy2M7⟩) (by assumption) ?rest2M7
      case oi0_2M7 => conv => lhs; whnf; arg 1; whnf
      case hq2M7 => exact fun _ _ _ h => h
      case ff2M7 | rr2M7 => kernel_rfl
      case hw2M7 => rfl
      case hy2M7 => intro w hSw; (try dsimp only at hSw); first | (go_simp; done) | (go_simp; with_reducible rfl)
      try simp only [Act.put, List.setIfInBounds_toArray, List.set_cons_zero, List.set_cons_succ]
      refine wpAnyH_take (i := 3) (oi := ?oi3M7) (v := ?v3M7) ?oi0_3M7 (by kernel_rfl) ?ff3M7 ?rr3M7 ?hq3M7 (Or.inl ⟨?hw3M7, ?hy3M7⟩) (by assumption) ?rest3M7
      case oi0_3M7 => conv => lhs; whnf; arg 1; whnf
      case hq3M7 => exact fun _ _ _ h => h
      case ff3M7 | rr3M7 => kernel_rfl
      case hw3M7 => rfl
      case hy3M7 => intro w hSw; (try dsimp only at hSw); first | (go_simp; done) | (go_simp; with_reducible rfl)
      try simp only [Act.put, List.setIfInBounds_toArray, List.set_cons_zero, List.set_cons_succ]
      refine wpAnyH_take (i := 4) (oi := ?oi4M7) (v := ?v4M7) ?oi0_4M7 (by kernel_rfl) ?ff4M7 ?rr4M7 ?hq4M7 (Or.inl ⟨?hw4M7, ?hy4M7⟩) (by assumption) ?rest4M7
      case oi0_4M7 => conv => lhs; whnf; arg 1; whnf
      case hq4M7 => exact fun _ _ _ h => h
      case ff4M7 | rr4M7 => kernel_rfl
      case hw4M7 => rfl
      case hy4M7 => intro w hSw; (try dsimp only at hSw); first | (go_simp; done) | (go_simp; with_reducible rfl)
      try simp only [Act.put, List.setIfInBounds_toArray, List.set_cons_zero, List.set_cons_succ]
      refine wpAnyH_take (i := 5) (oi := ?oi5M7) (v := ?v5M7) ?oi0_5M7 (by kernel_rfl) ?ff5M7 ?rr5M7 ?hq5M7 (Or.inl ⟨?hw5M7, ?hy5M7⟩) (by assumption) ?rest5M7
      case oi0_5M7 => conv => lhs; whnf; arg 1; whnf
      case hq5M7 => exact fun _ _ _ h => h
      case ff5M7 | rr5M7 => kernel_rfl
      case hw5M7 => rfl
      case hy5M7 => intro w hSw; (try dsimp only at hSw); first | (go_simp; done) | (go_simp; with_reducible rfl)
      try simp only [Act.put, List.setIfInBounds_toArray, List.set_cons_zero, List.set_cons_succ]
      refine wpAnyH_take (i := 6) (oi := ?oi6M7) (v := ?v6M7) ?oi0_6M7 (by kernel_rfl) ?ff6M7 ?rr6M7 ?hq6M7 (Or.inl ⟨?hw6M7, ?hy6M7⟩) (by assumption) ?rest6M7
      case oi0_6M7 => conv => lhs; whnf; arg 1; whnf
      case hq6M7 => exact fun _ _ _ h => h
      case ff6M7 | rr6M7 => kernel_rfl
      case hw6M7 => rfl
      case hy6M7 => intro w hSw; (try dsimp only at hSw); first | (go_simp; done) | (go_simp; with_reducible rfl)
      try simp only [Act.put, List.setIfInBounds_toArray, List.set_cons_zero, List.set_cons_succ]
      refine wpAnyH_take (i := 7) (oi := ?oi7M7) (v := ?v7M7) ?oi0_7M7 (by kernel_rfl) ?ff7M7 ?rr7M7 ?hq7M7 (Or.inl ⟨?hw7M7, ?hy7M7⟩) (by assumption) ?rest7M7
      case oi0_7M7 => conv => lhs; whnf; arg 1; whnf
      case hq7M7 => exact fun _ _ _ h => h
      case ff7M7 | rr7M7 => kernel_rfl
      case hw7M7 => rfl
      case hy7M7 => intro w hSw; (try dsimp only at hSw); first | (go_simp; done) | (go_simp; with_reducible rfl)
      try simp only [Act.put, List.setIfInBounds_toArray, List.set_cons_zero, List.set_cons_succ]
      refine wpAnyH_take (i := 8) (oi := ?oi8M7) (v := ?v8M7) ?oi0_8M7 (by kernel_rfl) ?ff8M7 ?rr8M7 ?hq8M7 (Or.inl ⟨?hw8M7, ?hy8M7⟩) (by assumption) ?rest8M7
      case oi0_8M7 => conv => lhs; whnf; arg 1; whnf
      case hq8M7 => exact fun _ _ _ h => h
      case ff8M7 | rr8M7 => kernel_rfl
      case hw8M7 => rfl
      case hy8M7 => intro w hSw; (try dsimp only at hSw); first | (go_simp; done) | (go_simp; with_reducible rfl)
      try simp only [Act.put, List.setIfInBounds_toArray, List.set_cons_zero, List.set_cons_succ]
      refine wpAnyH_take (i := 9) (oi := ?oi9M7) (v := ?v9M7) ?oi0_9M7 (by kernel_rfl) ?ff9M7 ?rr9M7 ?hq9M7 (Or.inl ⟨?hw9M7, ?hy9M7⟩) (by assumption) ?rest9M7
      case oi0_9M7 => conv => lhs; whnf; arg 1; whnf
      case hq9M7 => exact fun _ _ _ h => h
      case ff9M7 | rr9M7 => kernel_rfl
      case hw9M7 => rfl
      case hy9M7 => intro w hSw; (try dsimp only at hSw); first | (go_simp; done) | (go_simp; with_reducible rfl)
      try simp only [Act.put, List.setIfInBounds_toArray, List.set_cons_zero, List.set_cons_succ]
      refine wpAnyH_ready (rs := [10]) (by kernel_rfl) (by simp) (AllReadyH.cons (o := ?oiM8) ?oi0_M8 (fun K hK => ?_) AllReadyH.nil)
      case oi0_M8 => conv => lhs; whnf; arg 1; whnf
      go_simp
      have HC3 := hide (refWrite (q : Int) cb v3 HR3.out (by have := HI2.out.2.2; omega))
      obtain ⟨D3, e3, hop⟩ : ∃ a b, D2.write (q : Int) cb.data.toList = (a, b) := ⟨_, _, rfl⟩
      have HI3 := hide (show DInv 1003 D3 by have := (HI2.out.write (q : Int) cb.data.toList).1; rw [hop] at this; exact this)
      rw [hop] at HC3
      have HOP3 := hide hop
      clear hop
      refine HC3.out.mono ?_
      rintro e w4' ⟨rfl, G3, hr1, u, hg1⟩
      have HR4 := hide hr1
      have HJ4 := hide (HJ3.out.stay u (fun hm => HXG2.out xb (by simp) hm) (fun k hk hm => HXG2.out k (List.mem_cons_of_mem _ hk) hm))
      have HB4 := hide (HB3.out.upd u (fun hm => HXG2.out xb (by simp) hm))
      have HU4 := hide (HU3.out.trans u HG2.out)
      have HG3 := hide (show ∀ k ∈ G3, k ∈ G ∨ w.heap.size ≤ k from fun k hk => (hg1 k hk).elim (fun h => HG2.out k h) (fun h => .inr (Nat.le_trans HU3.out.size h)))
      have HXG3 := hide (show ∀ k ∈ xb :: (A.map (·.block)).toList, k ∉ G3 from fun k hk hm => (hg1 k hm).elim (fun h => HXG2.out k hk h) (fun h => by have h9 := HJ3.out.lt k hk; omega))
      clear hr1 u hg1 HC3 HJ3 HB3 HU3 HR3
      skip
      have hc2 : w4'.cell? ⟨xb, 0, none⟩ = some (.pointer (some ⟨x, 0, none⟩)) ∧ w4'.cell? ⟨xb, 2, none⟩ = some (.int .i64 (q : Int)) := ⟨(HB4.out.cell 0).trans rfl, (HB4.out.cell 2).trans rfl⟩
      (try dsimp only)
      refine hK.out _ _ (by exact hc2) (fun hHeld => ?_)
      clear hK K hc2
      try simp only [Act.put, List.setIfInBounds_toArray, List.set_cons_zero, List.set_cons_succ]
      refine wpAnyH_take (i := 11) (oi := ?oi11M9) (v := ?v11M9) ?oi0_11M9 (by kernel_rfl) ?ff11M9 ?rr11M9 ?hq11M9 (Or.inl ⟨?hw11M9, ?hy11M9⟩) (by assumption) ?rest11M9
      case oi0_11M9 => conv => lhs; whnf; arg 1; whnf
      case hq11M9 => exact fun _ _ _ h => h
      case ff11M9 | rr11M9 => kernel_rfl
      case hw11M9 => rfl
      case hy11M9 => intro w hSw; (try dsimp only at hSw); first | (go_simp; done) | (go_simp; with_reducible rfl)
      try simp only [Act.put, List.setIfInBounds_toArray, List.set_cons_zero, List.set_cons_succ]
      refine wpAnyH_done (by kernel_rfl) ?_ _
      clear hHeld
      by_cases he : e3 = 0
      case neg =>
        have g1 : ((e3 : Int) == 0) = false := by simp [he]
        have g2 : ((e3 : Int) != 0) = true := by simp [he]
        have HRO := hide (show runOps D [.write ((q : Int) + 1) tb, .sync, .write (q : Int) cb, .sync] = (D3, e3) by rw [runOps_on (by rw [show DOp.run D (.write ((q : Int) + 1) tb) = (D1, 0) from HOP1.out]), show (DOp.run D (.write ((q : Int) + 1) tb)).1 = D1 by rw [show DOp.run D (.write ((q : Int) + 1) tb) = (D1, 0) from HOP1.out]]; rw [runOps_on (by rw [show DOp.run D1 .sync = (D2, 0) from HOP2.out]), show (DOp.run D1 .sync).1 = D2 by rw [show DOp.run D1 .sync = (D2, 0) from HOP2.out]]; rw [runOps_stop (by show (DOp.run D2 (.write (q : Int) cb)).2 ≠ 0; rw [show DOp.run D2 (.write (q : Int) cb) = (D3, e3) from HOP3.out]; exact he)]; exact HOP3.out)
        have HO1 := hide (show appendS refK T D false l = (T, D3, true, e3) by rw [HE.out, HRO.out]; simp only; rw [if_pos he])
        clear he
        have f3 := HB4.out.frozen 3
        have d3 : w4'.cell? ⟨xb, 3, none⟩ = some (.bool false) := (HB4.out.cell 3).trans rfl
        go_wp2_with fail
        obtain ⟨w9, hw⟩ : ∃ y, w4'.setCell ⟨xb, 3, none⟩ (.bool true) = y := ⟨_, rfl⟩
        have u : Upd [xb] w4' w9 := by rw [← hw]; exact (Upd.refl _ _).setCell (.inl (by simp)) _
        rw [hw]
        have HJ9 := hide (show RJAt w9 base xb x A c T true from ⟨HJ4.out.1, by rw [HN.out, HQ.out, ← hw]; exact HB4.out.set_ 3 _, own_kept HJ4.out.2.2 u (fun k hk => by have := own_blk_ne HJ4.out.2.2 HB4.out (by decide) k hk; simpa using this)⟩)
        have HR9 := hide (HR4.out.upd u (fun k hk hm => HXG3.out xb (by simp) (by simp at hm; rw [← hm]; exact hk)))
        have HU9 := hide ((HU4.out.mono (l' := xb :: G) (fun y hy => .inl (List.mem_cons_of_mem _ hy))).trans u (fun y hy => .inl (by simp at hy; simp [hy])))
        clear hw u f3 d3
        go_ret
        unfold RefAppPost
        rw [HO1.out]
        exact ⟨rfl, A, c, G3, HJ9.out, HR9.out, HU9.out, HG3.out, fun _ hk => .inl hk, HXG3.out⟩
      subst he
      skip
      have c0 : w4'.cell? ⟨xb, 0, none⟩ = some (.pointer (some ⟨x, 0, none⟩)) := (HB4.out.cell 0).trans rfl
      go_wp2_with fail
      have HC4 := hide (refSync w4' HR4.out (by have := HI3.out.2.2; omega) HI3.out.1)
      obtain ⟨D4, e4, hop⟩ : ∃ a b, D3.sync = (a, b) := ⟨_, _, rfl⟩
      have HI4 := hide (show DInv 1004 D4 by have := (HI3.out.sync).1; rw [hop] at this; exact this)
      rw [hop] at HC4
      have HOP4 := hide hop
      clear hop
      refine HC4.out.mono ?_
      rintro e w5' ⟨rfl, G4, hr1, u, hg1⟩
      have HR5 := hide hr1
      have HJ5 := hide (HJ4.out.stay u (fun hm => HXG3.out xb (by simp) hm) (fun k hk hm => HXG3.out k (List.mem_cons_of_mem _ hk) hm))
      have HB5 := hide (HB4.out.upd u (fun hm => HXG3.out xb (by simp) hm))
      have HU5 := hide (HU4.out.trans u HG3.out)
      have HG4 := hide (show ∀ k ∈ G4, k ∈ G ∨ w.heap.size ≤ k from fun k hk => (hg1 k hk).elim (fun h => HG3.out k h) (fun h => .inr (Nat.le_trans HU4.out.size h)))
      have HXG4 := hide (show ∀ k ∈ xb :: (A.map (·.block)).toList, k ∉ G4 from fun k hk hm => (hg1 k hm).elim (fun h => HXG3.out k hk h) (fun h => by have h9 := HJ4.out.lt k hk; omega))
      clear hr1 u hg1 HC4 HJ4 HB4 HU4 HR4
      clear c0
      by_cases he : e4 = 0
      case neg =>
        have g1 : ((e4 : Int) == 0) = false := by simp [he]
        have g2 : ((e4 : Int) != 0) = true := by simp [he]
        have HRO := hide (show runOps D [.write ((q : Int) + 1) tb, .sync, .write (q : Int) cb, .sync] = (D4, e4) by rw [runOps_on (by rw [show DOp.run D (.write ((q : Int) + 1) tb) = (D1, 0) from HOP1.out]), show (DOp.run D (.write ((q : Int) + 1) tb)).1 = D1 by rw [show DOp.run D (.write ((q : Int) + 1) tb) = (D1, 0) from HOP1.out]]; rw [runOps_on (by rw [show DOp.run D1 .sync = (D2, 0) from HOP2.out]), show (DOp.run D1 .sync).1 = D2 by rw [show DOp.run D1 .sync = (D2, 0) from HOP2.out]]; rw [runOps_on (by rw [show DOp.run D2 (.write (q : Int) cb) = (D3, 0) from HOP3.out]), show (DOp.run D2 (.write (q : Int) cb)).1 = D3 by rw [show DOp.run D2 (.write (q : Int) cb) = (D3, 0) from HOP3.out]]; rw [runOps_stop (by show (DOp.run D3 .sync).2 ≠ 0; rw [show DOp.run D3 .sync = (D4, e4) from HOP4.out]; exact he)]; exact HOP4.out)
        have HO1 := hide (show appendS refK T D false l = (T, D4, true, e4) by rw [HE.out, HRO.out]; simp only; rw [if_pos he])
        clear he
        have f3 := HB5.out.frozen 3
        have d3 : w5'.cell? ⟨xb, 3, none⟩ = some (.bool false) := (HB5.out.cell 3).trans rfl
        go_wp2_with fail
        obtain ⟨w9, hw⟩ : ∃ y, w5'.setCell ⟨xb, 3, none⟩ (.bool true) = y := ⟨_, rfl⟩
        have u : Upd [xb] w5' w9 := by rw [← hw]; exact (Upd.refl _ _).setCell (.inl (by simp)) _
        rw [hw]
        have HJ9 := hide (show RJAt w9 base xb x A c T true from ⟨HJ5.out.1, by rw [HN.out, HQ.out, ← hw]; exact HB5.out.set_ 3 _, own_kept HJ5.out.2.2 u (fun k hk => by have := own_blk_ne HJ5.out.2.2 HB5.out (by decide) k hk; simpa using this)⟩)
        have HR9 := hide (HR5.out.upd u (fun k hk hm => HXG4.out xb (by simp) (by simp at hm; rw [← hm]; exact hk)))
        have HU9 := hide ((HU5.out.mono (l' := xb :: G) (fun y hy => .inl (List.mem_cons_of_mem _ hy))).trans u (fun y hy => .inl (by simp at hy; simp [hy])))
        clear hw u f3 d3
        go_ret
        unfold RefAppPost
        rw [HO1.out]
        exact ⟨rfl, A, c, G4, HJ9.out, HR9.out, HU9.out, HG4.out, fun _ hk => .inl hk, HXG4.out⟩
      subst he
      have HRO := hide (show runOps D [.write ((q : Int) + 1) tb, .sync, .write (q : Int) cb, .sync] = (D4, 0) by rw [runOps_on (by rw [show DOp.run D (.write ((q : Int) + 1) tb) = (D1, 0) from HOP1.out]), show (DOp.run D (.write ((q : Int) + 1) tb)).1 = D1 by rw [show DOp.run D (.write ((q : Int) + 1) tb) = (D1, 0) from HOP1.out]]; rw [runOps_on (by rw [show DOp.run D1 .sync = (D2, 0) from HOP2.out]), show (DOp.run D1 .sync).1 = D2 by rw [show DOp.run D1 .sync = (D2, 0) from HOP2.out]]; rw [runOps_on (by rw [show DOp.run D2 (.write (q : Int) cb) = (D3, 0) from HOP3.out]), show (DOp.run D2 (.write (q : Int) cb)).1 = D3 by rw [show DOp.run D2 (.write (q : Int) cb) = (D3, 0) from HOP3.out]]; rw [runOps_on (by rw [show DOp.run D3 .sync = (D4, 0) from HOP4.out]), show (DOp.run D3 .sync).1 = D4 by rw [show DOp.run D3 .sync = (D4, 0) from HOP4.out]]; rfl)
      have HO1 := hide (show appendS refK T D false l = (Tk, D4, false, 0) by rw [HE.out, HRO.out]; simp only; rw [if_neg (by simp)])
      have c1 : w5'.cell? ⟨xb, 1, none⟩ = some (.slice A n c) := (HB5.out.cell 1).trans rfl
      have HO5 := hide (show w5'.ownsRow base 9 1 (.slice A n c) n (T.recs.map strV) by have h9 := HJ5.out.2.2; rw [HN.out] at h9; exact h9)
      have HSZ5 := hide (show w.heap.size ≤ w5'.heap.size from HU5.out.size)
      go_upto_region 28 with fail
      go_upto_region 29 with (at_builtin; refine wpList_append_src rfl _ _ 22 rfl w5'.heap.size 9 (.string ⟨#[]⟩) 1 16 Tryz.underlying22 info_str rfl (by decide) none 0 0 [] rfl (World.ownsRow_nil _ _ _ _) A n c (T.recs.map strV) rfl (by rw [List.length_map, HN.out]; omega) (own_src HO5.out) (by intro u hu; obtain ⟨r, _, rfl⟩ := List.mem_map.1 hu; rfl) (by unfold maxLen; omega) (by omega) (Nat.le_refl _) ?_; intro A6 c6 w6 hO6 hu6 hA6; have HO6 := hide hO6; have HU6 := hide (show Upd [] w5' w6 from hu6); clear hO6 hu6 hA6)
      rw [Nat.zero_add, List.nil_append] at HO6
      try rw [Nat.zero_add]
      have HB6 := hide (keepB HB5.out HU6.out)
      have HR6 := hide (HR5.out.upd HU6.out (by simp))
      have HUU6 := hide (HU5.out.trans HU6.out (by simp))
      have HX6 := hide (show ∀ k ∈ (A6.map (·.block)).toList, w5'.heap.size ≤ k from fun k hk => it_own_block HO6.out k (by rw [ownBlock_slice]; simpa using hk))
      have HSRC := hide (strs_src HL.out (fun j s hs => by obtain ⟨b, o, e, h9⟩ := HS.out j s hs; exact ⟨b, o, e, (HUU6.out.cell (p := ⟨b, o + j, none⟩) (World.block_lt_of_cell? _ _ h9) (fun hm => HSG.out b o e hm)).trans h9⟩) (w := w6))
      have c1b : w6.cell? ⟨xb, 1, none⟩ = some (.slice A n c) := (HB6.out.cell 1).trans rfl
      have f1 := HB6.out.frozen 1
      clear c1
      go_upto_region 30 with (at_builtin; refine wpList_append_src rfl _ _ 22 rfl w5'.heap.size 9 (.string ⟨#[]⟩) 1 16 Tryz.underlying22 info_str rfl (by decide) A6 n c6 _ rfl HO6.out la k lc (l.map Value.string) rfl (by rw [List.length_map, HL.out]; omega) HSRC.out (by intro u hu; obtain ⟨r, _, rfl⟩ := List.mem_map.1 hu; rfl) (by unfold maxLen; omega) (by omega) (by have := HU6.out.size; exact this) ?_; intro A7 c7 w7 hO7 hu7 hA7; have HO7 := hide hO7; have HB7 := hide (HB6.out.upd hu7 (fun hm => own_blk_ne HO6.out HB6.out (by decide) xb (by rw [ownBlock_slice]; simpa using hm) rfl)); have f1 := HB7.out.frozen 1; have d1 : w7.cell? ⟨xb, 1, none⟩ = some (.slice A n c) := (HB7.out.cell 1).trans rfl; have HR7 := hide (HR6.out.upd hu7 (fun y hy hm => by have h8 := HX6.out y hm; have h9 := HR5.out.lt y hy; omega)); have HUU7 := hide (HUU6.out.trans hu7 (fun y hy => .inr (by have h8 := HX6.out y hy; have := HSZ5.out; omega))); clear hO7 hu7 hA7)
      obtain ⟨w8, hw⟩ : ∃ y, w7.setCell ⟨xb, 1, none⟩ (.slice A7 (n + k) c7) = y := ⟨_, rfl⟩
      have u : Upd [xb] w7 w8 := by rw [← hw]; exact (Upd.refl _ _).setCell (.inl (by simp)) _
      have HB8 := hide (show Blk w8 xb 43 [.pointer (some ⟨x, 0, none⟩), .slice A7 (n + k) c7, .int .i64 (q : Int), .bool false] by rw [← hw]; exact HB7.out.set_ 1 _)
      have HO8 := hide (own_kept HO7.out u (fun y hy => by have := own_blk_ne HO7.out HB7.out (by decide) y hy; simpa using this))
      have HX7 := hide (show ∀ y ∈ (A7.map (·.block)).toList, w5'.heap.size ≤ y from fun y hy => it_own_block HO7.out y (by rw [ownBlock_slice]; simpa using hy))
      have HR8 := hide (HR7.out.upd u (fun y hy hm => HXG4.out xb (by simp) (by simp at hm; rw [← hm]; exact hy)))
      have HU8 := hide ((HUU7.out.mono (l' := xb :: G) (fun y hy => .inl (List.mem_cons_of_mem _ hy))).trans u (fun y hy => .inl (by simp at hy; simp [hy])))
      rw [hw]
      clear hw u HB7 HR7 HUU7 HO7 HB6 HR6 HUU6 HO6 f1 d1 c1b HSRC
      have f2 := HB8.out.frozen 2
      have d2 : w8.cell? ⟨xb, 2, none⟩ = some (.int .i64 (q : Int)) := (HB8.out.cell 2).trans rfl
      have hqo : IntKind.i64.wrap ((q : Int) + (ol : Int)) = ((q + ol : Nat) : Int) := by rw [Go.IntWalk.i64_in _ (by omega)]; omega
      go_wp2_with fail
      obtain ⟨w9, hw⟩ : ∃ y, w8.setCell ⟨xb, 2, none⟩ (.int .i64 ((q : Int) + (ol : Int))) = y := ⟨_, rfl⟩
      have u : Upd [xb] w8 w9 := by rw [← hw]; exact (Upd.refl _ _).setCell (.inl (by simp)) _
      rw [hw]
      have HRC := hide (show Tk.recs = T.recs ++ bytesL l ∧ Tk.size = q + ol by have h9 := HADK.out; rw [addAll_L] at h9; have h1 := addL_recs refK (l.map fun s => s.data.toList) T; have h2 := addL_size refK (l.map fun s => s.data.toList) T; rw [h9] at h1 h2; exact ⟨h1, by rw [h2, HQ.out, HOL.out]⟩)
      have HJ9 := hide (show RJAt w9 base xb x A7 c7 Tk false from ⟨HJ5.out.1, by rw [HRC.out.1, HRC.out.2, List.length_append, HN.out, show (bytesL l).length = k by unfold bytesL; rw [List.length_map, HL.out], show ((q + ol : Nat) : Int) = (q : Int) + (ol : Int) by omega, ← hw]; exact HB8.out.set_ 2 _, by
        rw [HRC.out.1, List.length_append, HN.out, show (bytesL l).length = k by unfold bytesL; rw [List.length_map, HL.out], List.map_append, show (bytesL l).map strV = l.map Value.string by unfold bytesL; rw [List.map_map]; rfl]
        exact it_own_less (own_kept HO8.out u (fun y hy => by have := own_blk_ne HO8.out HB8.out (by decide) y hy; simpa using this)) (Nat.le_trans HBASE.out HSZ5.out)⟩)
      have HR9 := hide (HR8.out.upd u (fun y hy hm => HXG4.out xb (by simp) (by simp at hm; rw [← hm]; exact hy)))
      have HU9 := hide (HU8.out.trans u (fun y hy => .inl (by simp at hy; simp [hy])))
      clear hw u f2 d2
      go_ret
      unfold RefAppPost
      rw [HO1.out]
      refine ⟨rfl, A7, c7, G4, HJ9.out, HR9.out, HU9.out, HG4.out, fun y hy => .inr (Nat.le_trans HSZ5.out (HX7.out y hy)), fun y hy hm => ?_⟩
      rcases List.mem_cons.1 hy with rfl | hy
      · exact HXG4.out _ (by simp) hm
      · have h8 := HX7.out y hy; have h9 := HR5.out.lt y hm; omega
end Go.Proofs.YtafjolibfbccbaaGreatDoor

namespace Go.Proofs.YtafjolibfbccbaaGreatDoor
open Go.RowKit
set_option maxRecDepth 100000
set_option maxHeartbeats 4000000

/-- A journal's block, its tape, whether it is broken; or none. -/
abbrev JSt := Option (Nat × TapeS × Bool)
/-- The program's side: a journal and its disk, or the disk alone. -/
def PS (B : Nat) (Z : List Nat) (w0 w : World) (g : Nat) : JSt → DiskS → Prop
  | none, D => DiskIn B Z w0 w g D
  | some (jb, T, br), D => JIn B Z w0 w jb g T br D
/-- The reference's side, in the blocks Y. -/
def RS (w : World) (B : Nat) (Y : List Nat) (x : Nat) : JSt → DiskS → Prop
  | none, E => IsRef w Y x E
  | some (xb, T, br), E => ∃ A c G, RJAt w B xb x A c T br ∧ IsRef w G x E ∧ (∀ k ∈ xb :: (A.map (·.block)).toList, k ∉ G) ∧ Y = (xb :: (A.map (·.block)).toList) ++ G
def PJ (B : Nat) (X : List Nat) (w0 w : World) (g : Nat) (P : JSt) (D : DiskS) (x : Nat) (R : JSt) (E : DiskS) : Prop :=
  ∃ Y, PS B (Y ++ X) w0 w g P D ∧ RS w B Y x R E ∧ ∀ k ∈ Y, B ≤ k ∧ k ∉ X

section
variable {B g x : Nat} {X X' Y Z : List Nat} {w0 w w' : World} {P P' R R' : JSt} {D D' E E' : DiskS}
theorem PS.below (h : PS B Z w0 w g P D) : Below B w0 w := by
  cases P with
  | none => exact DiskIn.below h
  | some a => obtain ⟨jb, T, br⟩ := a; exact JIn.below h
theorem PS.room (h : PS B Z w0 w g P D) : B ≤ w.heap.size := by
  cases P with
  | none => exact DiskIn.room h
  | some a => obtain ⟨jb, T, br⟩ := a; exact JIn.room h
theorem PS.xlt (h : PS B Z w0 w g P D) : ∀ y ∈ Z, y < w.heap.size := by
  cases P with
  | none => obtain ⟨_, _, _, _, _, h⟩ := h; exact h
  | some a => obtain ⟨jb, T, br⟩ := a; exact JIn.xlt h
theorem PS.ok (h : PS B Z w0 w g P D) : D.Ok := by
  cases P with
  | none => exact DiskIn.ok h
  | some a => obtain ⟨jb, T, br⟩ := a; exact JIn.ok h
theorem PS.step (h : PS B Z w0 w g P D) {l : List Nat} (hu : Upd l w w') (hl : ∀ y ∈ l, y ∈ Z ∧ B ≤ y) : PS B Z w0 w' g P D := by
  cases P with
  | none => exact DiskIn.step h hu (fun y hy => (hl y hy).1) (fun y hy => (hl y hy).2)
  | some a => obtain ⟨jb, T, br⟩ := a; exact JIn.step h hu hl
theorem PS.mono (h : PS B Z w0 w g P D) (hs : ∀ y ∈ Y, y ∈ Z) : PS B Y w0 w g P D := by
  cases P with
  | none => exact DiskIn.mono h hs
  | some a => obtain ⟨jb, T, br⟩ := a; exact JIn.mono h hs
theorem DiskIn.moreL (h : DiskIn B X w0 w g D) {l : List Nat} (hu : Upd l w w') (hl : ∀ y ∈ l, y ∈ X ∧ B ≤ y) (Y : List Nat) (hY : ∀ y ∈ Y, y ∈ X ∨ w.heap.size ≤ y ∧ y < w'.heap.size) : DiskIn B (Y ++ X) w0 w' g D := by
  have h2 := DiskIn.step h hu (fun y hy => (hl y hy).1) (fun y hy => (hl y hy).2)
  obtain ⟨F, k1, k2, k3, k4, k5⟩ := h
  have hlt := k1.lt_
  obtain ⟨_, _, _, m3, m4, m5⟩ := h2
  refine ⟨F, k1.upd hu (fun k hk hm => (k2 k hk).2 (hl k hm).1), fun k hk => ⟨(k2 k hk).1, fun hm => ?_⟩, m3, m4, fun y hy => ?_⟩
  · rcases List.mem_append.1 hm with hm | hm
    · rcases hY k hm with h | h
      · exact (k2 k hk).2 h
      · have := hlt k hk; omega
    · exact (k2 k hk).2 hm
  · rcases List.mem_append.1 hy with hm | hm
    · rcases hY y hm with h | h
      · exact m5 y h
      · exact h.2
    · exact m5 y hm
theorem PS.more (h : PS B Z w0 w g P D) {l : List Nat} (hu : Upd l w w') (hl : ∀ y ∈ l, y ∈ Z ∧ B ≤ y) (Y : List Nat) (hY : ∀ y ∈ Y, y ∈ Z ∨ w.heap.size ≤ y ∧ y < w'.heap.size) : PS B (Y ++ Z) w0 w' g P D := by
  cases P with
  | none => exact DiskIn.moreL h hu hl Y hY
  | some a => obtain ⟨jb, T, br⟩ := a; exact JIn.more h hu hl Y hY
theorem PS.drop (h : PS B Z w0 w g P D) : PS B Z w0 w g none D := by
  cases P with
  | none => exact h
  | some a =>
    obtain ⟨jb, T, br⟩ := a
    obtain ⟨A, c, h1, h2, h3⟩ := JIn.disk h
    exact h2.mono (fun y hy => List.mem_append_right _ hy)
theorem RS.lt (h : RS w B Y x R E) : ∀ k ∈ Y, k < w.heap.size := by
  cases R with
  | none => exact IsRef.lt h
  | some a =>
    obtain ⟨xb, T, br⟩ := a
    obtain ⟨A, c, G, h1, h2, h3, rfl⟩ := h
    intro k hk
    rcases List.mem_append.1 hk with hk | hk
    · exact h1.lt k hk
    · exact h2.lt k hk
theorem RS.upd (h : RS w B Y x R E) {l : List Nat} (hu : Upd l w w') (hl : ∀ k ∈ Y, k ∉ l) : RS w' B Y x R E := by
  cases R with
  | none => exact IsRef.upd h hu hl
  | some a =>
    obtain ⟨xb, T, br⟩ := a
    obtain ⟨A, c, G, h1, h2, h3, rfl⟩ := h
    exact ⟨A, c, G, h1.stay hu (hl xb (by simp)) (fun k hk => hl k (by simp only [List.mem_append, List.mem_cons]; exact .inl (.inr hk))), h2.upd hu (fun k hk => hl k (List.mem_append_right _ hk)), h3, rfl⟩
theorem RS.same (h : RS w B Y x R E) (hs : SameAt Y w w') : RS w' B Y x R E := by
  cases R with
  | none => exact IsRef.same h hs
  | some a =>
    obtain ⟨xb, T, br⟩ := a
    obtain ⟨A, c, G, h1, h2, h3, rfl⟩ := h
    exact ⟨A, c, G, ⟨h1.1, hs.blk (by simp) h1.2.1, own_same h1.2.2 (hs.mono (fun k hk => by simp only [List.mem_append, List.mem_cons]; exact .inl (.inr hk)))⟩, h2.same (hs.mono (fun k hk => List.mem_append_right _ hk)), h3, rfl⟩
theorem RS.drop (h : RS w B Y x R E) : ∃ G, RS w B G x none E ∧ ∀ k ∈ G, k ∈ Y := by
  cases R with
  | none => exact ⟨Y, h, fun k hk => hk⟩
  | some a =>
    obtain ⟨xb, T, br⟩ := a
    obtain ⟨A, c, G, h1, h2, h3, rfl⟩ := h
    exact ⟨G, h2, fun k hk => List.mem_append_right _ hk⟩
theorem PJ.below (h : PJ B X w0 w g P D x R E) : Below B w0 w := by obtain ⟨Y, h, _⟩ := h; exact h.below
theorem PJ.room (h : PJ B X w0 w g P D x R E) : B ≤ w.heap.size := by obtain ⟨Y, h, _⟩ := h; exact h.room
theorem PJ.ok (h : PJ B X w0 w g P D x R E) : D.Ok := by obtain ⟨Y, h, _⟩ := h; exact h.ok
theorem PJ.xlt (h : PJ B X w0 w g P D x R E) : ∀ y ∈ X, y < w.heap.size := by obtain ⟨Y, h, _⟩ := h; exact fun y hy => h.xlt y (List.mem_append_right _ hy)
theorem PJ.step (h : PJ B X w0 w g P D x R E) {l : List Nat} (hu : Upd l w w') (hl : ∀ y ∈ l, y ∈ X ∧ B ≤ y) : PJ B X w0 w' g P D x R E := by
  obtain ⟨Y, h1, h2, h3⟩ := h
  exact ⟨Y, h1.step hu (fun y hy => ⟨List.mem_append_right _ (hl y hy).1, (hl y hy).2⟩), h2.upd hu (fun k hk hm => (h3 k hk).2 (hl k hm).1), h3⟩
theorem PJ.mono (h : PJ B X w0 w g P D x R E) (hs : ∀ y ∈ X', y ∈ X) : PJ B X' w0 w g P D x R E := by
  obtain ⟨Y, h1, h2, h3⟩ := h
  exact ⟨Y, h1.mono (fun y hy => (List.mem_append.1 hy).elim (List.mem_append_left _) (fun h => List.mem_append_right _ (hs y h))), h2, fun k hk => ⟨(h3 k hk).1, fun hm => (h3 k hk).2 (hs k hm)⟩⟩
/-- New blocks join X. -/
theorem PJ.more (h : PJ B X w0 w g P D x R E) {l : List Nat} (hu : Upd l w w') (hl : ∀ y ∈ l, y ∈ X ∧ B ≤ y) (V : List Nat) (hV : ∀ y ∈ V, w.heap.size ≤ y ∧ y < w'.heap.size) : PJ B (V ++ X) w0 w' g P D x R E := by
  obtain ⟨Y, h1, h2, h3⟩ := h
  have hlt := h2.lt
  have h4 := h1.more hu (fun y hy => ⟨List.mem_append_right _ (hl y hy).1, (hl y hy).2⟩) V (fun y hy => .inr (hV y hy))
  refine ⟨Y, h4.mono (fun y hy => ?_), h2.upd hu (fun k hk hm => (h3 k hk).2 (hl k hm).1), fun k hk => ⟨(h3 k hk).1, fun hm => ?_⟩⟩
  · rcases List.mem_append.1 hy with hy | hy
    · exact List.mem_append_right _ (List.mem_append_left _ hy)
    · rcases List.mem_append.1 hy with hy | hy
      · exact List.mem_append_left _ hy
      · exact List.mem_append_right _ (List.mem_append_right _ hy)
  · rcases List.mem_append.1 hm with hm | hm
    · have := hlt k hk; have := hV k hm; omega
    · exact (h3 k hk).2 hm
theorem PJ.drop (h : PJ B X w0 w g P D x R E) : PJ B X w0 w g none D x none E := by
  obtain ⟨Y, h1, h2, h3⟩ := h
  obtain ⟨G, h4, h5⟩ := h2.drop
  exact ⟨G, (h1.drop).mono (fun y hy => (List.mem_append.1 hy).elim (fun h => List.mem_append_left _ (h5 y h)) (List.mem_append_right _)), h4, fun k hk => h3 k (h5 k hk)⟩
/-- The program acts. -/
theorem PJ.prog {p : Program} {f : FuncId} {args : Array Value} {Φ : Ending → JSt → Prop} (h : PJ B X w0 w g P D x R E)
    (hc : ∀ Z, PS B Z w0 w g P D → Calls p f args w fun e w' => SameAt Z w w' ∧ ∃ P', Φ e P' ∧ PS B Z w0 w' g P' D') :
    Calls p f args w fun e w' => SameAt X w w' ∧ ∃ P', Φ e P' ∧ PJ B X w0 w' g P' D' x R E := by
  obtain ⟨Y, h1, h2, h3⟩ := h
  refine (hc _ h1).mono ?_
  rintro e w' ⟨hs, P', hp, k1⟩
  exact ⟨hs.mono (fun y hy => List.mem_append_right _ hy), P', hp, Y, k1, h2.same (hs.mono (fun y hy => List.mem_append_left _ hy)), h3⟩
/-- The reference acts. -/
theorem PJ.refr {p : Program} {f : FuncId} {args : Array Value} {Φ : Ending → JSt → Prop} (h : PJ B X w0 w g P D x R E)
    (hc : ∀ Y, RS w B Y x R E → (∀ k ∈ Y, B ≤ k ∧ k ∉ X) → Calls p f args w fun e w' => ∃ R' Y', Φ e R' ∧ RS w' B Y' x R' E' ∧ Upd Y w w' ∧ ∀ k ∈ Y', k ∈ Y ∨ w.heap.size ≤ k) :
    Calls p f args w fun e w' => SameAt X w w' ∧ ∃ R', Φ e R' ∧ PJ B X w0 w' g P D x R' E' := by
  obtain ⟨Y, h1, h2, h3⟩ := h
  have hxl := h1.xlt
  have hrm := h1.room
  refine (hc Y h2 h3).mono ?_
  rintro e w' ⟨R', Y', hp, k1, hu, k2⟩
  have hlt := k1.lt
  refine ⟨fun y hy => hu.block y (hxl y (List.mem_append_right _ hy)) (fun hm => (h3 y hm).2 hy), R', hp, Y', (h1.more hu (fun y hy => ⟨List.mem_append_left _ hy, (h3 y hy).1⟩) Y' (fun y hy => ?_)).mono (fun y hy => ?_), k1, fun k hk => ?_⟩
  · rcases k2 y hy with h | h
    · exact .inl (List.mem_append_left _ h)
    · exact .inr ⟨h, hlt y hy⟩
  · rcases List.mem_append.1 hy with hy | hy
    · exact List.mem_append_left _ hy
    · exact List.mem_append_right _ (List.mem_append_right _ hy)
  · rcases k2 k hk with h | h
    · exact h3 k h
    · exact ⟨by omega, fun hm => by have := hxl k (List.mem_append_right _ hm); omega⟩
/-- The reference looks. -/
theorem PJ.look {p : Program} {f : FuncId} {args : Array Value} {Φ : Ending → Prop} (h : PJ B X w0 w g P D x R E)
    (hc : ∀ Y, RS w B Y x R E → Calls p f args w fun e w' => Φ e ∧ Upd [] w w') :
    Calls p f args w fun e w' => Φ e ∧ Upd [] w w' := by
  obtain ⟨Y, h1, h2, h3⟩ := h
  exact hc Y h2
theorem PJ.side (h : PJ B X w0 w g P D x R E) : ∃ Z, PS B Z w0 w g P D ∧ ∀ y ∈ X, y ∈ Z := by
  obtain ⟨Y, h1, h2, h3⟩ := h
  exact ⟨_, h1, fun y hy => List.mem_append_right _ hy⟩
end

/-- What Open of both answers: none, or an open journal. -/
def OpenedP (O : Option TapeS) (er : Int) (e : Ending) (P : JSt) : Prop :=
  match O with
  | some T => ∃ jb, e = .returned (.tuple #[.pointer (some ⟨jb, 0, none⟩), .int .i64 0]) ∧ P = some (jb, T, false)
  | none => e = .returned (.tuple #[.pointer none, .int .i64 er]) ∧ P = none
section
variable {B g x : Nat} {X : List Nat} {w0 w : World} {P R : JSt} {D E : DiskS} {a0 : Addr}
theorem pj_open (hl : Laid B refK a0 w0) (h : PJ B X w0 w g none D x R E) (hi : DInv 1000 D) :
    Calls Tryz.prog 25 #[.pointer (some ⟨g, 0, none⟩)] w fun e w' => SameAt X w w' ∧ ∃ P', OpenedP (OpenS refK D).1 (OpenS refK D).2.2 e P' ∧ PJ B X w0 w' g P' (OpenS refK D).2.1 x R E := by
  refine h.prog fun Z hz => ?_
  refine (open_in hl hz (by have := hi.2.2; omega)).mono ?_
  rintro e w' ⟨hs, hj⟩
  refine ⟨hs, ?_⟩
  unfold OpenedP
  revert hj
  cases (OpenS refK D).1 with
  | none => rintro ⟨rfl, hd⟩; exact ⟨none, ⟨rfl, rfl⟩, hd⟩
  | some T => rintro ⟨jb, rfl, hj⟩; exact ⟨some (jb, T, false), ⟨jb, rfl, rfl⟩, hj⟩
theorem pj_ropen (h : PJ B X w0 w g P D x none E) (hi : DInv 1000 E) :
    Calls Tryz.prog 50 #[.pointer (some ⟨x, 0, none⟩)] w fun e w' => SameAt X w w' ∧ ∃ R', OpenedP (OpenS refK E).1 (OpenS refK E).2.2 e R' ∧ PJ B X w0 w' g P D x R' (OpenS refK E).2.1 := by
  have hrm := h.room
  refine h.refr fun Y hy _ => ?_
  refine (refOpen x w hy hi).mono ?_
  intro e w' hp
  unfold RefOpenPost at hp
  unfold OpenedP
  revert hp
  cases (OpenS refK E).1 with
  | none => rintro ⟨rfl, F', k1, k2, k3⟩; exact ⟨none, F', ⟨rfl, rfl⟩, k1, k2, k3⟩
  | some T =>
    rintro ⟨xb, A, c, G', rfl, k1, k2, k3, k4, k5⟩
    refine ⟨some (xb, T, false), (xb :: (A.map (·.block)).toList) ++ G', ⟨xb, rfl, rfl⟩, ⟨A, c, G', ⟨Nat.le_trans hrm k1.1, k1.2.1, it_own_less k1.2.2 hrm⟩, k2, k5, rfl⟩, k3, fun k hk => ?_⟩
    rcases List.mem_append.1 hk with hk | hk
    · exact .inr (k1.ge k hk)
    · exact k4 k hk
theorem pj_append {jb : Nat} {T : TapeS} {br : Bool} (la : Option Addr) (n lc : Nat) (l : List ByteArray) (hL : Laid B refK a0 w0) (h : PJ B X w0 w g (some (jb, T, br)) D x R E) (hi : DInv 1000 D) (hT : TInv T) (hts : T.size ≤ D.sure.length)
    (hl : l.length = n) (hla : n ≤ 1000) (hS : StrsAt w la l) (hb : ∀ s ∈ l, s.size ≤ 3600) :
    Calls Tryz.prog 10 #[.pointer (some ⟨jb, 0, none⟩), .slice la n lc] w fun e w' => e = .returned (.int .i64 (appendS refK T D br l).2.2.2) ∧ SameAt X w w' ∧ PJ B X w0 w' g (some (jb, (appendS refK T D br l).1, (appendS refK T D br l).2.2.1)) (appendS refK T D br l).2.1 x R E := by
  have hok := h.ok
  refine (h.prog (Φ := fun e P' => e = .returned (.int .i64 (appendS refK T D br l).2.2.2) ∧ P' = some (jb, (appendS refK T D br l).1, (appendS refK T D br l).2.2.1)) (D' := (appendS refK T D br l).2.1) fun Z hz => ?_).mono ?_
  · refine (append_in la n lc l hL hz hl hla hS (fun s hs => by have := hb s hs; omega) (by have := hi.2.2; omega) hts (by rw [hT.head32]; decide) (by have := hT.2.2; have := hok.max; omega)).mono ?_
    rintro e w' ⟨rfl, k1, k2⟩
    exact ⟨k2, _, ⟨rfl, rfl⟩, k1⟩
  · rintro e w' ⟨hs, P', ⟨rfl, rfl⟩, k⟩
    exact ⟨rfl, hs, k⟩
theorem pj_rappend {xb : Nat} {T : TapeS} {br : Bool} (la : Option Addr) (n lc : Nat) (l : List ByteArray) (h : PJ B X w0 w g P D x (some (xb, T, br)) E) (hi : DInv 1000 E) (hT : TInv T) (hts : T.size ≤ E.sure.length)
    (hl : l.length = n) (hla : n ≤ 1000) (hS : StrsAt w la l) (hX : ∀ (b o : Nat), la = some ⟨b, o, none⟩ → b ∈ X) (hb : ∀ s ∈ l, s.size ≤ 3600) :
    Calls Tryz.prog 12 #[.pointer (some ⟨xb, 0, none⟩), .slice la n lc] w fun e w' => e = .returned (.int .i64 (appendS refK T E br l).2.2.2) ∧ SameAt X w w' ∧ PJ B X w0 w' g P D x (some (xb, (appendS refK T E br l).1, (appendS refK T E br l).2.2.1)) (appendS refK T E br l).2.1 := by
  have hrm := h.room
  refine (h.refr (Φ := fun e R' => e = .returned (.int .i64 (appendS refK T E br l).2.2.2) ∧ R' = some (xb, (appendS refK T E br l).1, (appendS refK T E br l).2.2.1)) (E' := (appendS refK T E br l).2.1) fun Y hy hyx => ?_).mono ?_
  · obtain ⟨A, c, G, k1, k2, k3, rfl⟩ := hy
    refine (refAppend B xb x A c T br la n lc l w k1 k2 k3 hi hT hts hl hla hS (fun b o e hm => (hyx b (List.mem_append_right _ hm)).2 (hX b o e)) hb hrm).mono ?_
    rintro e w' ⟨rfl, A', c', G', m1, m2, m3, m4, m5, m6⟩
    refine ⟨_, (xb :: (A'.map (·.block)).toList) ++ G', ⟨rfl, rfl⟩, ⟨A', c', G', m1, m2, m6, rfl⟩, m3.mono (fun y hy => ?_), fun k hk => ?_⟩
    · left
      rcases List.mem_cons.1 hy with rfl | hy
      · simp
      · exact List.mem_append_right _ hy
    · rcases List.mem_append.1 hk with hk | hk
      · rcases List.mem_cons.1 hk with rfl | hk
        · exact .inl (by simp)
        · rcases m5 k hk with h | h
          · exact .inl (by simp only [List.mem_append, List.mem_cons]; exact .inl (.inr h))
          · exact .inr h
      · rcases m4 k hk with h | h
        · exact .inl (List.mem_append_right _ h)
        · exact .inr h
  · rintro e w' ⟨hs, R', ⟨rfl, rfl⟩, k⟩
    exact ⟨rfl, hs, k⟩
/-- The disk's calls, beside a journal or not. -/
theorem ps_cut {Z : List Nat} (n : Int) (h : PS B Z w0 w g P D) (hn : n ≤ 9223372036854775807) :
    Calls Tryz.prog 29 #[.pointer (some ⟨g, 0, none⟩), .int .i64 n] w fun e w' => e = .returned (.int .i64 (D.cut n).2) ∧ PS B Z w0 w' g P (D.cut n).1 ∧ SameAt Z w w' := by
  cases P with
  | none => exact cut_in n h hn
  | some a => obtain ⟨jb, T, br⟩ := a; exact jcut_in n h hn
theorem pj_cut (n : Int) (h : PJ B X w0 w g P D x R E) (hn : n ≤ 9223372036854775807) :
    Calls Tryz.prog 29 #[.pointer (some ⟨g, 0, none⟩), .int .i64 n] w fun e w' => e = .returned (.int .i64 (D.cut n).2) ∧ SameAt X w w' ∧ PJ B X w0 w' g P (D.cut n).1 x R E := by
  refine (h.prog (Φ := fun e P' => e = .returned (.int .i64 (D.cut n).2) ∧ P' = P) (D' := (D.cut n).1) fun Z hz => ?_).mono ?_
  · refine (ps_cut n hz hn).mono ?_
    rintro e w' ⟨rfl, k1, k2⟩
    exact ⟨k2, P, ⟨rfl, rfl⟩, k1⟩
  · rintro e w' ⟨hs, P', ⟨rfl, rfl⟩, k⟩
    exact ⟨rfl, hs, k⟩
theorem ps_write {Z : List Nat} (off : Int) (s : ByteArray) (h : PS B Z w0 w g P D) (hp : D.pend.length ≤ 1000000000) :
    Calls Tryz.prog 13 #[.pointer (some ⟨g, 0, none⟩), .int .i64 off, .string s] w fun e w' => e = .returned (.int .i64 (D.write off s.data.toList).2) ∧ PS B Z w0 w' g P (D.write off s.data.toList).1 ∧ SameAt Z w w' := by
  cases P with
  | none => exact write_in off s h hp
  | some a => obtain ⟨jb, T, br⟩ := a; exact jwrite_in off s h hp
theorem pj_write (off : Int) (s : ByteArray) (h : PJ B X w0 w g P D x R E) (hi : DInv 1000 D) :
    Calls Tryz.prog 13 #[.pointer (some ⟨g, 0, none⟩), .int .i64 off, .string s] w fun e w' => e = .returned (.int .i64 (D.write off s.data.toList).2) ∧ SameAt X w w' ∧ PJ B X w0 w' g P (D.write off s.data.toList).1 x R E := by
  refine (h.prog (Φ := fun e P' => e = .returned (.int .i64 (D.write off s.data.toList).2) ∧ P' = P) (D' := (D.write off s.data.toList).1) fun Z hz => ?_).mono ?_
  · refine (ps_write off s hz (by have := hi.2.2; omega)).mono ?_
    rintro e w' ⟨rfl, k1, k2⟩
    exact ⟨k2, P, ⟨rfl, rfl⟩, k1⟩
  · rintro e w' ⟨hs, P', ⟨rfl, rfl⟩, k⟩
    exact ⟨rfl, hs, k⟩
theorem pj_crash (sv : Value) (keep : List Int) (torn : Int) (h : PJ B X w0 w g none D x R E) (hi : DInv 1000 D) (hk : keep.length * 8 ≤ 140737488351232) (hI : Ints w.heap.size w sv keep) :
    Calls Tryz.prog 30 #[.pointer (some ⟨g, 0, none⟩), sv, .int .i64 torn] w fun e w' => e = .returned (.int .i64 0) ∧ SameAt X w w' ∧ PJ B X w0 w' g none (D.crash keep torn) x R E := by
  refine (h.prog (Φ := fun e P' => e = .returned (.int .i64 0) ∧ P' = none) (D' := D.crash keep torn) fun Z hz => ?_).mono ?_
  · refine (crash_in sv keep torn hz (by have := hi.2.2; omega) hk hI).mono ?_
    rintro e w' ⟨rfl, k1, k2⟩
    exact ⟨k2, none, ⟨rfl, rfl⟩, k1⟩
  · rintro e w' ⟨hs, P', ⟨rfl, rfl⟩, k⟩
    exact ⟨rfl, hs, k⟩
/-- The reference's disk's calls. -/
theorem pj_rdisk {f : FuncId} {args : Array Value} {V : Value} {E' : DiskS} (h : PJ B X w0 w g P D x R E)
    (hc : ∀ G, IsRef w G x E → (∀ k ∈ G, B ≤ k ∧ k ∉ X) → Calls Tryz.prog f args w fun e w' => e = .returned V ∧ MovedR G w w' x E') :
    Calls Tryz.prog f args w fun e w' => e = .returned V ∧ SameAt X w w' ∧ PJ B X w0 w' g P D x R E' := by
  refine (h.refr (Φ := fun e R' => e = .returned V ∧ R' = R) (E' := E') fun Y hy hyx => ?_).mono ?_
  · cases R with
    | none =>
      refine (hc Y hy hyx).mono ?_
      rintro e w' ⟨rfl, F', k1, k2, k3⟩
      exact ⟨none, F', ⟨rfl, rfl⟩, k1, k2, k3⟩
    | some a =>
      obtain ⟨xb, T, br⟩ := a
      obtain ⟨A, c, G, h1, h2, h3, rfl⟩ := hy
      have hlt := h1.lt
      refine (hc G h2 (fun k hk => hyx k (List.mem_append_right _ hk))).mono ?_
      rintro e w' ⟨rfl, F', k1, k2, k3⟩
      refine ⟨_, (xb :: (A.map (·.block)).toList) ++ F', ⟨rfl, rfl⟩, ⟨A, c, F', h1.stay k2 (h3 xb (by simp)) (fun k hk => h3 k (List.mem_cons_of_mem _ hk)), k1, fun k hk hm => ?_, rfl⟩, k2.mono (fun y hy => .inl (List.mem_append_right _ hy)), fun k hk => ?_⟩
      · rcases k3 k hm with h | h
        · exact h3 k hk h
        · have := hlt k hk; omega
      · rcases List.mem_append.1 hk with hk | hk
        · exact .inl (List.mem_append_left _ hk)
        · rcases k3 k hk with h | h
          · exact .inl (List.mem_append_right _ h)
          · exact .inr h
  · rintro e w' ⟨hs, R', ⟨rfl, rfl⟩, k⟩
    exact ⟨rfl, hs, k⟩
end
end Go.Proofs.YtafjolibfbccbaaGreatDoor

namespace Go.Proofs.YtafjolibfbccbaaGreatDoor
open Go.RowKit
set_option maxRecDepth 100000
set_option maxHeartbeats 40000000

def WBlk (w : World) (wb g x : Nat) (vj vk : Value) : Prop := Blk w wb 32 [.pointer (some ⟨g, 0, none⟩), vj, .pointer (some ⟨x, 0, none⟩), vk]
def jptr (J : JSt) : Value := .pointer (J.map fun a => ⟨a.1, 0, none⟩)
def OpenedT (O : Option TapeS) (P R : JSt) : Prop :=
  match O with
  | some T => ∃ jb xb, P = some (jb, T, false) ∧ R = some (xb, T, false)
  | none => P = none ∧ R = none
theorem open_err (ks : List Int) (D : DiskS) (h : (OpenS ks D).1 = none) : (OpenS ks D).2.2 ≠ 0 := by
  unfold OpenS at h ⊢
  split
  · show (331 : Int) ≠ 0; decide
  split
  · show (342 : Int) ≠ 0; decide
  · rename_i T hl
    rw [if_neg (by assumption), hl] at h
    simp only at h ⊢
    split
    · rename_i hz; rw [if_pos hz] at h; cases h
    · rename_i hz
      rw [if_neg hz] at h
      split
      · rename_i hr; exact hr
      · rename_i hr; rw [if_neg hr] at h; cases h
/-- The blocks of X but one stay. -/
def SameBut (wb : Nat) (X : List Nat) (w w' : World) : Prop := ∀ y ∈ X, y ≠ wb → w'.heap[y]? = w.heap[y]?
section
variable {B g x wb : Nat} {X : List Nat} {w0 w : World} {D : DiskS} {a0 : Addr} {vj vk : Value}
theorem world_open (hl : Laid B refK a0 w0) (hX : wb ∈ X) (hB : B ≤ wb) (hw : WBlk w wb g x vj vk) (h : PJ B X w0 w g none D x none D) (hi : DInv 1000 D) :
    Calls Tryz.prog 17 #[.pointer (some ⟨wb, 0, none⟩)] w fun e w' => e = .returned (.bool true) ∧ SameBut wb X w w' ∧ ∃ P R, OpenedT (OpenS refK D).1 P R ∧ WBlk w' wb g x (jptr P) (jptr R) ∧ PJ B X w0 w' g P (OpenS refK D).2.1 x R (OpenS refK D).2.1 := by
  have HW := hide hw
  have HX := hide hX
  have HB := hide hB
  have HI := hide hi
  have HO := hide (pj_open hl h hi)
  have HER := hide (open_err refK D)
  have c0 : w.cell? ⟨wb, 0, none⟩ = some (.pointer (some ⟨g, 0, none⟩)) := (hw.cell 0).trans rfl
  obtain ⟨O, hOe⟩ : ∃ a, (OpenS refK D).1 = a := ⟨_, rfl⟩
  obtain ⟨er, hEe⟩ : ∃ a, (OpenS refK D).2.2 = a := ⟨_, rfl⟩
  obtain ⟨D', hDe⟩ : ∃ a, (OpenS refK D).2.1 = a := ⟨_, rfl⟩
  rw [hOe, hEe, hDe] at HO
  rw [hOe, hEe] at HER
  rw [hOe, hDe]
  have HOE := hide hOe
  have HEE := hide hEe
  have HDE := hide hDe
  clear hw hX hB hi h hOe hEe hDe
  go_enter Tryz.func17, Tryz.ntmps17
  go_wp2_with fail
  refine HO.out.mono ?_
  rintro e w1 ⟨hs1, P, hp, k1⟩
  have HS1 := hide hs1
  have HW1 := hide (hs1.blk HX.out HW.out)
  have HR := hide (pj_ropen k1 HI.out)
  clear hs1 k1 HW HO c0
  have c2 : w1.cell? ⟨wb, 2, none⟩ = some (.pointer (some ⟨x, 0, none⟩)) := (HW1.out.cell 2).trans rfl
  rw [HOE.out, HEE.out, HDE.out] at HR
  clear HOE HEE HDE
  cases O with
  | none =>
    obtain ⟨rfl, rfl⟩ := hp
    have hne : er ≠ 0 := HER.out rfl
    have g1 : ((er : Int) != 0) = true := by simp [hne]
    clear HER hne
    go_wp2_with fail
    refine HR.out.mono ?_
    rintro e w2 ⟨hs2, R, hr, k2⟩
    obtain ⟨rfl, rfl⟩ := (show e = .returned (.tuple #[.pointer none, .int .i64 er]) ∧ R = none from hr)
    have HS2 := hide hs2
    have HW2 := hide (hs2.blk HX.out HW1.out)
    have HP2 := hide k2
    clear hr hs2 k2 HR c2 HW1
    have f1 := HW2.out.frozen 1
    have c1 : w2.cell? ⟨wb, 1, none⟩ = some vj := (HW2.out.cell 1).trans rfl
    go_upto_region 4 with fail
    obtain ⟨w3, hw⟩ : ∃ y, w2.setCell ⟨wb, 1, none⟩ (.pointer none) = y := ⟨_, rfl⟩
    have u : Upd [wb] w2 w3 := by rw [← hw]; exact (Upd.refl _ _).setCell (.inl (by simp)) _
    have HW3 := hide (show WBlk w3 wb g x (.pointer none) vk from by rw [← hw]; exact HW2.out.set_ 1 _)
    have HP3 := hide (HP2.out.step u (fun y hy => by simp at hy; subst hy; exact ⟨HX.out, HB.out⟩))
    have HU3 := hide u
    rw [hw]
    clear hw u f1 c1 HW2
    have f3 := HW3.out.frozen 3
    have c3 : w3.cell? ⟨wb, 3, none⟩ = some vk := (HW3.out.cell 3).trans rfl
    go_upto_region 5 with fail
    obtain ⟨w4, hw⟩ : ∃ y, w3.setCell ⟨wb, 3, none⟩ (.pointer none) = y := ⟨_, rfl⟩
    have u : Upd [wb] w3 w4 := by rw [← hw]; exact (Upd.refl _ _).setCell (.inl (by simp)) _
    have HW4 := hide (show WBlk w4 wb g x (.pointer none) (.pointer none) from by rw [← hw]; exact HW3.out.set_ 3 _)
    have HP4 := hide (HP3.out.step u (fun y hy => by simp at hy; subst hy; exact ⟨HX.out, HB.out⟩))
    have HU4 := hide (HU3.out.trans u (by simp))
    rw [hw]
    clear hw u f3 c3 HW3 HU3
    go_wp2_with fail
    go_ret
    exact ⟨rfl, fun y hy hne => (HU4.out.block y (HP2.out.xlt y hy) (by simpa using hne)).trans ((HS2.out y hy).trans (HS1.out y hy)), none, none, ⟨rfl, rfl⟩, HW4.out, HP4.out⟩
  | some T =>
    obtain ⟨jb, rfl, rfl⟩ := hp
    clear HER
    go_wp2_with fail
    refine HR.out.mono ?_
    rintro e w2 ⟨hs2, R, hr, k2⟩
    obtain ⟨xb, rfl, rfl⟩ := (show ∃ xb, e = .returned (.tuple #[.pointer (some ⟨xb, 0, none⟩), .int .i64 0]) ∧ R = some (xb, T, false) from hr)
    have HS2 := hide hs2
    have HW2 := hide (hs2.blk HX.out HW1.out)
    have HP2 := hide k2
    clear hr hs2 k2 HR c2 HW1
    have f1 := HW2.out.frozen 1
    have c1 : w2.cell? ⟨wb, 1, none⟩ = some vj := (HW2.out.cell 1).trans rfl
    go_upto_region 4 with fail
    obtain ⟨w3, hw⟩ : ∃ y, w2.setCell ⟨wb, 1, none⟩ (.pointer (some ⟨jb, 0, none⟩)) = y := ⟨_, rfl⟩
    have u : Upd [wb] w2 w3 := by rw [← hw]; exact (Upd.refl _ _).setCell (.inl (by simp)) _
    have HW3 := hide (show WBlk w3 wb g x (.pointer (some ⟨jb, 0, none⟩)) vk from by rw [← hw]; exact HW2.out.set_ 1 _)
    have HP3 := hide (HP2.out.step u (fun y hy => by simp at hy; subst hy; exact ⟨HX.out, HB.out⟩))
    have HU3 := hide u
    rw [hw]
    clear hw u f1 c1 HW2
    have f3 := HW3.out.frozen 3
    have c3 : w3.cell? ⟨wb, 3, none⟩ = some vk := (HW3.out.cell 3).trans rfl
    go_upto_region 5 with fail
    obtain ⟨w4, hw⟩ : ∃ y, w3.setCell ⟨wb, 3, none⟩ (.pointer (some ⟨xb, 0, none⟩)) = y := ⟨_, rfl⟩
    have u : Upd [wb] w3 w4 := by rw [← hw]; exact (Upd.refl _ _).setCell (.inl (by simp)) _
    have HW4 := hide (show WBlk w4 wb g x (.pointer (some ⟨jb, 0, none⟩)) (.pointer (some ⟨xb, 0, none⟩)) from by rw [← hw]; exact HW3.out.set_ 3 _)
    have HP4 := hide (HP3.out.step u (fun y hy => by simp at hy; subst hy; exact ⟨HX.out, HB.out⟩))
    have HU4 := hide (HU3.out.trans u (by simp))
    rw [hw]
    clear hw u f3 c3 HW3 HU3
    go_wp2_with fail
    go_ret
    exact ⟨rfl, fun y hy hne => (HU4.out.block y (HP2.out.xlt y hy) (by simpa using hne)).trans ((HS2.out y hy).trans (HS1.out y hy)), some (jb, T, false), some (xb, T, false), ⟨jb, xb, rfl, rfl⟩, HW4.out, HP4.out⟩
end
/-- Both journals on new disks. -/
theorem begin_any {ks : List Int} {a0 : Addr} (hk : ks = refK) (n : Int) (w0 w : World) (hl : Laid w0.heap.size ks a0 w0) (hn : (Lit.int .i64 n).wf = true) (hb : Below w0.heap.size w0 w) :
    Calls Tryz.prog 9 #[.int .i64 n] w fun e w' => ∃ wb g x P R T, e = .returned (.tuple #[.pointer (some ⟨wb, 0, none⟩), .bool true]) ∧ w0.heap.size ≤ wb ∧ T = tape0 ∧ OpenedT (some T) P R ∧ WBlk w' wb g x (jptr P) (jptr R) ∧ PJ w0.heap.size [wb] w0 w' g P (DiskS.fresh (sizeS n)) x R (DiskS.fresh (sizeS n)) := by
  subst hk
  obtain ⟨N, hN⟩ : ∃ N, sizeS n = N := ⟨_, rfl⟩
  have hNb := sizeS_in n
  rw [hN] at hNb
  have HZ := hide (fun W => size_law n W hn)
  rw [hN] at HZ ⊢
  have HOP := hide (show OpenS refK (DiskS.fresh N) = (some tape0, DiskS.fresh N, 0) by rw [fresh_of, open_of refK [] (N - 0) (diskOf N []) rfl (by unfold diskOf bytesOf; simp [addL]) (by simp)]; rfl)
  have HL := hide hl
  have HNB := hide hNb
  have HN1 := hide (new_in N w0.heap.size w0 w hb hb.size [] (by simp) hNb.1 (by omega))
  clear hN hNb hl hn hb
  go_enter Tryz.func9, Tryz.ntmps9
  go_wp2_with fail
  refine (HZ.out w).mono ?_
  rintro e w' ⟨rfl, rfl⟩
  go_wp2_with fail
  refine HN1.out.mono ?_
  rintro e w2 ⟨g, rfl, d0, _, _⟩
  have HD := hide d0
  have HN2 := hide (refNew N w2 HNB.out.1 (by have := HNB.out.2; omega))
  clear d0 HN1
  go_wp2_with fail
  refine (HZ.out w2).mono ?_
  rintro e w' ⟨rfl, rfl⟩
  go_wp2_with fail
  refine HN2.out.mono ?_
  rintro e w3 ⟨x, Y, rfl, hr, hy, hb3⟩
  have hu3 : Upd [] w2 w3 := (Upd.refl [] w2).below hb3
  have HP3 := hide (show PJ w0.heap.size [] w0 w3 g none (DiskS.fresh N) x none (DiskS.fresh N) from ⟨Y, DiskIn.moreL HD.out hu3 (by simp) Y (fun y h => .inr ⟨hy y h, hr.lt y h⟩), hr, fun k hk => ⟨Nat.le_trans HD.out.room (hy k hk), by simp⟩⟩)
  clear hr hy hb3 hu3 HD HN2 HZ
  go_upto_region 4 with fail
  obtain ⟨w4, hw⟩ : ∃ y, w3.alloc (.cells #[.pointer (some ⟨g, 0, none⟩), .pointer none, .pointer (some ⟨x, 0, none⟩), .pointer none] 32) = y := ⟨_, rfl⟩
  obtain ⟨wb, hwb⟩ : ∃ y, w3.heap.size = y := ⟨_, rfl⟩
  have u : Upd [] w3 w4 := by rw [← hw]; exact (Upd.refl [] _).alloc _
  have HW4 := hide (show WBlk w4 wb g x (.pointer none) (.pointer none) by rw [← hw, ← hwb]; exact Blk.new w3 _ _)
  have HP4 := hide (show PJ w0.heap.size [wb] w0 w4 g none (DiskS.fresh N) x none (DiskS.fresh N) from HP3.out.more u (by simp) [wb] (fun y hy => by simp at hy; subst hy; exact ⟨by rw [hwb]; exact Nat.le_refl _, HW4.out.lt⟩))
  have HBB := hide (show w0.heap.size ≤ wb by rw [← hwb]; exact HP3.out.room)
  rw [hw, hwb]
  clear hw hwb u HP3
  have HO := hide (world_open (wb := wb) HL.out (by simp) HBB.out HW4.out HP4.out ((DInv.fresh N).mono (by omega)))
  rw [HOP.out] at HO
  go_wp2_with fail
  refine HO.out.mono ?_
  rintro e w5 ⟨rfl, _, P, R, ho, hw5, hp5⟩
  have HO5 := hide ho
  have HW5 := hide hw5
  have HP5 := hide hp5
  clear ho hw5 hp5 HO
  go_wp2_with fail
  refine bodyPost_ret (v := .tuple #[.pointer (some ⟨wb, 0, none⟩), .bool true]) (by simp [results, Tryz.results9, go_sem]) rfl ?_
  exact ⟨wb, g, x, P, R, tape0, rfl, HBB.out, rfl, HO5.out, HW5.out, HP5.out⟩
def WInv (m : Nat) (P R : JSt) (D : DiskS) : Prop := DInv m D ∧ (P = none ∧ R = none ∨ ∃ jb xb T br, P = some (jb, T, br) ∧ R = some (xb, T, br) ∧ TInv T ∧ T.size ≤ D.sure.length)
theorem winv_open {m n : Nat} {P R : JSt} {D : DiskS} (h : OpenedT (OpenS refK D).1 P R) (hi : DInv (m + 2) (OpenS refK D).2.1 ∧ (OpenS refK D).2.1.sure.length = D.sure.length ∧ ∀ T, (OpenS refK D).1 = some T → TInv T ∧ T.size ≤ D.sure.length) (hn : m + 2 ≤ n) : WInv n P R (OpenS refK D).2.1 := by
  refine ⟨hi.1.mono hn, ?_⟩
  revert h hi
  cases hO : (OpenS refK D).1 with
  | none => exact fun h _ => .inl h
  | some T =>
    rintro ⟨jb, xb, rfl, rfl⟩ ⟨_, h2, h3⟩
    obtain ⟨h4, h5⟩ := h3 T rfl
    exact .inr ⟨jb, xb, T, false, rfl, rfl, h4, by rw [h2]; exact h5⟩
end Go.Proofs.YtafjolibfbccbaaGreatDoor

namespace Go.Proofs.YtafjolibfbccbaaGreatDoor
open Go.RowKit
set_option maxRecDepth 100000
set_option maxHeartbeats 4000000

section
variable {B g x : Nat} {X : List Nat} {w0 w : World} {P R : JSt} {D E : DiskS}
theorem PS.isDisk {Z : List Nat} (h : PS B Z w0 w g P D) : ∃ F, IsDisk w F g D := by
  obtain ⟨F, h1, _⟩ := h.drop
  exact ⟨F, h1⟩
theorem RS.isRef {Y : List Nat} (h : RS w B Y x R E) : ∃ G, IsRef w G x E := by
  obtain ⟨G, h1, _⟩ := h.drop
  exact ⟨G, h1⟩
theorem pj_pending (h : PJ B X w0 w g P D x R E) : Calls Tryz.prog 32 #[.pointer (some ⟨g, 0, none⟩)] w fun e w' => e = .returned (.int .i64 (D.pend.length : Int)) ∧ w = w' := by
  obtain ⟨Z, h1, _⟩ := h.side
  exact pending_in h1.drop
theorem pj_content (h : PJ B X w0 w g P D x R E) (ho : D.off = false) : Calls Tryz.prog 22 #[.pointer (some ⟨g, 0, none⟩)] w fun e w' => e = .returned (.string ⟨D.vis.toArray⟩) ∧ w = w' := by
  obtain ⟨Z, h1, _⟩ := h.side
  obtain ⟨F, h2⟩ := h1.isDisk
  exact content_any w h2 ho
theorem pj_visible (h : PJ B X w0 w g P D x R E) (hi : DInv 1000 E) : Calls Tryz.prog 23 #[.pointer (some ⟨x, 0, none⟩)] w fun e w' => ∃ gb cb rb, e = .returned (.slice (some ⟨gb, 0, none⟩) E.vis.length cb) ∧ Blk w' gb 5 (bCells E.vis ++ rb) ∧ Upd [] w w' := by
  obtain ⟨Y, h1, h2, h3⟩ := h
  obtain ⟨G, gd, cs, r, A, c, h4⟩ := h2.isRef
  refine (refVisible w h4 (by have := hi.2.2; omega)).mono ?_
  rintro e w' ⟨gb, cb, rb, rfl, _, k2, k3, _, k5⟩
  refine ⟨gb, cb, rb, by rw [hi.2.1], by rw [hi.1]; exact k2, k5⟩
theorem pj_head (h : PJ B X w0 w g P D x R E) : ∃ A c, w.cell? ⟨x, 1, none⟩ = some (.slice A E.pend.length c) ∧ w.cell? ⟨x, 2, none⟩ = some (.bool E.off) := by
  obtain ⟨Y, h1, h2, h3⟩ := h
  obtain ⟨G, gd, cs, r, A, c, h4⟩ := h2.isRef
  exact ⟨A, c, h4.head.cell 1, h4.head.cell 2⟩
theorem pj_records {jb : Nat} {T : TapeS} {br : Bool} (h : PJ B X w0 w g (some (jb, T, br)) D x R E) (hn : T.recs.length ≤ 1000000000000) :
    Calls Tryz.prog 19 #[.pointer (some ⟨jb, 0, none⟩)] w fun e w' => ∃ A' c', e = .returned (.slice A' T.recs.length c') ∧ w'.ownsRow w.heap.size 9 1 (.slice A' T.recs.length c') T.recs.length (T.recs.map strV) ∧ Upd [] w w' := by
  obtain ⟨Z, h1, _⟩ := h.side
  exact records_in h1 hn
theorem pj_room {jb : Nat} {T : TapeS} {br : Bool} (h : PJ B X w0 w g (some (jb, T, br)) D x R E) (hts : T.size ≤ D.sure.length) :
    Calls Tryz.prog 20 #[.pointer (some ⟨jb, 0, none⟩)] w fun e w' => e = .returned (.int .i64 ((D.sure.length - T.size : Nat) : Int)) ∧ Upd [] w w' := by
  obtain ⟨Z, h1, _⟩ := h.side
  exact room_in h1 hts
theorem pj_rroom {xb : Nat} {T : TapeS} {br : Bool} (h : PJ B X w0 w g P D x (some (xb, T, br)) E) (hts : T.size ≤ E.sure.length) :
    Calls Tryz.prog 21 #[.pointer (some ⟨xb, 0, none⟩)] w fun e w' => e = .returned (.int .i64 ((E.sure.length - T.size : Nat) : Int)) ∧ Upd [] w w' := by
  obtain ⟨Y, h1, h2, h3⟩ := h
  obtain ⟨A, c, G, k1, k2, k3, rfl⟩ := h2
  exact refRoom xb x A c T br w k1 k2 hts
theorem pj_list {xb : Nat} {T : TapeS} {br : Bool} (h : PJ B X w0 w g P D x (some (xb, T, br)) E) : ∃ A c, w.cell? ⟨xb, 1, none⟩ = some (.slice A T.recs.length c) ∧ w.ownsRow B 9 1 (.slice A T.recs.length c) T.recs.length (T.recs.map strV) := by
  obtain ⟨Y, h1, h2, h3⟩ := h
  obtain ⟨A, c, G, k1, k2, k3, rfl⟩ := h2
  exact ⟨A, c, (k1.2.1.cell 1).trans rfl, k1.2.2⟩
end
theorem wpAnyH_narrow {P : Program} {md : Region.Mode} {ops : Array Oper} {Q : Exit → Act → World → Prop} {S S' : World → Prop} (h : ∀ w, S' w → S w) : ∀ {fuel : Nat} {listed : Array Bool} {a : Act} {w : World}, wpAnyH P md ops Q S' fuel listed a w → wpAnyH P md ops Q S fuel listed a w
  | 0, _, _, _, hh => hh
  | _ + 1, _, _, _, hh => ⟨hh.1, fun i hi => wpOp_mono (fun _ _ h2 => ⟨h _ h2.1, wpAnyH_narrow h h2.2⟩) (hh.2 i hi)⟩
/-- A disk whose power is not to fail. -/
def NoCut (D : DiskS) : Prop := D.off = false ∧ D.left = 0
theorem NoCut.write {D : DiskS} (h : NoCut D) (off : Int) (s : List UInt8) : NoCut (D.write off s).1 := by
  unfold DiskS.write
  split
  · exact h
  split
  · show NoCut (DiskS.used _)
    unfold DiskS.used
    rw [if_pos h.2]
    exact h
  · exact h
theorem NoCut.sync {D : DiskS} (h : NoCut D) : NoCut D.sync.1 := by
  unfold DiskS.sync
  split
  · exact h
  · exact h
theorem NoCut.ops : ∀ (l : List DOp) {D : DiskS}, NoCut D → NoCut (runOps D l).1
  | [], _, h => h
  | o :: l, D, h => by
    have h1 : NoCut (o.run D).1 := by
      cases o with
      | write a s => exact h.write a _
      | sync => exact h.sync
    rw [runOps]
    split
    · exact h1
    · exact NoCut.ops l h1
theorem NoCut.open_ {D : DiskS} (h : NoCut D) : NoCut (OpenS refK D).2.1 := by
  unfold OpenS
  split
  · exact h
  split
  · exact h
  · simp only
    split
    · exact h
    · split
      · exact NoCut.ops _ h
      · exact NoCut.ops _ h
theorem NoCut.append {D : DiskS} (h : NoCut D) (T : TapeS) (br : Bool) (l : List ByteArray) : NoCut (appendS refK T D br l).2.1 := by
  unfold appendS
  split
  · exact h
  split
  · exact h
  split
  · exact h
  · simp only
    split
    · exact NoCut.ops _ h
    · exact NoCut.ops _ h
end Go.Proofs.YtafjolibfbccbaaGreatDoor
