/-
  ItemEncoding: the walk.
-/
import Derived.Test.YtpkeimdlcafcnaaIWireInt
import Derived.Test.YtpkeimdlcafcnaaISame
import Derived.Test.YtpkeimdlcafcnaaIBent
import Derived.Test.YtpkeimdlcafcnaaISane
namespace Go.Proofs.Ytpkeimdlcafcnaa
open Go.RowKit
set_option maxRecDepth 100000
set_option maxHeartbeats 40000000

theorem keepX {W W' : World} {g t : Nat} {cs : List Value} (h : Blk W g t cs) (hu : Upd [] W W') : Blk W' g t cs := h.upd hu (by simp)
theorem bent_small {i : It} (h : ItOk i) (how n at_ : Int) : (bentS i how n at_).trims.length ≤ 5 ∧ (bentS i how n at_).talks.length ≤ 5 := by
  have h1 := h.2.1.1.2
  have h2 := h.2.1.2.2
  unfold bentS setFr setTo
  repeat' split
  all_goals (first | exact ⟨by simp only [List.length_set]; omega, by simp only [List.length_set]; omega⟩ | exact ⟨by simp; omega, by simp; omega⟩)
theorem use_encode_bad {i : It} {ta ka : Option Addr} {W : World} (h : ItAt W i ta ka) (hok : ¬ ItOk i) (tc kc : Nat) (hm : i.trims.length ≤ maxLen) (hm2 : i.talks.length ≤ maxLen) :
    Calls Try.prog 16 #[.agg #[.int .i64 i.id, .int .i64 i.kind, .int .i64 i.len, .slice ta i.trims.length tc, .slice ka i.talks.length kc, .int .i64 i.artist, .int .i64 i.tempo, .int .i64 i.lang]] W fun e w' => e = .returned (.tuple #[.string ⟨#[]⟩, .int .i64 70]) ∧ Upd [] W w' := by
  refine (itemEncode i ta tc ka kc W h.trims h.talks (Nat.le_refl _) hm hm2).mono fun e w' h => ?_
  unfold EncodePost at h
  rwa [if_neg hok] at h
theorem use_valid_any {i : It} {ta ka : Option Addr} {W : World} (h : ItAt W i ta ka) (tc kc : Nat) (hm : i.trims.length ≤ maxLen) (hm2 : i.talks.length ≤ maxLen) :
    Calls Try.prog 12 #[.agg #[.int .i64 i.id, .int .i64 i.kind, .int .i64 i.len, .slice ta i.trims.length tc, .slice ka i.talks.length kc, .int .i64 i.artist, .int .i64 i.tempo, .int .i64 i.lang]] W fun e w' => e = .returned (.bool (decide (ItOk i))) ∧ Upd [] W w' :=
  valid_it i ta tc ka kc W h.trims h.talks (Nat.le_refl _) hm hm2
theorem str_facts {i k : It} {s t : ByteArray} (hs : ByteArray.mk (encS i).toArray = s) (ht : ByteArray.mk (encS k).toArray = t) (he : i ≠ k) :
    (s.toList == t.toList) = false ∧ (s.size ≤ t.size → ((t.extract 0 s.size).toList == s.toList) = false) ∧ (t.size ≤ s.size → ((s.extract 0 t.size).toList == t.toList) = false) := by
  subst hs ht
  have e1 : ∀ l : List UInt8, (ByteArray.mk l.toArray).toList = l := fun l => by rw [ByteArray.toList_eq]
  have e2 : ∀ l m : List UInt8, ((ByteArray.mk l.toArray).extract 0 (ByteArray.mk m.toArray).size).toList = l.take m.length := fun l m => by
    rw [ByteArray.toList_eq, ByteArray.data_extract]
    show (l.toArray.extract 0 m.toArray.size).toList = _
    rw [List.size_toArray, List.extract_toArray]
    simp
  rw [e1, e1, e2, e2]
  exact ⟨beq_eq_false_iff_ne.2 fun h => he (enc_inj h), fun _ => beq_eq_false_iff_ne.2 fun h => he (enc_take h), fun _ => beq_eq_false_iff_ne.2 fun h => he (enc_take h).symm⟩
theorem itemEncoding_walk (id x0 x1 x2 x3 x4 x5 other y0 y1 y2 y3 y4 y5 how n at_ : Int) (w0 : World) (hid : Fits64 id) (h0 : Fits64 x0) (h1 : Fits64 x1) (h2 : Fits64 x2) (h3 : Fits64 x3) (h4 : Fits64 x4) (h5 : Fits64 x5) (hoth : Fits64 other) (g0 : Fits64 y0) (g1 : Fits64 y1) (g2 : Fits64 y2) (g3 : Fits64 y3) (g4 : Fits64 y4) (g5 : Fits64 y5) (hhow : Fits64 how) (hn : Fits64 n) (hat : Fits64 at_) :
    Calls Try.prog 8 #[.int .i64 id, .agg #[.int .i64 x0, .int .i64 x1, .int .i64 x2, .int .i64 x3, .int .i64 x4, .int .i64 x5], .int .i64 other, .agg #[.int .i64 y0, .int .i64 y1, .int .i64 y2, .int .i64 y3, .int .i64 y4, .int .i64 y5], .int .i64 how, .int .i64 n, .int .i64 at_] w0 fun e w' => e = .returned (.bool true) ∧ Upd [] w0 w' := by
  have hok := madeS_ok id x0 x1 x2 x3 x4 x5
  obtain ⟨i, hi⟩ : ∃ i, madeS id x0 x1 x2 x3 x4 x5 = i := ⟨_, rfl⟩
  rw [hi] at hok
  have HI := hide hi
  have HOK := hide hok
  clear hi hok
  go_enter Try.func8, Try.ntmps8
  obtain ⟨w1, hw⟩ : ∃ x, w0.alloc (.cells #[.int .i64 x0, .int .i64 x1, .int .i64 x2, .int .i64 x3, .int .i64 x4, .int .i64 x5] 25) = x := ⟨_, rfl⟩
  have u1 : Upd [] w0 w1 := by rw [← hw]; exact (Upd.refl [] _).alloc _
  have b1 : Blk w1 w0.heap.size 25 [.int .i64 x0, .int .i64 x1, .int .i64 x2, .int .i64 x3, .int .i64 x4, .int .i64 x5] := by rw [← hw]; exact Blk.new w0 _ _
  have hz1 : w1.heap.size = w0.heap.size + 1 := by rw [← hw, World.size_alloc]
  obtain ⟨w2, hw2⟩ : ∃ x, w1.alloc (.cells #[.int .i64 y0, .int .i64 y1, .int .i64 y2, .int .i64 y3, .int .i64 y4, .int .i64 y5] 25) = x := ⟨_, rfl⟩
  have UU2 := hide (show Upd [] w0 w2 by rw [← hw2]; exact u1.alloc _)
  have BX := hide (show Blk w2 w0.heap.size 25 [.int .i64 x0, .int .i64 x1, .int .i64 x2, .int .i64 x3, .int .i64 x4, .int .i64 x5] by rw [← hw2]; exact b1.alloc _)
  have BY := hide (show Blk w2 (w0.heap.size + 1) 25 [.int .i64 y0, .int .i64 y1, .int .i64 y2, .int .i64 y3, .int .i64 y4, .int .i64 y5] by rw [← hw2, ← hz1]; exact Blk.new w1 _ _)
  have HW := hide hw
  have HW2 := hide hw2
  clear hw hw2 u1 b1 hz1
  go_upto_region 1 with fail
  rw [HW.out, HW2.out]
  clear HW HW2
  go_wp2_with fail
  refine (sane_any _).mono ?_
  rintro e w3 ⟨rfl, u⟩
  have UU3 := hide (UU2.out.trans u (by simp))
  have BX := hide (keepX BX.out u)
  have BY := hide (keepX BY.out u)
  clear u
  have y0' := BX.out.cell 0
  have y1' := BX.out.cell 1
  have y2' := BX.out.cell 2
  have y3' := BX.out.cell 3
  have y4' := BX.out.cell 4
  have y5' := BX.out.cell 5
  go_wp2_with fail
  refine (made_any id x0 x1 x2 x3 x4 x5 _ hid h0 h1 h2 h3 h4 h5 i HI.out).mono ?_
  rintro e w4 ⟨ta, tc, ka, kc, rfl, it, u⟩
  have UU4 := hide (UU3.out.trans u (by simp))
  have BY := hide (keepX BY.out u)
  have IT := hide it
  clear it u BX y0' y1' y2' y3' y4' y5'
  obtain ⟨w5, hw⟩ : ∃ x, w4.alloc (.cells #[.int .i64 i.id, .int .i64 i.kind, .int .i64 i.len, .slice ta i.trims.length tc, .slice ka i.talks.length kc, .int .i64 i.artist, .int .i64 i.tempo, .int .i64 i.lang] 24) = x := ⟨_, rfl⟩
  have u : Upd [] w4 w5 := by rw [← hw]; exact (Upd.refl [] _).alloc _
  have BL5 := hide (show Blk w5 w4.heap.size 24 [.int .i64 i.id, .int .i64 i.kind, .int .i64 i.len, .slice ta i.trims.length tc, .slice ka i.talks.length kc, .int .i64 i.artist, .int .i64 i.tempo, .int .i64 i.lang] by rw [← hw]; exact Blk.new w4 _ _)
  have IT5 := hide (IT.out.upd u)
  have UU5 := hide (UU4.out.trans u (by simp))
  have BY := hide (keepX BY.out u)
  have HW := hide hw
  clear hw u
  go_upto_region 4 with fail
  rw [HW.out]
  have k0 := BL5.out.cell 0
  have k1 := BL5.out.cell 1
  have k2 := BL5.out.cell 2
  have k3 := BL5.out.cell 3
  have k4 := BL5.out.cell 4
  have k5 := BL5.out.cell 5
  have k6 := BL5.out.cell 6
  have k7 := BL5.out.cell 7
  have hlt := BL5.out.lt
  obtain ⟨s, hs⟩ : ∃ s, ByteArray.mk (encS i).toArray = s := ⟨_, rfl⟩
  have HS := hide hs
  have WI := fun w => wireInt i HOK.out w
  rw [hs] at WI
  have HWI := hide WI
  clear WI
  have hss : s.size ≤ 1000 := by rw [← hs]; exact (by rw [show (ByteArray.mk (encS i).toArray).size = (encS i).length from List.size_toArray]; exact enc_small HOK.out)
  clear hs
  go_wp2_with fail
  refine (use_encode IT5.out HOK.out tc kc).mono ?_
  rintro e w6 ⟨rfl, u⟩
  have BL6 := hide (BL5.out.upd u (by simp))
  have IT6 := hide (IT5.out.upd u)
  have UU6 := hide (UU5.out.trans u (by simp))
  have BY := hide (keepX BY.out u)
  rw [HS.out]
  clear u
  clear k0 k1 k2 k3 k4 k5 k6 k7 hlt
  have k0 := BL6.out.cell 0
  have k1 := BL6.out.cell 1
  have k2 := BL6.out.cell 2
  have k3 := BL6.out.cell 3
  have k4 := BL6.out.cell 4
  have k5 := BL6.out.cell 5
  have k6 := BL6.out.cell 6
  have k7 := BL6.out.cell 7
  have hlt := BL6.out.lt
  go_wp2_with fail
  refine (HWI.out _).mono ?_
  rintro e w' ⟨⟨nx, rfl⟩, rfl⟩
  obtain ⟨j, hj⟩ : ∃ j, madeS other y0 y1 y2 y3 y4 y5 = j := ⟨_, rfl⟩
  have hjok := madeS_ok other y0 y1 y2 y3 y4 y5
  rw [hj] at hjok
  obtain ⟨b, hb⟩ : ∃ b, bentS i how n at_ = b := ⟨_, rfl⟩
  have hbl := bent_small HOK.out how n at_
  rw [hb] at hbl
  have hit := HOK.out.2.1.1.2
  have hik := HOK.out.2.1.2.2
  have HJ := hide hj
  have HJO := hide hjok
  have HB := hide hb
  have HBL := hide hbl
  clear hj hjok hb hbl
  go_upto_region 8 with fail
  go_cut [62, 63, 64] from 54 to 64 (fun s62 s63 s64 wx => ∃ (lb : Nat) (jt : Option Addr) (jtc : Nat) (jk : Option Addr) (jkc : Nat) (bt : Option Addr) (btc : Nat) (bk : Option Addr) (bkc : Nat), s62 = .slice (some ⟨lb, 0, none⟩) 2 2 ∧ s63 = .int .i64 2 ∧ s64 = .int .i64 0 ∧ Hid (Blk wx lb 24 [.int .i64 j.id, .int .i64 j.kind, .int .i64 j.len, .slice jt j.trims.length jtc, .slice jk j.talks.length jkc, .int .i64 j.artist, .int .i64 j.tempo, .int .i64 j.lang, .int .i64 b.id, .int .i64 b.kind, .int .i64 b.len, .slice bt b.trims.length btc, .slice bk b.talks.length bkc, .int .i64 b.artist, .int .i64 b.tempo, .int .i64 b.lang]) ∧ Hid (ItAt wx j jt jk) ∧ Hid (ItAt wx b bt bk) ∧ Hid (Upd [] w6 wx))
  case first =>
    refine wp_region_held_drew (S := (fun w' => w'.cell? ⟨w4.heap.size, 0, none⟩ = some (.int .i64 i.id) ∧ w'.cell? ⟨w4.heap.size, 1, none⟩ = some (.int .i64 i.kind) ∧ w'.cell? ⟨w4.heap.size, 2, none⟩ = some (.int .i64 i.len) ∧ w'.cell? ⟨w4.heap.size, 3, none⟩ = some (.slice ta i.trims.length tc) ∧ w'.cell? ⟨w4.heap.size, 4, none⟩ = some (.slice ka i.talks.length kc) ∧ w'.cell? ⟨w4.heap.size, 5, none⟩ = some (.int .i64 i.artist) ∧ w'.cell? ⟨w4.heap.size, 6, none⟩ = some (.int .i64 i.tempo) ∧ w'.cell? ⟨w4.heap.size, 7, none⟩ = some (.int .i64 i.lang) ∧ w'.cell? ⟨w0.heap.size + 1, 0, none⟩ = some (.int .i64 y0) ∧ w'.cell? ⟨w0.heap.size + 1, 1, none⟩ = some (.int .i64 y1) ∧ w'.cell? ⟨w0.heap.size + 1, 2, none⟩ = some (.int .i64 y2) ∧ w'.cell? ⟨w0.heap.size + 1, 3, none⟩ = some (.int .i64 y3) ∧ w'.cell? ⟨w0.heap.size + 1, 4, none⟩ = some (.int .i64 y4) ∧ w'.cell? ⟨w0.heap.size + 1, 5, none⟩ = some (.int .i64 y5))) (by kernel_rfl) (by exact ⟨k0, k1, k2, k3, k4, k5, k6, k7, BY.out.cell 0, BY.out.cell 1, BY.out.cell 2, BY.out.cell 3, BY.out.cell 4, BY.out.cell 5⟩) (fun hHeld => ?_)
    obtain ⟨wd, hwD⟩ : ∃ x, w6.drew = x := ⟨_, rfl⟩
    have u : Upd [] w6 wd := by rw [← hwD]; exact (Upd.refl [] _).drew
    rw [hwD] at hHeld ⊢
    clear hwD
    clear k0 k1 k2 k3 k4 k5 k6 k7 hlt
    have BLd := hide (BL6.out.upd u (by simp))
    have BYd := hide (keepX BY.out u)
    have ITd := hide (IT6.out.upd u)
    have UMd := hide u
    clear u
    refine wpAnyH_take (i := 0) (oi := ?oi0E2) (v := ?v0E2) ?oi0_0E2 (by kernel_rfl) ?ff0E2 ?rr0E2 ?hq0E2 (Or.inl ⟨?hw0E2, ?hy0E2⟩) (by assumption) ?rest0E2
    case oi0_0E2 =>
      conv =>
        lhs
        whnf
        arg 1
        whnf
    case hq0E2 => exact fun _ _ _ h => h
    case ff0E2 => kernel_rfl
    case rr0E2 => kernel_rfl
    case hw0E2 => rfl
    case hy0E2 =>
      intro w hSw
      (try dsimp only at hSw)
      first
      | (go_simp; done)
      | (go_simp; with_reducible rfl)
    try simp only [Act.put, List.setIfInBounds_toArray, List.set_cons_zero, List.set_cons_succ]
    refine wpAnyH_take (i := 1) (oi := ?oi1E2) (v := ?v1E2) ?oi0_1E2 (by kernel_rfl) ?ff1E2 ?rr1E2 ?hq1E2 (Or.inl ⟨?hw1E2, ?hy1E2⟩) (by assumption) ?rest1E2
    case oi0_1E2 =>
      conv =>
        lhs
        whnf
        arg 1
        whnf
    case hq1E2 => exact fun _ _ _ h => h
    case ff1E2 => kernel_rfl
    case rr1E2 => kernel_rfl
    case hw1E2 => rfl
    case hy1E2 =>
      intro w hSw
      (try dsimp only at hSw)
      first
      | (go_simp; done)
      | (go_simp; with_reducible rfl)
    try simp only [Act.put, List.setIfInBounds_toArray, List.set_cons_zero, List.set_cons_succ]
    refine wpAnyH_take (i := 3) (oi := ?oi3E2) (v := ?v3E2) ?oi0_3E2 (by kernel_rfl) ?ff3E2 ?rr3E2 ?hq3E2 (Or.inl ⟨?hw3E2, ?hy3E2⟩) (by assumption) ?rest3E2
    case oi0_3E2 =>
      conv =>
        lhs
        whnf
        arg 1
        whnf
    case hq3E2 => exact fun _ _ _ h => h
    case ff3E2 => kernel_rfl
    case rr3E2 => kernel_rfl
    case hw3E2 => rfl
    case hy3E2 =>
      intro w hSw
      (try dsimp only at hSw)
      first
      | (go_simp; done)
      | (go_simp; with_reducible rfl)
    try simp only [Act.put, List.setIfInBounds_toArray, List.set_cons_zero, List.set_cons_succ]
    refine wpAnyH_take (i := 4) (oi := ?oi4E2) (v := ?v4E2) ?oi0_4E2 (by kernel_rfl) ?ff4E2 ?rr4E2 ?hq4E2 (Or.inl ⟨?hw4E2, ?hy4E2⟩) (by assumption) ?rest4E2
    case oi0_4E2 =>
      conv =>
        lhs
        whnf
        arg 1
        whnf
    case hq4E2 => exact fun _ _ _ h => h
    case ff4E2 => kernel_rfl
    case rr4E2 => kernel_rfl
    case hw4E2 => rfl
    case hy4E2 =>
      intro w hSw
      (try dsimp only at hSw)
      first
      | (go_simp; done)
      | (go_simp; with_reducible rfl)
    try simp only [Act.put, List.setIfInBounds_toArray, List.set_cons_zero, List.set_cons_succ]
    refine wpAnyH_take (i := 5) (oi := ?oi5E2) (v := ?v5E2) ?oi0_5E2 (by kernel_rfl) ?ff5E2 ?rr5E2 ?hq5E2 (Or.inl ⟨?hw5E2, ?hy5E2⟩) (by assumption) ?rest5E2
    case oi0_5E2 =>
      conv =>
        lhs
        whnf
        arg 1
        whnf
    case hq5E2 => exact fun _ _ _ h => h
    case ff5E2 => kernel_rfl
    case rr5E2 => kernel_rfl
    case hw5E2 => rfl
    case hy5E2 =>
      intro w hSw
      (try dsimp only at hSw)
      first
      | (go_simp; done)
      | (go_simp; with_reducible rfl)
    try simp only [Act.put, List.setIfInBounds_toArray, List.set_cons_zero, List.set_cons_succ]
    refine wpAnyH_take (i := 6) (oi := ?oi6E2) (v := ?v6E2) ?oi0_6E2 (by kernel_rfl) ?ff6E2 ?rr6E2 ?hq6E2 (Or.inl ⟨?hw6E2, ?hy6E2⟩) (by assumption) ?rest6E2
    case oi0_6E2 =>
      conv =>
        lhs
        whnf
        arg 1
        whnf
    case hq6E2 => exact fun _ _ _ h => h
    case ff6E2 => kernel_rfl
    case rr6E2 => kernel_rfl
    case hw6E2 => rfl
    case hy6E2 =>
      intro w hSw
      (try dsimp only at hSw)
      first
      | (go_simp; done)
      | (go_simp; with_reducible rfl)
    try simp only [Act.put, List.setIfInBounds_toArray, List.set_cons_zero, List.set_cons_succ]
    refine wpAnyH_take (i := 10) (oi := ?oi10E2) (v := ?v10E2) ?oi0_10E2 (by kernel_rfl) ?ff10E2 ?rr10E2 ?hq10E2 (Or.inl ⟨?hw10E2, ?hy10E2⟩) (by assumption) ?rest10E2
    case oi0_10E2 =>
      conv =>
        lhs
        whnf
        arg 1
        whnf
    case hq10E2 => exact fun _ _ _ h => h
    case ff10E2 => kernel_rfl
    case rr10E2 => kernel_rfl
    case hw10E2 => rfl
    case hy10E2 =>
      intro w hSw
      (try dsimp only at hSw)
      first
      | (go_simp; done)
      | (go_simp; with_reducible rfl)
    try simp only [Act.put, List.setIfInBounds_toArray, List.set_cons_zero, List.set_cons_succ]
    refine wpAnyH_ready (rs := [2]) (by kernel_rfl) (by simp) (AllReadyH.cons (o := ?oi2E5) ?oi0_2E5 (fun K hK => ?k2E5) (AllReadyH.nil))
    case oi0_2E5 =>
      conv =>
        lhs
        whnf
        arg 1
        whnf
    case k2E5 =>
      go_simp
      go_at_call 10
      with_reducible (refine (made_any other y0 y1 y2 y3 y4 y5 _ hoth g0 g1 g2 g3 g4 g5 j HJ.out).mono ?_)
      rintro e wp ⟨jt, jtc, jk, jkc, rfl, itk, u⟩
      have BLp := hide (BLd.out.upd u (by simp))
      have BYp := hide (keepX BYd.out u)
      have ITp := hide (ITd.out.upd u)
      have UMp := hide (UMd.out.trans u (by simp))
      have JTp := hide itk
      clear u itk
      (try dsimp only)
      refine hK.out _ _ (by exact ⟨BLp.out.cell 0, BLp.out.cell 1, BLp.out.cell 2, BLp.out.cell 3, BLp.out.cell 4, BLp.out.cell 5, BLp.out.cell 6, BLp.out.cell 7, BYp.out.cell 0, BYp.out.cell 1, BYp.out.cell 2, BYp.out.cell 3, BYp.out.cell 4, BYp.out.cell 5⟩) (fun hHeld => ?_)
      clear hK K
      try simp only [Act.put, List.setIfInBounds_toArray, List.set_cons_zero, List.set_cons_succ]
      refine wpAnyH_ready (rs := [7]) (by kernel_rfl) (by simp) (AllReadyH.cons (o := ?oi7E4) ?oi0_7E4 (fun K hK => ?k7E4) (AllReadyH.nil))
      case oi0_7E4 =>
        conv =>
          lhs
          whnf
          arg 1
          whnf
      case k7E4 =>
        go_simp
        go_at_call 11
        with_reducible (refine (refBent i ta tc ka kc how n at_ _ ITp.out hit hik hhow hn hat).mono ?_)
        rintro e wq ⟨bt, btc, bk, bkc, rfl, itk, u⟩
        rw [HB.out] at itk ⊢
        have BLq := hide (BLp.out.upd u (by simp))
        have BYq := hide (keepX BYp.out u)
        have ITq := hide (ITp.out.upd u)
        have UMq := hide (UMp.out.trans u (by simp))
        have BTq := hide itk
        have JTq := hide (JTp.out.upd u)
        clear u itk
        (try dsimp only)
        refine hK.out _ _ (by exact ⟨BLq.out.cell 0, BLq.out.cell 1, BLq.out.cell 2, BLq.out.cell 3, BLq.out.cell 4, BLq.out.cell 5, BLq.out.cell 6, BLq.out.cell 7, BYq.out.cell 0, BYq.out.cell 1, BYq.out.cell 2, BYq.out.cell 3, BYq.out.cell 4, BYq.out.cell 5⟩) (fun hHeld => ?_)
        clear hK K
        try simp only [Act.put, List.setIfInBounds_toArray, List.set_cons_zero, List.set_cons_succ]
        have B9 := hide (BLq.out.alloc (.cells #[.int .i64 j.id, .int .i64 j.kind, .int .i64 j.len, .slice jt j.trims.length jtc, .slice jk j.talks.length jkc, .int .i64 j.artist, .int .i64 j.tempo, .int .i64 j.lang, .int .i64 b.id, .int .i64 b.kind, .int .i64 b.len, .slice bt b.trims.length btc, .slice bk b.talks.length bkc, .int .i64 b.artist, .int .i64 b.tempo, .int .i64 b.lang] 24))
        have Y9 := hide (BYq.out.alloc (.cells #[.int .i64 j.id, .int .i64 j.kind, .int .i64 j.len, .slice jt j.trims.length jtc, .slice jk j.talks.length jkc, .int .i64 j.artist, .int .i64 j.tempo, .int .i64 j.lang, .int .i64 b.id, .int .i64 b.kind, .int .i64 b.len, .slice bt b.trims.length btc, .slice bk b.talks.length bkc, .int .i64 b.artist, .int .i64 b.tempo, .int .i64 b.lang] 24))
        refine wpAnyH_ready (rs := [8]) (by kernel_rfl) (by simp) (AllReadyH.cons (o := ?oi8E3) ?oi0_8E3 (fun K hK => ?_) AllReadyH.nil)
        case oi0_8E3 =>
          conv =>
            lhs
            whnf
            arg 1
            whnf
        go_simp
        (try dsimp only)
        refine hK.out _ _ (by exact ⟨B9.out.cell 0, B9.out.cell 1, B9.out.cell 2, B9.out.cell 3, B9.out.cell 4, B9.out.cell 5, B9.out.cell 6, B9.out.cell 7, Y9.out.cell 0, Y9.out.cell 1, Y9.out.cell 2, Y9.out.cell 3, Y9.out.cell 4, Y9.out.cell 5⟩) (fun hHeld => ?_)
        clear hK K
        try simp only [Act.put, List.setIfInBounds_toArray, List.set_cons_zero, List.set_cons_succ]
        refine wpAnyH_take (i := 9) (oi := ?oi9E3) (v := ?v9E3) ?oi0_9E3 (by kernel_rfl) ?ff9E3 ?rr9E3 ?hq9E3 (Or.inl ⟨?hw9E3, ?hy9E3⟩) (by assumption) ?rest9E3
        case oi0_9E3 =>
          conv =>
            lhs
            whnf
            arg 1
            whnf
        case hq9E3 => exact fun _ _ _ h => h
        case ff9E3 => kernel_rfl
        case rr9E3 => kernel_rfl
        case hw9E3 => rfl
        case hy9E3 =>
          intro w hSw
          (try dsimp only at hSw)
          first
          | (go_simp; done)
          | (go_simp; with_reducible rfl)
        try simp only [Act.put, List.setIfInBounds_toArray, List.set_cons_zero, List.set_cons_succ]
        refine wpAnyH_done (by kernel_rfl) ?_ _
        go_wp2_with fail
        go_meet
        exact ⟨wq.heap.size, jt, jtc, jk, jkc, bt, btc, bk, bkc, rfl, rfl, rfl, hide (Blk.new wq _ _), hide (JTq.out.upd ((Upd.refl [] _).alloc _)), hide (BTq.out.upd ((Upd.refl [] _).alloc _)), hide (UMq.out.alloc _)⟩
    
  
  case rest =>
    obtain ⟨lb, jt, jtc, jk, jkc, bt, btc, bk, bkc, rfl, rfl, rfl, LB, JT, BT, hcut⟩ := hcut
    obtain ⟨wm, rfl⟩ : ∃ x : World, x = wc := ⟨_, rfl⟩
    have BLm := hide (BL6.out.upd hcut.out (by simp))
    have ITm := hide (IT6.out.upd hcut.out)
    have UUm := hide (UU6.out.trans hcut.out (by simp))
    clear hcut BY
    clear k0 k1 k2 k3 k4 k5 k6 k7 hlt
    have hmi : i.trims.length ≤ maxLen := by unfold maxLen; omega
    have hmi2 : i.talks.length ≤ maxLen := by unfold maxLen; omega
    go_wp2_with fail
    go_loopw [64] (fun s64 wr => ∃ q : Nat, q ≤ 2 ∧ s64 = .int .i64 q ∧ Hid (Upd [] wm wr)) (fun k _ => 2 - (intOf k).toNat)
    case atStart => exact ⟨0, by omega, rfl, Upd.refl _ _⟩
    case round =>
      obtain ⟨q, hq, rfl, hu⟩ := hrel
      obtain ⟨wo, rfl⟩ : ∃ wo : World, wo = wr := ⟨_, rfl⟩
      have UO := hide (UUm.out.trans hu.out (by simp))
      have HQ : q = 0 ∨ q = 1 ∨ q = 2 := by omega
      clear hq
      rcases HQ with rfl | rfl | rfl
      · have hcv : True := trivial
        have BLo := hide (BLm.out.upd hu.out (by simp))
        have LBo := LB.out.upd hu.out (by simp)
        have l0 := LBo.cell 0
        have l1 := LBo.cell 1
        have l2 := LBo.cell 2
        have l3 := LBo.cell 3
        have l4 := LBo.cell 4
        have l5 := LBo.cell 5
        have l6 := LBo.cell 6
        have l7 := LBo.cell 7
        clear LBo
        have ITK := hide (JT.out.upd hu.out)
        have ITI := hide (ITm.out.upd hu.out)
        go_upto_region 11 with fail
        obtain ⟨wp, hw⟩ : ∃ x, wo.alloc (.cells #[.int .i64 j.id, .int .i64 j.kind, .int .i64 j.len, .slice jt j.trims.length jtc, .slice jk j.talks.length jkc, .int .i64 j.artist, .int .i64 j.tempo, .int .i64 j.lang] 24) = x := ⟨_, rfl⟩
        have u : Upd [] wo wp := by rw [← hw]; exact (Upd.refl [] _).alloc _
        have BKp := hide (show Blk wp wo.heap.size 24 [.int .i64 j.id, .int .i64 j.kind, .int .i64 j.len, .slice jt j.trims.length jtc, .slice jk j.talks.length jkc, .int .i64 j.artist, .int .i64 j.tempo, .int .i64 j.lang] by rw [← hw]; exact Blk.new wo _ _)
        rw [hw]
        have BLp := hide (BLo.out.upd u (by simp))
        have ITKp := hide (ITK.out.upd u)
        have ITIp := hide (ITI.out.upd u)
        have UP := hide (hu.out.trans u (by simp))
        clear hw u l0 l1 l2 l3 l4 l5 l6 l7
        have j0 := BKp.out.cell 0
        have j1 := BKp.out.cell 1
        have j2 := BKp.out.cell 2
        have j3 := BKp.out.cell 3
        have j4 := BKp.out.cell 4
        have j5 := BKp.out.cell 5
        have j6 := BKp.out.cell 6
        have j7 := BKp.out.cell 7
        have k0 := BLp.out.cell 0
        have k1 := BLp.out.cell 1
        have k2 := BLp.out.cell 2
        have k3 := BLp.out.cell 3
        have k4 := BLp.out.cell 4
        have k5 := BLp.out.cell 5
        have k6 := BLp.out.cell 6
        have k7 := BLp.out.cell 7
        have hm1 : j.trims.length ≤ maxLen := by have := HJO.out.2.1.1.2; unfold maxLen; omega
        have hm2 : j.talks.length ≤ maxLen := by have := HJO.out.2.1.2.2; unfold maxLen; omega
        go_wp2_with fail
        by_cases hv : ItOk j
        case neg =>
          refine (use_encode_bad ITKp.out hv jtc jkc hm1 hm2).mono ?_
          rintro e wq ⟨rfl, u⟩
          have BKq := hide (BKp.out.upd u (by simp))
          have BLq := hide (BLp.out.upd u (by simp))
          have ITKq := hide (ITKp.out.upd u)
          have ITIq := hide (ITIp.out.upd u)
          have UC := hide (UP.out.trans u (by simp))
          clear u j0 j1 j2 j3 j4 j5 j6 j7 k0 k1 k2 k3 k4 k5 k6 k7
          have j0 := BKq.out.cell 0
          have j1 := BKq.out.cell 1
          have j2 := BKq.out.cell 2
          have j3 := BKq.out.cell 3
          have j4 := BKq.out.cell 4
          have j5 := BKq.out.cell 5
          have j6 := BKq.out.cell 6
          have j7 := BKq.out.cell 7
          have k0 := BLq.out.cell 0
          have k1 := BLq.out.cell 1
          have k2 := BLq.out.cell 2
          have k3 := BLq.out.cell 3
          have k4 := BLq.out.cell 4
          have k5 := BLq.out.cell 5
          have k6 := BLq.out.cell 6
          have k7 := BLq.out.cell 7
          go_wp2_with fail
          refine (use_valid_any ITKq.out jtc jkc hm1 hm2).mono ?_
          rintro e wr2 ⟨rfl, u⟩
          rw [decide_eq_false hv]
          have BKr := hide (BKq.out.upd u (by simp))
          have BLr := hide (BLq.out.upd u (by simp))
          have ITKr := hide (ITKq.out.upd u)
          have ITIr := hide (ITIq.out.upd u)
          have UC := hide (UC.out.trans u (by simp))
          clear u j0 j1 j2 j3 j4 j5 j6 j7 k0 k1 k2 k3 k4 k5 k6 k7
          have j0 := BKr.out.cell 0
          have j1 := BKr.out.cell 1
          have j2 := BKr.out.cell 2
          have j3 := BKr.out.cell 3
          have j4 := BKr.out.cell 4
          have j5 := BKr.out.cell 5
          have j6 := BKr.out.cell 6
          have j7 := BKr.out.cell 7
          have k0 := BLr.out.cell 0
          have k1 := BLr.out.cell 1
          have k2 := BLr.out.cell 2
          have k3 := BLr.out.cell 3
          have k4 := BLr.out.cell 4
          have k5 := BLr.out.cell 5
          have k6 := BLr.out.cell 6
          have k7 := BLr.out.cell 7
          go_wp2_with fail
          go_roundw
          case rel => exact ⟨1, by omega, rfl, UC⟩
          case measure => simp [intOf]
        have HV := hide hv
        obtain ⟨t9, ht⟩ : ∃ s, ByteArray.mk (encS j).toArray = s := ⟨_, rfl⟩
        have HT := hide ht
        have hts : t9.size ≤ 1000 := by rw [← ht]; exact (by rw [show (ByteArray.mk (encS j).toArray).size = (encS j).length from List.size_toArray]; exact enc_small hv)
        clear ht
        refine (use_encode ITKp.out HV.out jtc jkc).mono ?_
        rintro e wq ⟨rfl, u⟩
        rw [HT.out]
        have BKq := hide (BKp.out.upd u (by simp))
        have BLq := hide (BLp.out.upd u (by simp))
        have ITKq := hide (ITKp.out.upd u)
        have ITIq := hide (ITIp.out.upd u)
        have UC := hide (UP.out.trans u (by simp))
        clear u j0 j1 j2 j3 j4 j5 j6 j7 k0 k1 k2 k3 k4 k5 k6 k7
        have j0 := BKq.out.cell 0
        have j1 := BKq.out.cell 1
        have j2 := BKq.out.cell 2
        have j3 := BKq.out.cell 3
        have j4 := BKq.out.cell 4
        have j5 := BKq.out.cell 5
        have j6 := BKq.out.cell 6
        have j7 := BKq.out.cell 7
        have k0 := BLq.out.cell 0
        have k1 := BLq.out.cell 1
        have k2 := BLq.out.cell 2
        have k3 := BLq.out.cell 3
        have k4 := BLq.out.cell 4
        have k5 := BLq.out.cell 5
        have k6 := BLq.out.cell 6
        have k7 := BLq.out.cell 7
        go_wp2_with fail
        refine (use_valid_any ITKq.out jtc jkc hm1 hm2).mono ?_
        rintro e wr2 ⟨rfl, u⟩
        rw [decide_eq_true HV.out]
        have BKr := hide (BKq.out.upd u (by simp))
        have BLr := hide (BLq.out.upd u (by simp))
        have ITKr := hide (ITKq.out.upd u)
        have ITIr := hide (ITIq.out.upd u)
        have UC := hide (UC.out.trans u (by simp))
        clear u j0 j1 j2 j3 j4 j5 j6 j7 k0 k1 k2 k3 k4 k5 k6 k7
        have j0 := BKr.out.cell 0
        have j1 := BKr.out.cell 1
        have j2 := BKr.out.cell 2
        have j3 := BKr.out.cell 3
        have j4 := BKr.out.cell 4
        have j5 := BKr.out.cell 5
        have j6 := BKr.out.cell 6
        have j7 := BKr.out.cell 7
        have k0 := BLr.out.cell 0
        have k1 := BLr.out.cell 1
        have k2 := BLr.out.cell 2
        have k3 := BLr.out.cell 3
        have k4 := BLr.out.cell 4
        have k5 := BLr.out.cell 5
        have k6 := BLr.out.cell 6
        have k7 := BLr.out.cell 7
        go_wp2_with fail
        refine (refSame i j ta tc ka kc jt jtc jk jkc wr2 ITIr.out ITKr.out hmi hm1 hmi2 hm2).mono ?_
        rintro e ws ⟨rfl, u⟩
        have BKs := hide (BKr.out.upd u (by simp))
        have BLs := hide (BLr.out.upd u (by simp))
        have ITKs := hide (ITKr.out.upd u)
        have ITIs := hide (ITIr.out.upd u)
        have UC := hide (UC.out.trans u (by simp))
        clear u j0 j1 j2 j3 j4 j5 j6 j7 k0 k1 k2 k3 k4 k5 k6 k7
        have j0 := BKs.out.cell 0
        have j1 := BKs.out.cell 1
        have j2 := BKs.out.cell 2
        have j3 := BKs.out.cell 3
        have j4 := BKs.out.cell 4
        have j5 := BKs.out.cell 5
        have j6 := BKs.out.cell 6
        have j7 := BKs.out.cell 7
        have k0 := BLs.out.cell 0
        have k1 := BLs.out.cell 1
        have k2 := BLs.out.cell 2
        have k3 := BLs.out.cell 3
        have k4 := BLs.out.cell 4
        have k5 := BLs.out.cell 5
        have k6 := BLs.out.cell 6
        have k7 := BLs.out.cell 7
        by_cases he : i = j
        case pos =>
          obtain rfl : s = t9 := by rw [← HS.out, ← HT.out, he]
          rw [decide_eq_true he]
          clear he
          go_wp2_with fail
          go_roundw
          case rel => exact ⟨1, by omega, rfl, UC⟩
          case measure => simp [intOf]
        obtain ⟨f1, f2, f3⟩ := str_facts HS.out HT.out he
        rw [decide_eq_false he]
        clear he
        by_cases hl : s.size ≤ t9.size
        case pos =>
          have f2' := f2 hl
          clear f2
          by_cases hl2 : t9.size ≤ s.size
          case pos =>
            have f3' := f3 hl2
            clear f3
            go_wp2_with fail
            go_roundw
            case rel => exact ⟨1, by omega, rfl, UC⟩
            case measure => simp [intOf]
          clear f3
          go_wp2_with fail
          go_roundw
          case rel => exact ⟨1, by omega, rfl, UC⟩
          case measure => simp [intOf]
        have hl2 : t9.size ≤ s.size := by omega
        have f3' := f3 hl2
        clear f2 f3
        go_wp2_with fail
        go_roundw
        case rel => exact ⟨1, by omega, rfl, UC⟩
        case measure => simp [intOf]
      · have hcv : True := trivial
        have BLo := hide (BLm.out.upd hu.out (by simp))
        have LBo := LB.out.upd hu.out (by simp)
        have l0 := LBo.cell 8
        have l1 := LBo.cell 9
        have l2 := LBo.cell 10
        have l3 := LBo.cell 11
        have l4 := LBo.cell 12
        have l5 := LBo.cell 13
        have l6 := LBo.cell 14
        have l7 := LBo.cell 15
        clear LBo
        have ITK := hide (BT.out.upd hu.out)
        have ITI := hide (ITm.out.upd hu.out)
        go_upto_region 11 with fail
        obtain ⟨wp, hw⟩ : ∃ x, wo.alloc (.cells #[.int .i64 b.id, .int .i64 b.kind, .int .i64 b.len, .slice bt b.trims.length btc, .slice bk b.talks.length bkc, .int .i64 b.artist, .int .i64 b.tempo, .int .i64 b.lang] 24) = x := ⟨_, rfl⟩
        have u : Upd [] wo wp := by rw [← hw]; exact (Upd.refl [] _).alloc _
        have BKp := hide (show Blk wp wo.heap.size 24 [.int .i64 b.id, .int .i64 b.kind, .int .i64 b.len, .slice bt b.trims.length btc, .slice bk b.talks.length bkc, .int .i64 b.artist, .int .i64 b.tempo, .int .i64 b.lang] by rw [← hw]; exact Blk.new wo _ _)
        rw [hw]
        have BLp := hide (BLo.out.upd u (by simp))
        have ITKp := hide (ITK.out.upd u)
        have ITIp := hide (ITI.out.upd u)
        have UP := hide (hu.out.trans u (by simp))
        clear hw u l0 l1 l2 l3 l4 l5 l6 l7
        have j0 := BKp.out.cell 0
        have j1 := BKp.out.cell 1
        have j2 := BKp.out.cell 2
        have j3 := BKp.out.cell 3
        have j4 := BKp.out.cell 4
        have j5 := BKp.out.cell 5
        have j6 := BKp.out.cell 6
        have j7 := BKp.out.cell 7
        have k0 := BLp.out.cell 0
        have k1 := BLp.out.cell 1
        have k2 := BLp.out.cell 2
        have k3 := BLp.out.cell 3
        have k4 := BLp.out.cell 4
        have k5 := BLp.out.cell 5
        have k6 := BLp.out.cell 6
        have k7 := BLp.out.cell 7
        have hm1 : b.trims.length ≤ maxLen := by have := HBL.out.1; unfold maxLen; omega
        have hm2 : b.talks.length ≤ maxLen := by have := HBL.out.2; unfold maxLen; omega
        go_wp2_with fail
        by_cases hv : ItOk b
        case neg =>
          refine (use_encode_bad ITKp.out hv btc bkc hm1 hm2).mono ?_
          rintro e wq ⟨rfl, u⟩
          have BKq := hide (BKp.out.upd u (by simp))
          have BLq := hide (BLp.out.upd u (by simp))
          have ITKq := hide (ITKp.out.upd u)
          have ITIq := hide (ITIp.out.upd u)
          have UC := hide (UP.out.trans u (by simp))
          clear u j0 j1 j2 j3 j4 j5 j6 j7 k0 k1 k2 k3 k4 k5 k6 k7
          have j0 := BKq.out.cell 0
          have j1 := BKq.out.cell 1
          have j2 := BKq.out.cell 2
          have j3 := BKq.out.cell 3
          have j4 := BKq.out.cell 4
          have j5 := BKq.out.cell 5
          have j6 := BKq.out.cell 6
          have j7 := BKq.out.cell 7
          have k0 := BLq.out.cell 0
          have k1 := BLq.out.cell 1
          have k2 := BLq.out.cell 2
          have k3 := BLq.out.cell 3
          have k4 := BLq.out.cell 4
          have k5 := BLq.out.cell 5
          have k6 := BLq.out.cell 6
          have k7 := BLq.out.cell 7
          go_wp2_with fail
          refine (use_valid_any ITKq.out btc bkc hm1 hm2).mono ?_
          rintro e wr2 ⟨rfl, u⟩
          rw [decide_eq_false hv]
          have BKr := hide (BKq.out.upd u (by simp))
          have BLr := hide (BLq.out.upd u (by simp))
          have ITKr := hide (ITKq.out.upd u)
          have ITIr := hide (ITIq.out.upd u)
          have UC := hide (UC.out.trans u (by simp))
          clear u j0 j1 j2 j3 j4 j5 j6 j7 k0 k1 k2 k3 k4 k5 k6 k7
          have j0 := BKr.out.cell 0
          have j1 := BKr.out.cell 1
          have j2 := BKr.out.cell 2
          have j3 := BKr.out.cell 3
          have j4 := BKr.out.cell 4
          have j5 := BKr.out.cell 5
          have j6 := BKr.out.cell 6
          have j7 := BKr.out.cell 7
          have k0 := BLr.out.cell 0
          have k1 := BLr.out.cell 1
          have k2 := BLr.out.cell 2
          have k3 := BLr.out.cell 3
          have k4 := BLr.out.cell 4
          have k5 := BLr.out.cell 5
          have k6 := BLr.out.cell 6
          have k7 := BLr.out.cell 7
          go_wp2_with fail
          go_roundw
          case rel => exact ⟨2, by omega, rfl, UC⟩
          case measure => simp [intOf]
        have HV := hide hv
        obtain ⟨t9, ht⟩ : ∃ s, ByteArray.mk (encS b).toArray = s := ⟨_, rfl⟩
        have HT := hide ht
        have hts : t9.size ≤ 1000 := by rw [← ht]; exact (by rw [show (ByteArray.mk (encS b).toArray).size = (encS b).length from List.size_toArray]; exact enc_small hv)
        clear ht
        refine (use_encode ITKp.out HV.out btc bkc).mono ?_
        rintro e wq ⟨rfl, u⟩
        rw [HT.out]
        have BKq := hide (BKp.out.upd u (by simp))
        have BLq := hide (BLp.out.upd u (by simp))
        have ITKq := hide (ITKp.out.upd u)
        have ITIq := hide (ITIp.out.upd u)
        have UC := hide (UP.out.trans u (by simp))
        clear u j0 j1 j2 j3 j4 j5 j6 j7 k0 k1 k2 k3 k4 k5 k6 k7
        have j0 := BKq.out.cell 0
        have j1 := BKq.out.cell 1
        have j2 := BKq.out.cell 2
        have j3 := BKq.out.cell 3
        have j4 := BKq.out.cell 4
        have j5 := BKq.out.cell 5
        have j6 := BKq.out.cell 6
        have j7 := BKq.out.cell 7
        have k0 := BLq.out.cell 0
        have k1 := BLq.out.cell 1
        have k2 := BLq.out.cell 2
        have k3 := BLq.out.cell 3
        have k4 := BLq.out.cell 4
        have k5 := BLq.out.cell 5
        have k6 := BLq.out.cell 6
        have k7 := BLq.out.cell 7
        go_wp2_with fail
        refine (use_valid_any ITKq.out btc bkc hm1 hm2).mono ?_
        rintro e wr2 ⟨rfl, u⟩
        rw [decide_eq_true HV.out]
        have BKr := hide (BKq.out.upd u (by simp))
        have BLr := hide (BLq.out.upd u (by simp))
        have ITKr := hide (ITKq.out.upd u)
        have ITIr := hide (ITIq.out.upd u)
        have UC := hide (UC.out.trans u (by simp))
        clear u j0 j1 j2 j3 j4 j5 j6 j7 k0 k1 k2 k3 k4 k5 k6 k7
        have j0 := BKr.out.cell 0
        have j1 := BKr.out.cell 1
        have j2 := BKr.out.cell 2
        have j3 := BKr.out.cell 3
        have j4 := BKr.out.cell 4
        have j5 := BKr.out.cell 5
        have j6 := BKr.out.cell 6
        have j7 := BKr.out.cell 7
        have k0 := BLr.out.cell 0
        have k1 := BLr.out.cell 1
        have k2 := BLr.out.cell 2
        have k3 := BLr.out.cell 3
        have k4 := BLr.out.cell 4
        have k5 := BLr.out.cell 5
        have k6 := BLr.out.cell 6
        have k7 := BLr.out.cell 7
        go_wp2_with fail
        refine (refSame i b ta tc ka kc bt btc bk bkc wr2 ITIr.out ITKr.out hmi hm1 hmi2 hm2).mono ?_
        rintro e ws ⟨rfl, u⟩
        have BKs := hide (BKr.out.upd u (by simp))
        have BLs := hide (BLr.out.upd u (by simp))
        have ITKs := hide (ITKr.out.upd u)
        have ITIs := hide (ITIr.out.upd u)
        have UC := hide (UC.out.trans u (by simp))
        clear u j0 j1 j2 j3 j4 j5 j6 j7 k0 k1 k2 k3 k4 k5 k6 k7
        have j0 := BKs.out.cell 0
        have j1 := BKs.out.cell 1
        have j2 := BKs.out.cell 2
        have j3 := BKs.out.cell 3
        have j4 := BKs.out.cell 4
        have j5 := BKs.out.cell 5
        have j6 := BKs.out.cell 6
        have j7 := BKs.out.cell 7
        have k0 := BLs.out.cell 0
        have k1 := BLs.out.cell 1
        have k2 := BLs.out.cell 2
        have k3 := BLs.out.cell 3
        have k4 := BLs.out.cell 4
        have k5 := BLs.out.cell 5
        have k6 := BLs.out.cell 6
        have k7 := BLs.out.cell 7
        by_cases he : i = b
        case pos =>
          obtain rfl : s = t9 := by rw [← HS.out, ← HT.out, he]
          rw [decide_eq_true he]
          clear he
          go_wp2_with fail
          go_roundw
          case rel => exact ⟨2, by omega, rfl, UC⟩
          case measure => simp [intOf]
        obtain ⟨f1, f2, f3⟩ := str_facts HS.out HT.out he
        rw [decide_eq_false he]
        clear he
        by_cases hl : s.size ≤ t9.size
        case pos =>
          have f2' := f2 hl
          clear f2
          by_cases hl2 : t9.size ≤ s.size
          case pos =>
            have f3' := f3 hl2
            clear f3
            go_wp2_with fail
            go_roundw
            case rel => exact ⟨2, by omega, rfl, UC⟩
            case measure => simp [intOf]
          clear f3
          go_wp2_with fail
          go_roundw
          case rel => exact ⟨2, by omega, rfl, UC⟩
          case measure => simp [intOf]
        have hl2 : t9.size ≤ s.size := by omega
        have f3' := f3 hl2
        clear f2 f3
        go_wp2_with fail
        go_roundw
        case rel => exact ⟨2, by omega, rfl, UC⟩
        case measure => simp [intOf]
      · go_wp2_with fail
        go_ret
        exact ⟨rfl, UO.out⟩
end Go.Proofs.Ytpkeimdlcafcnaa
