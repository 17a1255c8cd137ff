/-
  ItemTalk: the walk.
-/
import Derived.Test.YtpkeimdlcafcnaaISecs
import Derived.Test.YtpkeimdlcafcnaaILawLe
namespace Go.Proofs.Ytpkeimdlcafcnaa
open Go.RowKit
set_option maxRecDepth 100000
set_option maxHeartbeats 40000000

theorem sep_len {l : List Sp} {m : Int} (h : TInv l m) : (l.length : Int) ≤ max 0 m := by
  have key : ∀ (l : List Sp) (b : Int), (∀ s ∈ l, b ≤ s.fr ∧ s.fr < s.to_ ∧ s.to_ ≤ m) → l.Pairwise (fun s t => s.to_ < t.fr) → (l.length : Int) ≤ max 0 (m - b) := by
    intro l
    induction l with
    | nil => intro b _ _; simp; omega
    | cons s l ih =>
      intro b h1 h2
      have hs := h1 s (by simp)
      have hp := List.pairwise_cons.1 h2
      have := ih s.to_ (fun t ht => by have := h1 t (by simp [ht]); have := hp.1 t ht; omega) hp.2
      rw [List.length_cons]
      omega
  have := key l 0 h.1 h.2
  rwa [Int.sub_zero] at this
theorem or_lt16 {s k : Nat} (hs : s < 16) (hk : k < 4) : s ||| 2 ^ k < 16 := by
  have : ∀ s : Nat, s < 16 → ∀ k : Nat, k < 4 → s ||| 2 ^ k < 16 := by decide
  exact this s hs k hk
theorem shl_or {s k : Nat} (hs : s < 16) (hk : k < 4) : bits .or .i64 (s : Int) (IntKind.i64.wrap (2 ^ k)) = ((s ||| 2 ^ k : Nat) : Int) := by
  have : ∀ s : Nat, s < 16 → ∀ k : Nat, k < 4 → bits .or .i64 (s : Int) (IntKind.i64.wrap (2 ^ k)) = ((s ||| 2 ^ k : Nat) : Int) := by decide
  exact this s hs k hk
theorem itemTalk_walk (id x0 x1 x2 x3 x4 x5 set more second : Int) (w0 : World) (hid : Fits64 id) (h0 : Fits64 x0) (h1 : Fits64 x1) (h2 : Fits64 x2) (h3 : Fits64 x3) (h4 : Fits64 x4) (h5 : Fits64 x5) (hset : Fits64 set) (hmore : Fits64 more) (hsec : Fits64 second) :
    Calls Try.prog 7 #[.int .i64 id, .agg #[.int .i64 x0, .int .i64 x1, .int .i64 x2, .int .i64 x3, .int .i64 x4, .int .i64 x5], .int .i64 set, .int .i64 more, .int .i64 second] w0 fun e w' => e = .returned (.bool true) ∧ Upd [] w0 w' := by
  have hok := madeS_ok id x0 x1 x2 x3 x4 x5
  obtain ⟨i, hi⟩ : ∃ i, madeS id x0 x1 x2 x3 x4 x5 = i := ⟨_, rfl⟩
  rw [hi] at hok
  have HI := hide hi
  have HOK := hide hok
  clear hi hok
  go_enter Try.func7, Try.ntmps7
  obtain ⟨w1, hw⟩ : ∃ x, w0.alloc (.cells #[.int .i64 x0, .int .i64 x1, .int .i64 x2, .int .i64 x3, .int .i64 x4, .int .i64 x5] 25) = x := ⟨_, rfl⟩
  have UU1 := hide (show Upd [] w0 w1 by rw [← hw]; exact (Upd.refl [] _).alloc _)
  have BX1 := hide (show Blk w1 w0.heap.size 25 [.int .i64 x0, .int .i64 x1, .int .i64 x2, .int .i64 x3, .int .i64 x4, .int .i64 x5] by rw [← hw]; exact Blk.new w0 _ _)
  have HW := hide hw
  clear hw
  go_wp2_with fail
  rw [HW.out]
  have BX := hide BX1.out
  refine (sane_any _).mono ?_
  rintro e w2 ⟨rfl, u⟩
  have UU2 := hide (UU1.out.trans u (by simp))
  have BX := hide (keepX BX.out u)
  clear u
  have y0 := BX.out.cell 0
  have y1 := BX.out.cell 1
  have y2 := BX.out.cell 2
  have y3 := BX.out.cell 3
  have y4 := BX.out.cell 4
  have y5 := BX.out.cell 5
  go_wp2_with fail
  refine (made_any id x0 x1 x2 x3 x4 x5 _ hid h0 h1 h2 h3 h4 h5 i HI.out).mono ?_
  rintro e w3 ⟨ta, tc, ka, kc, rfl, it, u⟩
  have UU3 := hide (UU2.out.trans u (by simp))
  have BX := hide (keepX BX.out u)
  have IT := hide it
  clear it u y0 y1 y2 y3 y4 y5
  obtain ⟨w4, hw⟩ : ∃ x, w3.alloc (.cells #[.int .i64 i.id, .int .i64 i.kind, .int .i64 i.len, .slice ta i.trims.length tc, .slice ka i.talks.length kc, .int .i64 i.artist, .int .i64 i.tempo, .int .i64 i.lang] 24) = x := ⟨_, rfl⟩
  have u : Upd [] w3 w4 := by rw [← hw]; exact (Upd.refl [] _).alloc _
  have BL4 := hide (show Blk w4 w3.heap.size 24 [.int .i64 i.id, .int .i64 i.kind, .int .i64 i.len, .slice ta i.trims.length tc, .slice ka i.talks.length kc, .int .i64 i.artist, .int .i64 i.tempo, .int .i64 i.lang] by rw [← hw]; exact Blk.new w3 _ _)
  have IT4 := hide (IT.out.upd u)
  have UU4 := hide (UU3.out.trans u (by simp))
  have BX := hide (keepX BX.out u)
  have HW := hide hw
  clear hw u
  go_upto_region 4 with fail
  rw [HW.out]
  have k0 := BL4.out.cell 0
  have k1 := BL4.out.cell 1
  have k2 := BL4.out.cell 2
  have k3 := BL4.out.cell 3
  have k4 := BL4.out.cell 4
  have k5 := BL4.out.cell 5
  have k6 := BL4.out.cell 6
  have k7 := BL4.out.cell 7
  have hlt := BL4.out.lt
  go_wp2_with fail
  obtain ⟨s, hs⟩ : ∃ s, (pickS set 16).toNat = s := ⟨_, rfl⟩
  have hpb := pickS_bounds set 16 (by omega)
  obtain ⟨ps, hps⟩ : ∃ ps, pickS set 16 = ps := ⟨_, rfl⟩
  rw [hps] at hpb hs
  have hss : ps = (s : Int) := by omega
  have hs16 : s < 16 := by omega
  rw [hss] at hps hs
  have HPS := hide hps
  have HS := hide hs
  clear hs hps hpb hss
  have hok4 := HOK.out.2.1.1.2
  have hset0 := hset.1
  have hset1 := hset.2
  have PK := fun w => lawPick set 16 w hset.1 hset.2 (by omega) (by omega)
  simp only [HPS.out] at PK
  have PKH := hide PK
  clear PK
  refine (cutOf_any i ta i.trims.length tc ka i.talks.length kc set _ hok4 hset0 hset1).mono ?_
  rintro e w5 ⟨ca, cc, rfl, ic, u⟩
  have BL5 := hide (BL4.out.upd u (by simp))
  have IT5 := hide (IT4.out.upd u)
  have UU5 := hide (UU4.out.trans u (by simp))
  have BX := hide (keepX BX.out u)
  have CI := hide (it_own_ints ic)
  clear ic
  clear u
  clear k0 k1 k2 k3 k4 k5 k6 k7 hlt
  have k0 := BL5.out.cell 0
  have k1 := BL5.out.cell 1
  have k2 := BL5.out.cell 2
  have k3 := BL5.out.cell 3
  have k4 := BL5.out.cell 4
  have k5 := BL5.out.cell 5
  have k6 := BL5.out.cell 6
  have k7 := BL5.out.cell 7
  have hlt := BL5.out.lt
  rw [HPS.out, HS.out] at CI ⊢
  obtain ⟨cut, hcut⟩ : ∃ c, bitsS s i.trims.length = c := ⟨_, rfl⟩
  rw [hcut] at CI ⊢
  have HCUT := hide hcut
  have HCO := hide (show CutOk i.trims.length cut by rw [← hcut]; exact bitsS_cutOk _ _ hok4)
  obtain ⟨n, hn⟩ : ∃ n, cutLen i cut = n := ⟨_, rfl⟩
  have hn1 : 1 ≤ n := by rw [← hn, ← hcut]; exact cutLen_pos HOK.out _
  have hnl : n ≤ i.len := by rw [← hn]; exact cutLen_le HOK.out cut
  have hlen2 := HOK.out.1.2.2.2
  obtain ⟨l, hl⟩ : ∃ l, talkS (beforeS i.trims cut) i.talks = l := ⟨_, rfl⟩
  have hall := talk_all HOK.out s
  rw [hcut, hn, hl] at hall
  have HTI := hide hall.1
  have HL := hide hl
  have HN := hide hn
  clear hcut hn hl hall
  go_wp2_with fail
  refine (use_length IT5.out HOK.out tc kc ca cut.length cc cut CI.out HCO.out n HN.out).mono ?_
  rintro e w6 ⟨rfl, u⟩
  have BL6 := hide (BL5.out.upd u (by simp))
  have IT6 := hide (IT5.out.upd u)
  have UU6 := hide (UU5.out.trans u (by simp))
  have BX := hide (keepX BX.out u)
  have CI := hide (keepI CI.out u)
  clear u
  clear k0 k1 k2 k3 k4 k5 k6 k7 hlt
  have k0 := BL6.out.cell 0
  have k1 := BL6.out.cell 1
  have k2 := BL6.out.cell 2
  have k3 := BL6.out.cell 3
  have k4 := BL6.out.cell 4
  have k5 := BL6.out.cell 5
  have k6 := BL6.out.cell 6
  have k7 := BL6.out.cell 7
  have hlt := BL6.out.lt
  go_wp2_with fail
  refine (use_talk IT6.out HOK.out tc kc ca cut.length cc cut CI.out HCO.out l HL.out).mono ?_
  rintro e w7 ⟨la, lc, rfl, sl, u⟩
  have BL7 := hide (BL6.out.upd u (by simp))
  have IT7 := hide (IT6.out.upd u)
  have UU7 := hide (UU6.out.trans u (by simp))
  have BX := hide (keepX BX.out u)
  have CI := hide (keepI CI.out u)
  have TI := hide sl
  clear sl
  clear u
  clear k0 k1 k2 k3 k4 k5 k6 k7 hlt
  have k0 := BL7.out.cell 0
  have k1 := BL7.out.cell 1
  have k2 := BL7.out.cell 2
  have k3 := BL7.out.cell 3
  have k4 := BL7.out.cell 4
  have k5 := BL7.out.cell 5
  have k6 := BL7.out.cell 6
  have k7 := BL7.out.cell 7
  have hlt := BL7.out.lt
  have hn0 : ¬ n < 1 := by omega
  have hn0d : decide (n < 1) = false := decide_eq_false hn0
  go_wp2_with fail
  obtain ⟨a, ha⟩ : ∃ a, pickS second n = a := ⟨_, rfl⟩
  have hab := pickS_bounds second n (by omega)
  rw [ha] at hab
  obtain ⟨ha0, han⟩ := hab
  have PK := hide (lawPick second n w7 hsec.1 hsec.2 (by omega) (by omega))
  rw [ha] at PK
  clear ha
  refine (PK.out).mono ?_
  rintro e w' ⟨rfl, rfl⟩
  clear PK
  obtain ⟨q, hq⟩ : ∃ q, placeS i.trims cut a = q := ⟨_, rfl⟩
  have HG := hide (show decide (Gone l a) = decide (Gone i.talks q) from decide_eq_decide.2 (by have := talk_place HOK.out s a; rw [HCUT.out, HL.out, hq] at this; exact this))
  have HQ := hide hq
  clear hq
  go_wp2_with fail
  refine (use_place IT7.out HOK.out tc kc ca cut.length cc cut CI.out HCO.out a q ha0 (by rw [HN.out]; exact han) HQ.out).mono ?_
  rintro e w8 ⟨rfl, u⟩
  have BL8 := hide (BL7.out.upd u (by simp))
  have IT8 := hide (IT7.out.upd u)
  have UU8 := hide (UU7.out.trans u (by simp))
  have BX := hide (keepX BX.out u)
  have CI := hide (keepI CI.out u)
  have TI := hide (keepS TI.out u)
  clear u
  clear k0 k1 k2 k3 k4 k5 k6 k7 hlt
  have k0 := BL8.out.cell 0
  have k1 := BL8.out.cell 1
  have k2 := BL8.out.cell 2
  have k3 := BL8.out.cell 3
  have k4 := BL8.out.cell 4
  have k5 := BL8.out.cell 5
  have k6 := BL8.out.cell 6
  have k7 := BL8.out.cell 7
  have hlt := BL8.out.lt
  clear CI
  have hlm0 := sep_len HTI.out
  have hlm : l.length ≤ maxLen := by unfold maxLen; omega
  have hkm : i.talks.length ≤ maxLen := by have := HOK.out.2.1.2.2; unfold maxLen; omega
  have hl9 : (l.length : Int) ≤ 3600 := by omega
  clear hlm0
  obtain ⟨g, hg⟩ : ∃ g, decide (Gone i.talks q) = g := ⟨_, rfl⟩
  have HGG := hide (HG.out.trans hg)
  have HGT := hide hg
  clear HG hg
  go_wp2_with fail
  refine ((refIn la l.length lc l a w8 TI.out rfl hlm)).mono ?_
  rintro e w9 ⟨rfl, u⟩
  have BL9 := hide (BL8.out.upd u (by simp))
  have IT9 := hide (IT8.out.upd u)
  have UU9 := hide (UU8.out.trans u (by simp))
  have BX := hide (keepX BX.out u)
  have TI := hide (keepS TI.out u)
  clear u
  clear k0 k1 k2 k3 k4 k5 k6 k7 hlt
  have k0 := BL9.out.cell 0
  have k1 := BL9.out.cell 1
  have k2 := BL9.out.cell 2
  have k3 := BL9.out.cell 3
  have k4 := BL9.out.cell 4
  have k5 := BL9.out.cell 5
  have k6 := BL9.out.cell 6
  have k7 := BL9.out.cell 7
  have hlt := BL9.out.lt
  rw [HGG.out]
  go_wp2_with fail
  refine ((refIn ka i.talks.length kc i.talks q w9 IT9.out.talks rfl hkm)).mono ?_
  rintro e w10 ⟨rfl, u⟩
  have BL10 := hide (BL9.out.upd u (by simp))
  have IT10 := hide (IT9.out.upd u)
  have UU10 := hide (UU9.out.trans u (by simp))
  have BX := hide (keepX BX.out u)
  have TI := hide (keepS TI.out u)
  clear u
  clear k0 k1 k2 k3 k4 k5 k6 k7 hlt
  have k0 := BL10.out.cell 0
  have k1 := BL10.out.cell 1
  have k2 := BL10.out.cell 2
  have k3 := BL10.out.cell 3
  have k4 := BL10.out.cell 4
  have k5 := BL10.out.cell 5
  have k6 := BL10.out.cell 6
  have k7 := BL10.out.cell 7
  have hlt := BL10.out.lt
  rw [HGT.out]
  have hn00 : 0 ≤ n := by omega
  have hn36 : n ≤ 3600 := by omega
  obtain ⟨many, hmany⟩ : ∃ x, sumSp l = x := ⟨_, rfl⟩
  have HM := hide hmany
  have hmb := tsum_bound HTI.out.1 HTI.out.2 hn00
  rw [hmany] at hmb
  clear hmany
  go_wp2_with fail
  refine ((lawSecs la l.length lc l n w10 TI.out rfl hlm HTI.out hn00 hn36)).mono ?_
  rintro e w11 ⟨rfl, u⟩
  have BL11 := hide (BL10.out.upd u (by simp))
  have IT11 := hide (IT10.out.upd u)
  have UU11 := hide (UU10.out.trans u (by simp))
  have BX := hide (keepX BX.out u)
  have TI := hide (keepS TI.out u)
  clear u
  clear k0 k1 k2 k3 k4 k5 k6 k7 hlt
  have k0 := BL11.out.cell 0
  have k1 := BL11.out.cell 1
  have k2 := BL11.out.cell 2
  have k3 := BL11.out.cell 3
  have k4 := BL11.out.cell 4
  have k5 := BL11.out.cell 5
  have k6 := BL11.out.cell 6
  have k7 := BL11.out.cell 7
  have hlt := BL11.out.lt
  rw [HM.out]
  have hgg : (g != g) = false := by simp
  go_upto_region 14 with fail
  go_cut [115] from 82 to 115 (fun s115 wx => s115 = .bool false ∧ Hid (Upd [] w11 wx))
  case first =>
    by_cases hl0 : l.length = 0
    case pos =>
      have hl0i : ¬ (0 : Int) < (l.length : Int) := by omega
      have hl0d : decide ((0 : Int) < (l.length : Int)) = false := decide_eq_false hl0i
      clear hl0
      go_wp2_with fail
      go_meet
      exact ⟨rfl, Upd.refl _ _⟩
    obtain ⟨m, hm⟩ : ∃ m, m + 1 = l.length := ⟨l.length - 1, by omega⟩
    obtain ⟨s0, hs0⟩ : ∃ x, l[0]? = some x := ⟨_, List.getElem?_eq_getElem (by omega)⟩
    obtain ⟨s1, hs1⟩ : ∃ x, l[m]? = some x := ⟨_, List.getElem?_eq_getElem (by omega)⟩
    have t0 := HTI.out.1 s0 (List.mem_of_getElem? hs0)
    have t1 := HTI.out.1 s1 (List.mem_of_getElem? hs1)
    obtain ⟨b, o, ea, _, c0, _⟩ := TI.out 0 s0 hs0
    obtain ⟨b', o', eb, _, _, c1⟩ := TI.out m s1 hs1
    subst ea
    injection eb with eb
    injection eb with e1 e2
    subst e1 e2
    rw [Nat.zero_mul, Nat.add_zero] at c0
    have hl0i : (0 : Int) < l.length := by omega
    have hl0n : 0 < l.length := by omega
    have hmn : m < l.length := by omega
    have hmi : (m : Int) < l.length := by omega
    have hwm : IntKind.i64.wrap ((l.length : Int) - 1) = (m : Int) := (Go.IntWalk.i64_in _ (by omega)).trans (by omega)
    have q0 : ¬ s0.fr < 0 := by omega
    have q0d : decide (s0.fr < 0) = false := decide_eq_false q0
    have q1 : ¬ n < s1.to_ := by omega
    have q1d : decide (n < s1.to_) = false := decide_eq_false q1
    clear hs0 hs1 t0 t1 hm hl0
    go_wp2_with fail
    go_meet
    exact ⟨rfl, Upd.refl _ _⟩
  case rest =>
    obtain ⟨rfl, hcut⟩ := hcut
    obtain ⟨w12, rfl⟩ : ∃ x : World, x = wc := ⟨_, rfl⟩
    have u := hcut.out
    have BL12 := hide (BL11.out.upd u (by simp))
    have IT12 := hide (IT11.out.upd u)
    have UU12 := hide (UU11.out.trans u (by simp))
    have BX := hide (keepX BX.out u)
    have TI := hide (keepS TI.out u)
    clear u hcut
    clear k0 k1 k2 k3 k4 k5 k6 k7 hlt
    have k0 := BL12.out.cell 0
    have k1 := BL12.out.cell 1
    have k2 := BL12.out.cell 2
    have k3 := BL12.out.cell 3
    have k4 := BL12.out.cell 4
    have k5 := BL12.out.cell 5
    have k6 := BL12.out.cell 6
    have k7 := BL12.out.cell 7
    have hlt := BL12.out.lt
    clear TI
    by_cases ht0 : i.trims.length = 0
    case pos =>
      have ht0b : ((i.trims.length : Int) == 0) = true := by simp [ht0]
      clear ht0
      go_wp2_with fail
      go_ret
      exact ⟨rfl, UU12.out⟩
    have ht0b : ((i.trims.length : Int) == 0) = false := beq_eq_false_iff_ne.2 (by omega)
    go_wp2_with fail
    obtain ⟨ki, hki⟩ : ∃ a, pickS more i.trims.length = a := ⟨_, rfl⟩
    have hkb := pickS_bounds more i.trims.length (by omega)
    rw [hki] at hkb
    have PK := hide (lawPick more i.trims.length w12 hmore.1 hmore.2 (by omega) (by omega))
    obtain ⟨k, rfl⟩ : ∃ k : Nat, ki = (k : Int) := ⟨ki.toNat, by omega⟩
    rw [hki] at PK
    clear hki
    have hk : k < i.trims.length := by omega
    have hk4 : k < 4 := by omega
    clear hkb ht0 ht0b
    refine (PK.out).mono ?_
    rintro e w' ⟨rfl, rfl⟩
    clear PK
    obtain ⟨t, ht⟩ : ∃ t, i.trims[k]? = some t := ⟨_, List.getElem?_eq_getElem hk⟩
    have hmore2 := talk_more HOK.out s k hk ht
    have htb := (HOK.out.2.1.1.1 k hk).1
    rw [ht] at htb
    have htb1 : t.fr < t.to_ := htb.2.1
    have htb2 : t.to_ ≤ i.len := htb.2.2
    have htb0 : 0 ≤ t.fr := htb.1
    clear htb
    rw [HCUT.out, HL.out, HM.out] at hmore2
    have hd16 := or_lt16 hs16 hk4
    obtain ⟨dn, hdn⟩ : ∃ d, s ||| 2 ^ k = d := ⟨_, rfl⟩
    rw [hdn] at hmore2 hd16
    have hsh := shl_or hs16 hk4
    rw [hdn] at hsh
    have HPD := hide (show pickS (dn : Int) 16 = dn from pickS_id (by omega) (by omega))
    have hdt : ((dn : Int)).toNat = dn := Int.toNat_natCast dn
    have HDT := hide hdt
    clear hdt hdn
    have hdf0 : -9223372036854775808 ≤ (dn : Int) := by omega
    have hdf1 : (dn : Int) ≤ 9223372036854775807 := by omega
    obtain ⟨l2, hl2⟩ : ∃ l2, talkS (beforeS i.trims (bitsS dn i.trims.length)) i.talks = l2 := ⟨_, rfl⟩
    have hall := talk_all HOK.out dn
    rw [hl2] at hall hmore2
    obtain ⟨less, hless⟩ : ∃ x, sumSp l2 = x := ⟨_, rfl⟩
    have hlb := tsum_bound hall.1.1 hall.1.2 (by have := cutLen_pos HOK.out dn; omega)
    rw [hless] at hmore2 hlb
    have hcl := cutLen_le HOK.out (bitsS dn i.trims.length)
    have hcp := cutLen_pos HOK.out dn
    obtain ⟨n2, hn2⟩ : ∃ x, cutLen i (bitsS dn i.trims.length) = x := ⟨_, rfl⟩
    rw [hn2] at hcl hcp hall hlb
    have HTI2 := hide hall.1
    have HL2 := hide hl2
    have HLE := hide hless
    clear hall hl2 hless hn2
    have hm1 : less ≤ many := hmore2.1
    have hm2 : many - less ≤ t.to_ - t.fr := hmore2.2
    clear hmore2
    have HT := hide ht
    clear ht
    skip
    go_upto_region 19 with fail
    refine wp_region_held_drew (S := (fun w' => w'.cell? ⟨w3.heap.size, 0, none⟩ = some (.int .i64 i.id) ∧ w'.cell? ⟨w3.heap.size, 1, none⟩ = some (.int .i64 i.kind) ∧ w'.cell? ⟨w3.heap.size, 2, none⟩ = some (.int .i64 i.len) ∧ w'.cell? ⟨w3.heap.size, 3, none⟩ = some (.slice ta i.trims.length tc) ∧ w'.cell? ⟨w3.heap.size, 4, none⟩ = some (.slice ka i.talks.length kc) ∧ w'.cell? ⟨w3.heap.size, 5, none⟩ = some (.int .i64 i.artist) ∧ w'.cell? ⟨w3.heap.size, 6, none⟩ = some (.int .i64 i.tempo) ∧ w'.cell? ⟨w3.heap.size, 7, none⟩ = some (.int .i64 i.lang))) (by kernel_rfl) (by exact ⟨k0, k1, k2, k3, k4, k5, k6, k7⟩) (fun hHeld => ?_)
    obtain ⟨w13, hwD⟩ : ∃ x, w12.drew = x := ⟨_, rfl⟩
    have u : Upd [] w12 w13 := by rw [← hwD]; exact (Upd.refl [] _).drew
    rw [hwD] at hHeld ⊢
    clear hwD
    have BL13 := hide (BL12.out.upd u (by simp))
    have IT13 := hide (IT12.out.upd u)
    have UU13 := hide (UU12.out.trans u (by simp))
    have BX := hide (keepX BX.out u)
    clear u
    clear k0 k1 k2 k3 k4 k5 k6 k7 hlt
    have k0 := BL13.out.cell 0
    have k1 := BL13.out.cell 1
    have k2 := BL13.out.cell 2
    have k3 := BL13.out.cell 3
    have k4 := BL13.out.cell 4
    have k5 := BL13.out.cell 5
    have k6 := BL13.out.cell 6
    have k7 := BL13.out.cell 7
    have hlt := BL13.out.lt
    refine wpAnyH_take (i := 0) (oi := ?oi0R1) (v := ?v0R1) ?oi0_0R1 (by kernel_rfl) ?ff0R1 ?rr0R1 ?hq0R1 (Or.inl ⟨?hw0R1, ?hy0R1⟩) (by assumption) ?rest0R1
    case oi0_0R1 =>
      conv =>
        lhs
        whnf
        arg 1
        whnf
    case hq0R1 => exact fun _ _ _ h => h
    case ff0R1 => kernel_rfl
    case rr0R1 => kernel_rfl
    case hw0R1 => rfl
    case hy0R1 =>
      intro w hSw
      (try dsimp only at hSw)
      first
      | (go_simp; done)
      | (go_simp; with_reducible rfl)
    try simp only [Act.put, List.setIfInBounds_toArray, List.set_cons_zero, List.set_cons_succ]
    refine wpAnyH_take (i := 1) (oi := ?oi1R1) (v := ?v1R1) ?oi0_1R1 (by kernel_rfl) ?ff1R1 ?rr1R1 ?hq1R1 (Or.inl ⟨?hw1R1, ?hy1R1⟩) (by assumption) ?rest1R1
    case oi0_1R1 =>
      conv =>
        lhs
        whnf
        arg 1
        whnf
    case hq1R1 => exact fun _ _ _ h => h
    case ff1R1 => kernel_rfl
    case rr1R1 => kernel_rfl
    case hw1R1 => rfl
    case hy1R1 =>
      intro w hSw
      (try dsimp only at hSw)
      first
      | (go_simp; done)
      | (go_simp; with_reducible rfl)
    try simp only [Act.put, List.setIfInBounds_toArray, List.set_cons_zero, List.set_cons_succ]
    refine wpAnyH_take (i := 3) (oi := ?oi3R1) (v := ?v3R1) ?oi0_3R1 (by kernel_rfl) ?ff3R1 ?rr3R1 ?hq3R1 (Or.inl ⟨?hw3R1, ?hy3R1⟩) (by assumption) ?rest3R1
    case oi0_3R1 =>
      conv =>
        lhs
        whnf
        arg 1
        whnf
    case hq3R1 => exact fun _ _ _ h => h
    case ff3R1 => kernel_rfl
    case rr3R1 => kernel_rfl
    case hw3R1 => rfl
    case hy3R1 =>
      intro w hSw
      (try dsimp only at hSw)
      first
      | (go_simp; done)
      | (go_simp; with_reducible rfl)
    try simp only [Act.put, List.setIfInBounds_toArray, List.set_cons_zero, List.set_cons_succ]
    refine wpAnyH_take (i := 4) (oi := ?oi4R1) (v := ?v4R1) ?oi0_4R1 (by kernel_rfl) ?ff4R1 ?rr4R1 ?hq4R1 (Or.inl ⟨?hw4R1, ?hy4R1⟩) (by assumption) ?rest4R1
    case oi0_4R1 =>
      conv =>
        lhs
        whnf
        arg 1
        whnf
    case hq4R1 => exact fun _ _ _ h => h
    case ff4R1 => kernel_rfl
    case rr4R1 => kernel_rfl
    case hw4R1 => rfl
    case hy4R1 =>
      intro w hSw
      (try dsimp only at hSw)
      first
      | (go_simp; done)
      | (go_simp; with_reducible rfl)
    try simp only [Act.put, List.setIfInBounds_toArray, List.set_cons_zero, List.set_cons_succ]
    refine wpAnyH_ready (rs := [2]) (by kernel_rfl) (by simp) (AllReadyH.cons (o := ?oiR2) ?oi0_R2 (fun K hK => ?_) AllReadyH.nil)
    case oi0_R2 =>
      conv =>
        lhs
        whnf
        arg 1
        whnf
    go_simp
    go_at_call 19
    with_reducible (refine (PKH.out _).mono ?_)
    rintro e w' ⟨rfl, rfl⟩
    (try dsimp only)
    refine hK.out _ _ (by exact ⟨k0, k1, k2, k3, k4, k5, k6, k7⟩) (fun hHeld => ?_)
    clear hK K
    try simp only [Act.put, List.setIfInBounds_toArray, List.set_cons_zero, List.set_cons_succ]
    refine wpAnyH_take (i := 5) (oi := ?oi5R3) (v := ?v5R3) ?oi0_5R3 (by kernel_rfl) ?ff5R3 ?rr5R3 ?hq5R3 (Or.inl ⟨?hw5R3, ?hy5R3⟩) (by assumption) ?rest5R3
    case oi0_5R3 =>
      conv =>
        lhs
        whnf
        arg 1
        whnf
    case hq5R3 => exact fun _ _ _ h => h
    case ff5R3 => kernel_rfl
    case rr5R3 => kernel_rfl
    case hw5R3 => rfl
    case hy5R3 =>
      intro w hSw
      (try dsimp only at hSw)
      first
      | (go_simp; done)
      | (go_simp; with_reducible rfl)
    try simp only [Act.put, List.setIfInBounds_toArray, List.set_cons_zero, List.set_cons_succ]
    refine wpAnyH_ready (rs := [6]) (by kernel_rfl) (by simp) (AllReadyH.cons (o := ?oiR4) ?oi0_R4 (fun K hK => ?_) AllReadyH.nil)
    case oi0_R4 =>
      conv =>
        lhs
        whnf
        arg 1
        whnf
    go_simp
    go_at_call 22
    with_reducible (refine (cutOf_any i ta i.trims.length tc ka i.talks.length kc (dn : Int) _ hok4 hdf0 hdf1).mono ?_)
    rintro e w14 ⟨da, dc, rfl, ic, u⟩
    have BL14 := hide (BL13.out.upd u (by simp))
    have IT14 := hide (IT13.out.upd u)
    have UU14 := hide (UU13.out.trans u (by simp))
    have BX := hide (keepX BX.out u)
    have DI := hide (it_own_ints ic)
    clear ic
    rw [HPD.out, HDT.out] at DI ⊢
    clear u
    clear k0 k1 k2 k3 k4 k5 k6 k7 hlt
    have k0 := BL14.out.cell 0
    have k1 := BL14.out.cell 1
    have k2 := BL14.out.cell 2
    have k3 := BL14.out.cell 3
    have k4 := BL14.out.cell 4
    have k5 := BL14.out.cell 5
    have k6 := BL14.out.cell 6
    have k7 := BL14.out.cell 7
    have hlt := BL14.out.lt
    (try dsimp only)
    refine hK.out _ _ (by exact ⟨k0, k1, k2, k3, k4, k5, k6, k7⟩) (fun hHeld => ?_)
    clear hK K
    try simp only [Act.put, List.setIfInBounds_toArray, List.set_cons_zero, List.set_cons_succ]
    skip
    refine wpAnyH_take (i := 7) (oi := ?oi7R6) (v := ?v7R6) ?oi0_7R6 (by kernel_rfl) ?ff7R6 ?rr7R6 ?hq7R6 (Or.inl ⟨?hw7R6, ?hy7R6⟩) (by assumption) ?rest7R6
    case oi0_7R6 =>
      conv =>
        lhs
        whnf
        arg 1
        whnf
    case hq7R6 => exact fun _ _ _ h => h
    case ff7R6 => kernel_rfl
    case rr7R6 => kernel_rfl
    case hw7R6 => rfl
    case hy7R6 =>
      intro w hSw
      (try dsimp only at hSw)
      first
      | (go_simp; done)
      | (go_simp; with_reducible rfl)
    try simp only [Act.put, List.setIfInBounds_toArray, List.set_cons_zero, List.set_cons_succ]
    refine wpAnyH_done (by kernel_rfl) ?_ _
    have HDO := hide (bitsS_cutOk dn _ hok4)
    go_wp2_with fail
    refine (use_talk IT14.out HOK.out tc kc da (bitsS dn i.trims.length).length dc (bitsS dn i.trims.length) DI.out HDO.out l2 HL2.out).mono ?_
    rintro e w15 ⟨la2, lc2, rfl, sl, u⟩
    have BL15 := hide (BL14.out.upd u (by simp))
    have IT15 := hide (IT14.out.upd u)
    have UU15 := hide (UU14.out.trans u (by simp))
    have BX := hide (keepX BX.out u)
    have DI := hide (keepI DI.out u)
    have TI := hide sl
    clear sl
    clear u
    clear k0 k1 k2 k3 k4 k5 k6 k7 hlt
    have k0 := BL15.out.cell 0
    have k1 := BL15.out.cell 1
    have k2 := BL15.out.cell 2
    have k3 := BL15.out.cell 3
    have k4 := BL15.out.cell 4
    have k5 := BL15.out.cell 5
    have k6 := BL15.out.cell 6
    have k7 := BL15.out.cell 7
    have hlt := BL15.out.lt
    clear DI
    have hlm0 := sep_len HTI2.out
    have hlm2 : l2.length ≤ maxLen := by unfold maxLen; omega
    clear hlm0
    have hn200 : 0 ≤ n2 := by omega
    have hn236 : n2 ≤ 3600 := by omega
    go_wp2_with fail
    refine ((lawSecs la2 l2.length lc2 l2 n2 w15 TI.out rfl hlm2 HTI2.out hn200 hn236)).mono ?_
    rintro e w16 ⟨rfl, u⟩
    have BL16 := hide (BL15.out.upd u (by simp))
    have IT16 := hide (IT15.out.upd u)
    have UU16 := hide (UU15.out.trans u (by simp))
    have BX := hide (keepX BX.out u)
    have TI := hide (keepS TI.out u)
    clear u
    clear k0 k1 k2 k3 k4 k5 k6 k7 hlt
    have k0 := BL16.out.cell 0
    have k1 := BL16.out.cell 1
    have k2 := BL16.out.cell 2
    have k3 := BL16.out.cell 3
    have k4 := BL16.out.cell 4
    have k5 := BL16.out.cell 5
    have k6 := BL16.out.cell 6
    have k7 := BL16.out.cell 7
    have hlt := BL16.out.lt
    rw [HLE.out]
    obtain ⟨b, o, ea, hb, c0, c1⟩ := IT16.out.trims k t HT.out
    subst ea
    have hki : (k : Int) < i.trims.length := by omega
    have hm1d : decide (less ≤ many) = true := decide_eq_true hm1
    have hw1 : IntKind.i64.wrap (many - less) = many - less := Go.IntWalk.i64_in _ (by omega)
    have hw2 : IntKind.i64.wrap (t.to_ - t.fr) = t.to_ - t.fr := Go.IntWalk.i64_in _ (by omega)
    have hm2d : decide (many - less ≤ t.to_ - t.fr) = true := decide_eq_true hm2
    go_upto_region 22 with fail
    refine wp_region_held_drew (S := (fun w' => w'.cell? ⟨w3.heap.size, 3, none⟩ = some (.slice (some ⟨b, o, none⟩) i.trims.length tc) ∧ w'.cell? ⟨b, o + k * 2, none⟩ = some (.int .i64 t.fr) ∧ w'.cell? ⟨b, o + k * 2 + 1, none⟩ = some (.int .i64 t.to_))) (by kernel_rfl) (by exact ⟨k3, c0, c1⟩) (fun hHeld => ?_)
    refine wpAnyH_take (i := 0) (oi := ?oi0H7) (v := ?v0H7) ?oi0_0H7 (by kernel_rfl) ?ff0H7 ?rr0H7 ?hq0H7 (Or.inl ⟨?hw0H7, ?hy0H7⟩) (by assumption) ?rest0H7
    case oi0_0H7 =>
      conv =>
        lhs
        whnf
        arg 1
        whnf
    case hq0H7 => exact fun _ _ _ h => h
    case ff0H7 => kernel_rfl
    case rr0H7 => kernel_rfl
    case hw0H7 => rfl
    case hy0H7 =>
      intro w hSw
      (try dsimp only at hSw)
      first
      | (go_simp; done)
      | (go_simp; with_reducible rfl)
    try simp only [Act.put, List.setIfInBounds_toArray, List.set_cons_zero, List.set_cons_succ]
    refine wpAnyH_take (i := 1) (oi := ?oi1H7) (v := ?v1H7) ?oi0_1H7 (by kernel_rfl) ?ff1H7 ?rr1H7 ?hq1H7 (Or.inl ⟨?hw1H7, ?hy1H7⟩) (by assumption) ?rest1H7
    case oi0_1H7 =>
      conv =>
        lhs
        whnf
        arg 1
        whnf
    case hq1H7 => exact fun _ _ _ h => h
    case ff1H7 => kernel_rfl
    case rr1H7 => kernel_rfl
    case hw1H7 => rfl
    case hy1H7 =>
      intro w hSw
      (try dsimp only at hSw)
      first
      | (go_simp; done)
      | (go_simp; with_reducible rfl)
    try simp only [Act.put, List.setIfInBounds_toArray, List.set_cons_zero, List.set_cons_succ]
    refine wpAnyH_take (i := 2) (oi := ?oi2H7) (v := ?v2H7) ?oi0_2H7 (by kernel_rfl) ?ff2H7 ?rr2H7 ?hq2H7 (Or.inl ⟨?hw2H7, ?hy2H7⟩) (by assumption) ?rest2H7
    case oi0_2H7 =>
      conv =>
        lhs
        whnf
        arg 1
        whnf
    case hq2H7 => exact fun _ _ _ h => h
    case ff2H7 => kernel_rfl
    case rr2H7 => kernel_rfl
    case hw2H7 => rfl
    case hy2H7 =>
      intro w hSw
      (try dsimp only at hSw)
      first
      | (go_simp; done)
      | (go_simp; with_reducible rfl)
    try simp only [Act.put, List.setIfInBounds_toArray, List.set_cons_zero, List.set_cons_succ]
    refine wpAnyH_take (i := 3) (oi := ?oi3H7) (v := ?v3H7) ?oi0_3H7 (by kernel_rfl) ?ff3H7 ?rr3H7 ?hq3H7 (Or.inl ⟨?hw3H7, ?hy3H7⟩) (by assumption) ?rest3H7
    case oi0_3H7 =>
      conv =>
        lhs
        whnf
        arg 1
        whnf
    case hq3H7 => exact fun _ _ _ h => h
    case ff3H7 => kernel_rfl
    case rr3H7 => kernel_rfl
    case hw3H7 => rfl
    case hy3H7 =>
      intro w hSw
      (try dsimp only at hSw)
      first
      | (go_simp; done)
      | (go_simp; with_reducible rfl)
    try simp only [Act.put, List.setIfInBounds_toArray, List.set_cons_zero, List.set_cons_succ]
    refine wpAnyH_take (i := 4) (oi := ?oi4H7) (v := ?v4H7) ?oi0_4H7 (by kernel_rfl) ?ff4H7 ?rr4H7 ?hq4H7 (Or.inl ⟨?hw4H7, ?hy4H7⟩) (by assumption) ?rest4H7
    case oi0_4H7 =>
      conv =>
        lhs
        whnf
        arg 1
        whnf
    case hq4H7 => exact fun _ _ _ h => h
    case ff4H7 => kernel_rfl
    case rr4H7 => kernel_rfl
    case hw4H7 => rfl
    case hy4H7 =>
      intro w hSw
      (try dsimp only at hSw)
      first
      | (go_simp; done)
      | (go_simp; with_reducible rfl)
    try simp only [Act.put, List.setIfInBounds_toArray, List.set_cons_zero, List.set_cons_succ]
    refine wpAnyH_take (i := 5) (oi := ?oi5H7) (v := ?v5H7) ?oi0_5H7 (by kernel_rfl) ?ff5H7 ?rr5H7 ?hq5H7 (Or.inl ⟨?hw5H7, ?hy5H7⟩) (by assumption) ?rest5H7
    case oi0_5H7 =>
      conv =>
        lhs
        whnf
        arg 1
        whnf
    case hq5H7 => exact fun _ _ _ h => h
    case ff5H7 => kernel_rfl
    case rr5H7 => kernel_rfl
    case hw5H7 => rfl
    case hy5H7 =>
      intro w hSw
      (try dsimp only at hSw)
      first
      | (go_simp; done)
      | (go_simp; with_reducible rfl)
    try simp only [Act.put, List.setIfInBounds_toArray, List.set_cons_zero, List.set_cons_succ]
    refine wpAnyH_take (i := 6) (oi := ?oi6H7) (v := ?v6H7) ?oi0_6H7 (by kernel_rfl) ?ff6H7 ?rr6H7 ?hq6H7 (Or.inl ⟨?hw6H7, ?hy6H7⟩) (by assumption) ?rest6H7
    case oi0_6H7 =>
      conv =>
        lhs
        whnf
        arg 1
        whnf
    case hq6H7 => exact fun _ _ _ h => h
    case ff6H7 => kernel_rfl
    case rr6H7 => kernel_rfl
    case hw6H7 => rfl
    case hy6H7 =>
      intro w hSw
      (try dsimp only at hSw)
      first
      | (go_simp; done)
      | (go_simp; with_reducible rfl)
    try simp only [Act.put, List.setIfInBounds_toArray, List.set_cons_zero, List.set_cons_succ]
    refine wpAnyH_take (i := 7) (oi := ?oi7H7) (v := ?v7H7) ?oi0_7H7 (by kernel_rfl) ?ff7H7 ?rr7H7 ?hq7H7 (Or.inl ⟨?hw7H7, ?hy7H7⟩) (by assumption) ?rest7H7
    case oi0_7H7 =>
      conv =>
        lhs
        whnf
        arg 1
        whnf
    case hq7H7 => exact fun _ _ _ h => h
    case ff7H7 => kernel_rfl
    case rr7H7 => kernel_rfl
    case hw7H7 => rfl
    case hy7H7 =>
      intro w hSw
      (try dsimp only at hSw)
      first
      | (go_simp; done)
      | (go_simp; with_reducible rfl)
    try simp only [Act.put, List.setIfInBounds_toArray, List.set_cons_zero, List.set_cons_succ]
    refine wpAnyH_take (i := 8) (oi := ?oi8H7) (v := ?v8H7) ?oi0_8H7 (by kernel_rfl) ?ff8H7 ?rr8H7 ?hq8H7 (Or.inl ⟨?hw8H7, ?hy8H7⟩) (by assumption) ?rest8H7
    case oi0_8H7 =>
      conv =>
        lhs
        whnf
        arg 1
        whnf
    case hq8H7 => exact fun _ _ _ h => h
    case ff8H7 => kernel_rfl
    case rr8H7 => kernel_rfl
    case hw8H7 => rfl
    case hy8H7 =>
      intro w hSw
      (try dsimp only at hSw)
      first
      | (go_simp; done)
      | (go_simp; with_reducible rfl)
    try simp only [Act.put, List.setIfInBounds_toArray, List.set_cons_zero, List.set_cons_succ]
    refine wpAnyH_take (i := 9) (oi := ?oi9H7) (v := ?v9H7) ?oi0_9H7 (by kernel_rfl) ?ff9H7 ?rr9H7 ?hq9H7 (Or.inl ⟨?hw9H7, ?hy9H7⟩) (by assumption) ?rest9H7
    case oi0_9H7 =>
      conv =>
        lhs
        whnf
        arg 1
        whnf
    case hq9H7 => exact fun _ _ _ h => h
    case ff9H7 => kernel_rfl
    case rr9H7 => kernel_rfl
    case hw9H7 => rfl
    case hy9H7 =>
      intro w hSw
      (try dsimp only at hSw)
      first
      | (go_simp; done)
      | (go_simp; with_reducible rfl)
    try simp only [Act.put, List.setIfInBounds_toArray, List.set_cons_zero, List.set_cons_succ]
    refine wpAnyH_take (i := 10) (oi := ?oi10H7) (v := ?v10H7) ?oi0_10H7 (by kernel_rfl) ?ff10H7 ?rr10H7 ?hq10H7 (Or.inl ⟨?hw10H7, ?hy10H7⟩) (by assumption) ?rest10H7
    case oi0_10H7 =>
      conv =>
        lhs
        whnf
        arg 1
        whnf
    case hq10H7 => exact fun _ _ _ h => h
    case ff10H7 => kernel_rfl
    case rr10H7 => kernel_rfl
    case hw10H7 => rfl
    case hy10H7 =>
      intro w hSw
      (try dsimp only at hSw)
      first
      | (go_simp; done)
      | (go_simp; with_reducible rfl)
    try simp only [Act.put, List.setIfInBounds_toArray, List.set_cons_zero, List.set_cons_succ]
    refine wpAnyH_take (i := 11) (oi := ?oi11H7) (v := ?v11H7) ?oi0_11H7 (by kernel_rfl) ?ff11H7 ?rr11H7 ?hq11H7 (Or.inl ⟨?hw11H7, ?hy11H7⟩) (by assumption) ?rest11H7
    case oi0_11H7 =>
      conv =>
        lhs
        whnf
        arg 1
        whnf
    case hq11H7 => exact fun _ _ _ h => h
    case ff11H7 => kernel_rfl
    case rr11H7 => kernel_rfl
    case hw11H7 => rfl
    case hy11H7 =>
      intro w hSw
      (try dsimp only at hSw)
      first
      | (go_simp; done)
      | (go_simp; with_reducible rfl)
    try simp only [Act.put, List.setIfInBounds_toArray, List.set_cons_zero, List.set_cons_succ]
    refine wpAnyH_take (i := 12) (oi := ?oi12H7) (v := ?v12H7) ?oi0_12H7 (by kernel_rfl) ?ff12H7 ?rr12H7 ?hq12H7 (Or.inl ⟨?hw12H7, ?hy12H7⟩) (by assumption) ?rest12H7
    case oi0_12H7 =>
      conv =>
        lhs
        whnf
        arg 1
        whnf
    case hq12H7 => exact fun _ _ _ h => h
    case ff12H7 => kernel_rfl
    case rr12H7 => kernel_rfl
    case hw12H7 => rfl
    case hy12H7 =>
      intro w hSw
      (try dsimp only at hSw)
      first
      | (go_simp; done)
      | (go_simp; with_reducible rfl)
    try simp only [Act.put, List.setIfInBounds_toArray, List.set_cons_zero, List.set_cons_succ]
    refine wpAnyH_take (i := 13) (oi := ?oi13H7) (v := ?v13H7) ?oi0_13H7 (by kernel_rfl) ?ff13H7 ?rr13H7 ?hq13H7 (Or.inl ⟨?hw13H7, ?hy13H7⟩) (by assumption) ?rest13H7
    case oi0_13H7 =>
      conv =>
        lhs
        whnf
        arg 1
        whnf
    case hq13H7 => exact fun _ _ _ h => h
    case ff13H7 => kernel_rfl
    case rr13H7 => kernel_rfl
    case hw13H7 => rfl
    case hy13H7 =>
      intro w hSw
      (try dsimp only at hSw)
      first
      | (go_simp; done)
      | (go_simp; with_reducible rfl)
    try simp only [Act.put, List.setIfInBounds_toArray, List.set_cons_zero, List.set_cons_succ]
    refine wpAnyH_take (i := 14) (oi := ?oi14H7) (v := ?v14H7) ?oi0_14H7 (by kernel_rfl) ?ff14H7 ?rr14H7 ?hq14H7 (Or.inl ⟨?hw14H7, ?hy14H7⟩) (by assumption) ?rest14H7
    case oi0_14H7 =>
      conv =>
        lhs
        whnf
        arg 1
        whnf
    case hq14H7 => exact fun _ _ _ h => h
    case ff14H7 => kernel_rfl
    case rr14H7 => kernel_rfl
    case hw14H7 => rfl
    case hy14H7 =>
      intro w hSw
      (try dsimp only at hSw)
      first
      | (go_simp; done)
      | (go_simp; with_reducible rfl)
    try simp only [Act.put, List.setIfInBounds_toArray, List.set_cons_zero, List.set_cons_succ]
    refine wpAnyH_take (i := 15) (oi := ?oi15H7) (v := ?v15H7) ?oi0_15H7 (by kernel_rfl) ?ff15H7 ?rr15H7 ?hq15H7 (Or.inl ⟨?hw15H7, ?hy15H7⟩) (by assumption) ?rest15H7
    case oi0_15H7 =>
      conv =>
        lhs
        whnf
        arg 1
        whnf
    case hq15H7 => exact fun _ _ _ h => h
    case ff15H7 => kernel_rfl
    case rr15H7 => kernel_rfl
    case hw15H7 => rfl
    case hy15H7 =>
      intro w hSw
      (try dsimp only at hSw)
      first
      | (go_simp; done)
      | (go_simp; with_reducible rfl)
    try simp only [Act.put, List.setIfInBounds_toArray, List.set_cons_zero, List.set_cons_succ]
    refine wpAnyH_take (i := 16) (oi := ?oi16H7) (v := ?v16H7) ?oi0_16H7 (by kernel_rfl) ?ff16H7 ?rr16H7 ?hq16H7 (Or.inl ⟨?hw16H7, ?hy16H7⟩) (by assumption) ?rest16H7
    case oi0_16H7 =>
      conv =>
        lhs
        whnf
        arg 1
        whnf
    case hq16H7 => exact fun _ _ _ h => h
    case ff16H7 => kernel_rfl
    case rr16H7 => kernel_rfl
    case hw16H7 => rfl
    case hy16H7 =>
      intro w hSw
      (try dsimp only at hSw)
      first
      | (go_simp; done)
      | (go_simp; with_reducible rfl)
    try simp only [Act.put, List.setIfInBounds_toArray, List.set_cons_zero, List.set_cons_succ]
    refine wpAnyH_take (i := 17) (oi := ?oi17H7) (v := ?v17H7) ?oi0_17H7 (by kernel_rfl) ?ff17H7 ?rr17H7 ?hq17H7 (Or.inl ⟨?hw17H7, ?hy17H7⟩) (by assumption) ?rest17H7
    case oi0_17H7 =>
      conv =>
        lhs
        whnf
        arg 1
        whnf
    case hq17H7 => exact fun _ _ _ h => h
    case ff17H7 => kernel_rfl
    case rr17H7 => kernel_rfl
    case hw17H7 => rfl
    case hy17H7 =>
      intro w hSw
      (try dsimp only at hSw)
      first
      | (go_simp; done)
      | (go_simp; with_reducible rfl)
    try simp only [Act.put, List.setIfInBounds_toArray, List.set_cons_zero, List.set_cons_succ]
    refine wpAnyH_take (i := 18) (oi := ?oi18H7) (v := ?v18H7) ?oi0_18H7 (by kernel_rfl) ?ff18H7 ?rr18H7 ?hq18H7 (Or.inl ⟨?hw18H7, ?hy18H7⟩) (by assumption) ?rest18H7
    case oi0_18H7 =>
      conv =>
        lhs
        whnf
        arg 1
        whnf
    case hq18H7 => exact fun _ _ _ h => h
    case ff18H7 => kernel_rfl
    case rr18H7 => kernel_rfl
    case hw18H7 => rfl
    case hy18H7 =>
      intro w hSw
      (try dsimp only at hSw)
      first
      | (go_simp; done)
      | (go_simp; with_reducible rfl)
    try simp only [Act.put, List.setIfInBounds_toArray, List.set_cons_zero, List.set_cons_succ]
    refine wpAnyH_take (i := 19) (oi := ?oi19H7) (v := ?v19H7) ?oi0_19H7 (by kernel_rfl) ?ff19H7 ?rr19H7 ?hq19H7 (Or.inl ⟨?hw19H7, ?hy19H7⟩) (by assumption) ?rest19H7
    case oi0_19H7 =>
      conv =>
        lhs
        whnf
        arg 1
        whnf
    case hq19H7 => exact fun _ _ _ h => h
    case ff19H7 => kernel_rfl
    case rr19H7 => kernel_rfl
    case hw19H7 => rfl
    case hy19H7 =>
      intro w hSw
      (try dsimp only at hSw)
      first
      | (go_simp; done)
      | (go_simp; with_reducible rfl)
    try simp only [Act.put, List.setIfInBounds_toArray, List.set_cons_zero, List.set_cons_succ]
    refine wpAnyH_take (i := 20) (oi := ?oi20H7) (v := ?v20H7) ?oi0_20H7 (by kernel_rfl) ?ff20H7 ?rr20H7 ?hq20H7 (Or.inl ⟨?hw20H7, ?hy20H7⟩) (by assumption) ?rest20H7
    case oi0_20H7 =>
      conv =>
        lhs
        whnf
        arg 1
        whnf
    case hq20H7 => exact fun _ _ _ h => h
    case ff20H7 => kernel_rfl
    case rr20H7 => kernel_rfl
    case hw20H7 => rfl
    case hy20H7 =>
      intro w hSw
      (try dsimp only at hSw)
      first
      | (go_simp; done)
      | (go_simp; with_reducible rfl)
    try simp only [Act.put, List.setIfInBounds_toArray, List.set_cons_zero, List.set_cons_succ]
    refine wpAnyH_take (i := 21) (oi := ?oi21H7) (v := ?v21H7) ?oi0_21H7 (by kernel_rfl) ?ff21H7 ?rr21H7 ?hq21H7 (Or.inl ⟨?hw21H7, ?hy21H7⟩) (by assumption) ?rest21H7
    case oi0_21H7 =>
      conv =>
        lhs
        whnf
        arg 1
        whnf
    case hq21H7 => exact fun _ _ _ h => h
    case ff21H7 => kernel_rfl
    case rr21H7 => kernel_rfl
    case hw21H7 => rfl
    case hy21H7 =>
      intro w hSw
      (try dsimp only at hSw)
      first
      | (go_simp; done)
      | (go_simp; with_reducible rfl)
    try simp only [Act.put, List.setIfInBounds_toArray, List.set_cons_zero, List.set_cons_succ]
    refine wpAnyH_take (i := 22) (oi := ?oi22H7) (v := ?v22H7) ?oi0_22H7 (by kernel_rfl) ?ff22H7 ?rr22H7 ?hq22H7 (Or.inl ⟨?hw22H7, ?hy22H7⟩) (by assumption) ?rest22H7
    case oi0_22H7 =>
      conv =>
        lhs
        whnf
        arg 1
        whnf
    case hq22H7 => exact fun _ _ _ h => h
    case ff22H7 => kernel_rfl
    case rr22H7 => kernel_rfl
    case hw22H7 => rfl
    case hy22H7 =>
      intro w hSw
      (try dsimp only at hSw)
      first
      | (go_simp; done)
      | (go_simp; with_reducible rfl)
    try simp only [Act.put, List.setIfInBounds_toArray, List.set_cons_zero, List.set_cons_succ]
    refine wpAnyH_take (i := 23) (oi := ?oi23H7) (v := ?v23H7) ?oi0_23H7 (by kernel_rfl) ?ff23H7 ?rr23H7 ?hq23H7 (Or.inl ⟨?hw23H7, ?hy23H7⟩) (by assumption) ?rest23H7
    case oi0_23H7 =>
      conv =>
        lhs
        whnf
        arg 1
        whnf
    case hq23H7 => exact fun _ _ _ h => h
    case ff23H7 => kernel_rfl
    case rr23H7 => kernel_rfl
    case hw23H7 => rfl
    case hy23H7 =>
      intro w hSw
      (try dsimp only at hSw)
      first
      | (go_simp; done)
      | (go_simp; with_reducible rfl)
    try simp only [Act.put, List.setIfInBounds_toArray, List.set_cons_zero, List.set_cons_succ]
    refine wpAnyH_take (i := 24) (oi := ?oi24H7) (v := ?v24H7) ?oi0_24H7 (by kernel_rfl) ?ff24H7 ?rr24H7 ?hq24H7 (Or.inl ⟨?hw24H7, ?hy24H7⟩) (by assumption) ?rest24H7
    case oi0_24H7 =>
      conv =>
        lhs
        whnf
        arg 1
        whnf
    case hq24H7 => exact fun _ _ _ h => h
    case ff24H7 => kernel_rfl
    case rr24H7 => kernel_rfl
    case hw24H7 => rfl
    case hy24H7 =>
      intro w hSw
      (try dsimp only at hSw)
      first
      | (go_simp; done)
      | (go_simp; with_reducible rfl)
    try simp only [Act.put, List.setIfInBounds_toArray, List.set_cons_zero, List.set_cons_succ]
    refine wpAnyH_take (i := 25) (oi := ?oi25H7) (v := ?v25H7) ?oi0_25H7 (by kernel_rfl) ?ff25H7 ?rr25H7 ?hq25H7 (Or.inl ⟨?hw25H7, ?hy25H7⟩) (by assumption) ?rest25H7
    case oi0_25H7 =>
      conv =>
        lhs
        whnf
        arg 1
        whnf
    case hq25H7 => exact fun _ _ _ h => h
    case ff25H7 => kernel_rfl
    case rr25H7 => kernel_rfl
    case hw25H7 => rfl
    case hy25H7 =>
      intro w hSw
      (try dsimp only at hSw)
      first
      | (go_simp; done)
      | (go_simp; with_reducible rfl)
    try simp only [Act.put, List.setIfInBounds_toArray, List.set_cons_zero, List.set_cons_succ]
    refine wpAnyH_take (i := 26) (oi := ?oi26H7) (v := ?v26H7) ?oi0_26H7 (by kernel_rfl) ?ff26H7 ?rr26H7 ?hq26H7 (Or.inl ⟨?hw26H7, ?hy26H7⟩) (by assumption) ?rest26H7
    case oi0_26H7 =>
      conv =>
        lhs
        whnf
        arg 1
        whnf
    case hq26H7 => exact fun _ _ _ h => h
    case ff26H7 => kernel_rfl
    case rr26H7 => kernel_rfl
    case hw26H7 => rfl
    case hy26H7 =>
      intro w hSw
      (try dsimp only at hSw)
      first
      | (go_simp; done)
      | (go_simp; with_reducible rfl)
    try simp only [Act.put, List.setIfInBounds_toArray, List.set_cons_zero, List.set_cons_succ]
    refine wpAnyH_take (i := 27) (oi := ?oi27H7) (v := ?v27H7) ?oi0_27H7 (by kernel_rfl) ?ff27H7 ?rr27H7 ?hq27H7 (Or.inl ⟨?hw27H7, ?hy27H7⟩) (by assumption) ?rest27H7
    case oi0_27H7 =>
      conv =>
        lhs
        whnf
        arg 1
        whnf
    case hq27H7 => exact fun _ _ _ h => h
    case ff27H7 => kernel_rfl
    case rr27H7 => kernel_rfl
    case hw27H7 => rfl
    case hy27H7 =>
      intro w hSw
      (try dsimp only at hSw)
      first
      | (go_simp; done)
      | (go_simp; with_reducible rfl)
    try simp only [Act.put, List.setIfInBounds_toArray, List.set_cons_zero, List.set_cons_succ]
    refine wpAnyH_take (i := 28) (oi := ?oi28H7) (v := ?v28H7) ?oi0_28H7 (by kernel_rfl) ?ff28H7 ?rr28H7 ?hq28H7 (Or.inl ⟨?hw28H7, ?hy28H7⟩) (by assumption) ?rest28H7
    case oi0_28H7 =>
      conv =>
        lhs
        whnf
        arg 1
        whnf
    case hq28H7 => exact fun _ _ _ h => h
    case ff28H7 => kernel_rfl
    case rr28H7 => kernel_rfl
    case hw28H7 => rfl
    case hy28H7 =>
      intro w hSw
      (try dsimp only at hSw)
      first
      | (go_simp; done)
      | (go_simp; with_reducible rfl)
    try simp only [Act.put, List.setIfInBounds_toArray, List.set_cons_zero, List.set_cons_succ]
    refine wpAnyH_take (i := 29) (oi := ?oi29H7) (v := ?v29H7) ?oi0_29H7 (by kernel_rfl) ?ff29H7 ?rr29H7 ?hq29H7 (Or.inl ⟨?hw29H7, ?hy29H7⟩) (by assumption) ?rest29H7
    case oi0_29H7 =>
      conv =>
        lhs
        whnf
        arg 1
        whnf
    case hq29H7 => exact fun _ _ _ h => h
    case ff29H7 => kernel_rfl
    case rr29H7 => kernel_rfl
    case hw29H7 => rfl
    case hy29H7 =>
      intro w hSw
      (try dsimp only at hSw)
      first
      | (go_simp; done)
      | (go_simp; with_reducible rfl)
    try simp only [Act.put, List.setIfInBounds_toArray, List.set_cons_zero, List.set_cons_succ]
    refine wpAnyH_done (by kernel_rfl) ?_ _
    go_wp2_with fail
    go_ret
    exact ⟨rfl, UU16.out.drew⟩
end Go.Proofs.Ytpkeimdlcafcnaa
