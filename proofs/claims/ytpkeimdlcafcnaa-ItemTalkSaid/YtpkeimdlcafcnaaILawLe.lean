/-
  ItemLengths: the walk.
-/
import Derived.Test.YtpkeimdlcafcnaaIPlainF
import Derived.Test.YtpkeimdlcafcnaaISane
namespace Go.Proofs.Ytpkeimdlcafcnaa
open Go.RowKit
set_option maxRecDepth 100000
set_option maxHeartbeats 40000000

theorem keepX {W W' : World} {g t : Nat} {cs : List Value} (h : Blk W g t cs) (hu : Upd [] W W') : Blk W' g t cs := h.upd hu (by simp)
theorem pickS_id {c n : Int} (h0 : 0 ≤ c) (h1 : c < n) : pickS c n = c := by
  unfold pickS
  rw [if_neg (by omega)]
  exact Int.emod_eq_of_lt h0 h1
def Row1 (W : World) (b o : Nat) (zs : List Int) : Prop := b < W.heap.size ∧ ∀ k x, zs[k]? = some x → W.cell? ⟨b, o + k, none⟩ = some (.int .i64 x)
theorem keepR {W W' : World} {b o : Nat} {zs : List Int} (h : Row1 W b o zs) (hu : Upd [] W W') : Row1 W' b o zs :=
  ⟨Nat.lt_of_lt_of_le h.1 hu.size, fun k x hx => (hu.cell (p := ⟨b, o + k, none⟩) h.1 (by simp)).trans (h.2 k x hx)⟩
theorem ints_row {W : World} {a : Option Addr} {n c : Nat} {zs : List Int} (h : Ints W.heap.size W (.slice a n c) zs) (hne : zs ≠ []) : ∃ b o, a = some ⟨b, o, none⟩ ∧ Row1 W b o zs := by
  rcases h with ⟨_, _, _, e⟩ | ⟨b, o, cap, e, hb, hc⟩
  · exact absurd e hne
  · injection e with e1 e2 e3
    refine ⟨b, o, e1, hb, fun k x hx => ?_⟩
    have hk := (List.getElem?_eq_some_iff.1 hx).1
    rw [hc k hk, hx]
    rfl
theorem asc_lt {l : List Int} (h : l.Pairwise (· < ·)) {j k : Nat} {x y : Int} (hx : l[j]? = some x) (hy : l[k]? = some y) (hjk : j < k) : x < y := by
  have h1 := List.getElem?_eq_some_iff.1 hx
  have h2 := List.getElem?_eq_some_iff.1 hy
  have := List.pairwise_iff_getElem.1 h j k h1.1 h2.1 hjk
  rwa [h1.2, h2.2] at this
theorem asc_len {l : List Int} (h : l.Pairwise (· < ·)) : ∀ {a b : Int}, (∀ x ∈ l, a ≤ x ∧ x ≤ b) → a ≤ b + 1 → (l.length : Int) ≤ b + 1 - a := by
  induction l with
  | nil => intro a b _ h2; simp; omega
  | cons x l ih =>
    intro a b hb h2
    have hx := hb x (by simp)
    have := ih (List.pairwise_cons.1 h).2 (a := x + 1) (b := b) (fun y hy => ⟨by have := (List.pairwise_cons.1 h).1 y hy; omega, (hb y (by simp [hy])).2⟩) (by omega)
    rw [List.length_cons]
    omega
def cntS (n r : Int) (l : List Int) : Int := ((l.filter fun x => decide (x = n ∨ x = r)).length : Int)
theorem cnt_snoc (n r : Int) {l : List Int} {k : Nat} {x : Int} (hx : l[k]? = some x) : cntS n r (l.take (k + 1)) = cntS n r (l.take k) + if x = n ∨ x = r then 1 else 0 := by
  rw [List.take_add_one, hx]
  unfold cntS
  rw [Option.toList_some, List.filter_append, List.length_append]
  by_cases h : x = n ∨ x = r
  · rw [if_pos h, List.filter_cons_of_pos (by simpa using h)]; simp
  · rw [if_neg h, List.filter_cons_of_neg (by simpa using h)]; simp
theorem cnt_bound (n r : Int) (l : List Int) : 0 ≤ cntS n r l ∧ cntS n r l ≤ l.length := by
  unfold cntS
  have := List.length_filter_le (fun x => decide (x = n ∨ x = r)) l
  omega
theorem cnt_gen (n r : Int) {l : List Int} (h : l.Pairwise (· < ·)) : cntS n r l = (if n ∈ l then 1 else 0) + (if r ∈ l ∧ r ≠ n then 1 else 0) := by
  induction l with
  | nil => rfl
  | cons x l ih =>
    have ih := ih (List.pairwise_cons.1 h).2
    have hx : x ∉ l := fun hm => by have := (List.pairwise_cons.1 h).1 x hm; omega
    unfold cntS at *
    by_cases e1 : x = n
    · subst e1
      rw [List.filter_cons_of_pos (by simp), List.length_cons]
      rw [if_neg hx] at ih
      rw [if_pos (by simp)]
      have e2 : (r ∈ x :: l ∧ r ≠ x) ↔ (r ∈ l ∧ r ≠ x) := by
        constructor
        · rintro ⟨h1, h2⟩; exact ⟨(List.mem_cons.1 h1).resolve_left h2, h2⟩
        · rintro ⟨h1, h2⟩; exact ⟨List.mem_cons_of_mem _ h1, h2⟩
      simp only [e2]
      omega
    · have e3 : (n ∈ x :: l) ↔ n ∈ l := by
        constructor
        · intro h1; exact (List.mem_cons.1 h1).resolve_left (fun h => e1 h.symm)
        · exact fun h1 => List.mem_cons_of_mem _ h1
      by_cases e2 : x = r
      · subst e2
        rw [List.filter_cons_of_pos (by simp), List.length_cons]
        rw [if_neg (show ¬ (x ∈ l ∧ x ≠ n) from fun h => hx h.1)] at ih
        rw [if_pos (show x ∈ x :: l ∧ x ≠ n from ⟨by simp, e1⟩)]
        simp only [e3]
        omega
      · rw [List.filter_cons_of_neg (by simp [e1, e2])]
        have e4 : (r ∈ x :: l) ↔ r ∈ l := by
          constructor
          · intro h1; exact (List.mem_cons.1 h1).resolve_left (fun h => e2 h.symm)
          · exact fun h1 => List.mem_cons_of_mem _ h1
        simp only [e3, e4]
        exact ih
theorem cnt_all {n r : Int} {l : List Int} (h : l.Pairwise (· < ·)) (hn : n ∈ l) (hr : r ∈ l) : cntS n r l = if n = r then 1 else 2 := by
  rw [cnt_gen n r h, if_pos hn]
  by_cases e : n = r
  · subst e; simp
  · rw [if_neg e, if_pos ⟨hr, fun h => e h.symm⟩]; rfl
theorem itemLengths_walk (id x0 x1 x2 x3 x4 x5 set : Int) (w0 : World) (hid : Fits64 id) (h0 : Fits64 x0) (h1 : Fits64 x1) (h2 : Fits64 x2) (h3 : Fits64 x3) (h4 : Fits64 x4) (h5 : Fits64 x5) (hset : Fits64 set) :
    Calls Try.prog 4 #[.int .i64 id, .agg #[.int .i64 x0, .int .i64 x1, .int .i64 x2, .int .i64 x3, .int .i64 x4, .int .i64 x5], .int .i64 set] w0 fun e w' => e = .returned (.bool true) ∧ Upd [] w0 w' := by
  have hok := madeS_ok id x0 x1 x2 x3 x4 x5
  obtain ⟨i, hi⟩ : ∃ i, madeS id x0 x1 x2 x3 x4 x5 = i := ⟨_, rfl⟩
  rw [hi] at hok
  have HI := hide hi
  have HOK := hide hok
  clear hi hok
  go_enter Try.func4, Try.ntmps4
  obtain ⟨w1, hw⟩ : ∃ x, w0.alloc (.cells #[.int .i64 x0, .int .i64 x1, .int .i64 x2, .int .i64 x3, .int .i64 x4, .int .i64 x5] 25) = x := ⟨_, rfl⟩
  have UU1 := hide (show Upd [] w0 w1 by rw [← hw]; exact (Upd.refl [] _).alloc _)
  have BX1 := hide (show Blk w1 w0.heap.size 25 [.int .i64 x0, .int .i64 x1, .int .i64 x2, .int .i64 x3, .int .i64 x4, .int .i64 x5] by rw [← hw]; exact Blk.new w0 _ _)
  have HW := hide hw
  clear hw
  go_wp2_with fail
  rw [HW.out]
  have BX := hide BX1.out
  refine (sane_any _).mono ?_
  rintro e w2 ⟨rfl, u⟩
  have UU2 := hide (UU1.out.trans u (by simp))
  have BX := hide (keepX BX.out u)
  clear u
  have y0 := BX.out.cell 0
  have y1 := BX.out.cell 1
  have y2 := BX.out.cell 2
  have y3 := BX.out.cell 3
  have y4 := BX.out.cell 4
  have y5 := BX.out.cell 5
  go_wp2_with fail
  refine (made_any id x0 x1 x2 x3 x4 x5 _ hid h0 h1 h2 h3 h4 h5 i HI.out).mono ?_
  rintro e w3 ⟨ta, tc, ka, kc, rfl, it, u⟩
  have UU3 := hide (UU2.out.trans u (by simp))
  have BX := hide (keepX BX.out u)
  have IT := hide it
  clear it u y0 y1 y2 y3 y4 y5
  obtain ⟨w4, hw⟩ : ∃ x, w3.alloc (.cells #[.int .i64 i.id, .int .i64 i.kind, .int .i64 i.len, .slice ta i.trims.length tc, .slice ka i.talks.length kc, .int .i64 i.artist, .int .i64 i.tempo, .int .i64 i.lang] 24) = x := ⟨_, rfl⟩
  have u : Upd [] w3 w4 := by rw [← hw]; exact (Upd.refl [] _).alloc _
  have BL4 := hide (show Blk w4 w3.heap.size 24 [.int .i64 i.id, .int .i64 i.kind, .int .i64 i.len, .slice ta i.trims.length tc, .slice ka i.talks.length kc, .int .i64 i.artist, .int .i64 i.tempo, .int .i64 i.lang] by rw [← hw]; exact Blk.new w3 _ _)
  have IT4 := hide (IT.out.upd u)
  have UU4 := hide (UU3.out.trans u (by simp))
  have BX := hide (keepX BX.out u)
  have HW := hide hw
  clear hw u
  go_upto_region 4 with fail
  rw [HW.out]
  have k0 := BL4.out.cell 0
  have k1 := BL4.out.cell 1
  have k2 := BL4.out.cell 2
  have k3 := BL4.out.cell 3
  have k4 := BL4.out.cell 4
  have k5 := BL4.out.cell 5
  have k6 := BL4.out.cell 6
  have k7 := BL4.out.cell 7
  have hlt := BL4.out.lt
  go_wp2_with fail
  obtain ⟨L, hL⟩ : ∃ l, lengthsS i = l := ⟨_, rfl⟩
  have HL := hide hL
  clear hL
  refine (use_lengths IT4.out HOK.out tc kc L HL.out).mono ?_
  rintro e w5 ⟨la, lc, rfl, il, u⟩
  have BL5 := hide (BL4.out.upd u (by simp))
  have IT5 := hide (IT4.out.upd u)
  have UU5 := hide (UU4.out.trans u (by simp))
  have BX := hide (keepX BX.out u)
  have LI := hide il
  clear il
  clear u
  clear k0 k1 k2 k3 k4 k5 k6 k7 hlt
  have k0 := BL5.out.cell 0
  have k1 := BL5.out.cell 1
  have k2 := BL5.out.cell 2
  have k3 := BL5.out.cell 3
  have k4 := BL5.out.cell 4
  have k5 := BL5.out.cell 5
  have k6 := BL5.out.cell 6
  have k7 := BL5.out.cell 7
  have hlt := BL5.out.lt
  obtain ⟨p, hp⟩ : ∃ p, pickS set 16 = p := ⟨_, rfl⟩
  have hpb := pickS_bounds set 16 (by omega)
  rw [hp] at hpb
  obtain ⟨hp0, hp1⟩ := hpb
  have HP := hide hp
  clear hp
  obtain ⟨n, hn⟩ : ∃ x, cutLen i (bitsS p.toNat i.trims.length) = x := ⟨_, rfl⟩
  obtain ⟨rest, hrest⟩ : ∃ x, cutLen i (bitsS (15 - p.toNat) i.trims.length) = x := ⟨_, rfl⟩
  obtain ⟨least, hleast⟩ : ∃ x, cutLen i (bitsS 15 i.trims.length) = x := ⟨_, rfl⟩
  have hmn : n ∈ L := by rw [← HL.out, ← hn]; exact mem_lens.2 ⟨_, rfl⟩
  have hmr : rest ∈ L := by rw [← HL.out, ← hrest]; exact mem_lens.2 ⟨_, rfl⟩
  have hnr : n + rest = least + i.len := by rw [← hn, ← hrest, ← hleast]; exact cutLen_comp HOK.out _ (by omega)
  have hle1 : 1 ≤ least := by rw [← hleast]; exact cutLen_pos HOK.out _
  have hlen2 := HOK.out.1.2.2.2
  have hb : ∀ x ∈ L, least ≤ x ∧ x ≤ i.len := by rw [← HL.out, ← hleast]; exact fun x hx => lens_bounds HOK.out hx
  have hbn := hb n hmn
  have hbr := hb rest hmr
  have HB := hide hb
  have HM := hide (And.intro hmn hmr)
  clear hb hmn hmr
  have HN := hide hn
  have HR := hide hrest
  have HE := hide hleast
  clear hn hrest hleast
  have HP2 := hide (show pickS (15 - p) 16 = 15 - p from pickS_id (by omega) (by omega))
  have HP3 := hide (show pickS 15 16 = 15 from by decide)
  have hw15 : IntKind.i64.wrap (15 - p) = 15 - p := Go.IntWalk.i64_in _ (by omega)
  have hok4 := HOK.out.2.1.1.2
  have hset0 := hset.1
  have hset1 := hset.2
  have PK := fun w => lawPick set 16 w hset.1 hset.2 (by omega) (by omega)
  simp only [HP.out] at PK
  have PKH := hide PK
  clear PK
  go_upto_region 5 with fail
  refine wp_region_held_drew (S := (fun w' => w'.cell? ⟨w3.heap.size, 0, none⟩ = some (.int .i64 i.id) ∧ w'.cell? ⟨w3.heap.size, 1, none⟩ = some (.int .i64 i.kind) ∧ w'.cell? ⟨w3.heap.size, 2, none⟩ = some (.int .i64 i.len) ∧ w'.cell? ⟨w3.heap.size, 3, none⟩ = some (.slice ta i.trims.length tc) ∧ w'.cell? ⟨w3.heap.size, 4, none⟩ = some (.slice ka i.talks.length kc) ∧ w'.cell? ⟨w3.heap.size, 5, none⟩ = some (.int .i64 i.artist) ∧ w'.cell? ⟨w3.heap.size, 6, none⟩ = some (.int .i64 i.tempo) ∧ w'.cell? ⟨w3.heap.size, 7, none⟩ = some (.int .i64 i.lang))) (by kernel_rfl) (by exact ⟨k0, k1, k2, k3, k4, k5, k6, k7⟩) (fun hHeld => ?_)
  obtain ⟨w6, hwD⟩ : ∃ x, w5.drew = x := ⟨_, rfl⟩
  have u : Upd [] w5 w6 := by rw [← hwD]; exact (Upd.refl [] _).drew
  rw [hwD] at hHeld ⊢
  clear hwD
  have BL6 := hide (BL5.out.upd u (by simp))
  have IT6 := hide (IT5.out.upd u)
  have UU6 := hide (UU5.out.trans u (by simp))
  have BX := hide (keepX BX.out u)
  have LI := hide (keepI LI.out u)
  clear u
  clear k0 k1 k2 k3 k4 k5 k6 k7 hlt
  have k0 := BL6.out.cell 0
  have k1 := BL6.out.cell 1
  have k2 := BL6.out.cell 2
  have k3 := BL6.out.cell 3
  have k4 := BL6.out.cell 4
  have k5 := BL6.out.cell 5
  have k6 := BL6.out.cell 6
  have k7 := BL6.out.cell 7
  have hlt := BL6.out.lt
  refine wpAnyH_take (i := 0) (oi := ?oi0R1) (v := ?v0R1) ?oi0_0R1 (by kernel_rfl) ?ff0R1 ?rr0R1 ?hq0R1 (Or.inl ⟨?hw0R1, ?hy0R1⟩) (by assumption) ?rest0R1
  case oi0_0R1 =>
    conv =>
      lhs
      whnf
      arg 1
      whnf
  case hq0R1 => exact fun _ _ _ h => h
  case ff0R1 => kernel_rfl
  case rr0R1 => kernel_rfl
  case hw0R1 => rfl
  case hy0R1 =>
    intro w hSw
    (try dsimp only at hSw)
    first
    | (go_simp; done)
    | (go_simp; with_reducible rfl)
  try simp only [Act.put, List.setIfInBounds_toArray, List.set_cons_zero, List.set_cons_succ]
  refine wpAnyH_take (i := 1) (oi := ?oi1R1) (v := ?v1R1) ?oi0_1R1 (by kernel_rfl) ?ff1R1 ?rr1R1 ?hq1R1 (Or.inl ⟨?hw1R1, ?hy1R1⟩) (by assumption) ?rest1R1
  case oi0_1R1 =>
    conv =>
      lhs
      whnf
      arg 1
      whnf
  case hq1R1 => exact fun _ _ _ h => h
  case ff1R1 => kernel_rfl
  case rr1R1 => kernel_rfl
  case hw1R1 => rfl
  case hy1R1 =>
    intro w hSw
    (try dsimp only at hSw)
    first
    | (go_simp; done)
    | (go_simp; with_reducible rfl)
  try simp only [Act.put, List.setIfInBounds_toArray, List.set_cons_zero, List.set_cons_succ]
  refine wpAnyH_take (i := 2) (oi := ?oi2R1) (v := ?v2R1) ?oi0_2R1 (by kernel_rfl) ?ff2R1 ?rr2R1 ?hq2R1 (Or.inl ⟨?hw2R1, ?hy2R1⟩) (by assumption) ?rest2R1
  case oi0_2R1 =>
    conv =>
      lhs
      whnf
      arg 1
      whnf
  case hq2R1 => exact fun _ _ _ h => h
  case ff2R1 => kernel_rfl
  case rr2R1 => kernel_rfl
  case hw2R1 => rfl
  case hy2R1 =>
    intro w hSw
    (try dsimp only at hSw)
    first
    | (go_simp; done)
    | (go_simp; with_reducible rfl)
  try simp only [Act.put, List.setIfInBounds_toArray, List.set_cons_zero, List.set_cons_succ]
  refine wpAnyH_ready (rs := [3]) (by kernel_rfl) (by simp) (AllReadyH.cons (o := ?oiR2) ?oi0_R2 (fun K hK => ?_) AllReadyH.nil)
  case oi0_R2 =>
    conv =>
      lhs
      whnf
      arg 1
      whnf
  go_simp
  go_at_call 22
  with_reducible (refine (cutOf_any i ta i.trims.length tc ka i.talks.length kc set _ hok4 hset0 hset1).mono ?_)
  rintro e w7 ⟨ca, cca, rfl, ic, u⟩
  have BL7 := hide (BL6.out.upd u (by simp))
  have IT7 := hide (IT6.out.upd u)
  have UU7 := hide (UU6.out.trans u (by simp))
  have BX := hide (keepX BX.out u)
  have LI := hide (keepI LI.out u)
  have Ca := hide (it_own_ints ic)
  clear ic
  rw [HP.out] at Ca ⊢
  clear u
  clear k0 k1 k2 k3 k4 k5 k6 k7 hlt
  have k0 := BL7.out.cell 0
  have k1 := BL7.out.cell 1
  have k2 := BL7.out.cell 2
  have k3 := BL7.out.cell 3
  have k4 := BL7.out.cell 4
  have k5 := BL7.out.cell 5
  have k6 := BL7.out.cell 6
  have k7 := BL7.out.cell 7
  have hlt := BL7.out.lt
  (try dsimp only)
  refine hK.out _ _ (by exact ⟨k0, k1, k2, k3, k4, k5, k6, k7⟩) (fun hHeld => ?_)
  clear hK K
  try simp only [Act.put, List.setIfInBounds_toArray, List.set_cons_zero, List.set_cons_succ]
  skip
  refine wpAnyH_ready (rs := [4]) (by kernel_rfl) (by simp) (AllReadyH.cons (o := ?oiR4) ?oi0_R4 (fun K hK => ?_) AllReadyH.nil)
  case oi0_R4 =>
    conv =>
      lhs
      whnf
      arg 1
      whnf
  go_simp
  go_at_call 24
  with_reducible (refine (use_length IT7.out HOK.out tc kc ca (bitsS p.toNat i.trims.length).length cca (bitsS p.toNat i.trims.length) Ca.out (bitsS_cutOk _ _ hok4) n HN.out).mono ?_)
  rintro e w8 ⟨rfl, u⟩
  have BL8 := hide (BL7.out.upd u (by simp))
  have IT8 := hide (IT7.out.upd u)
  have UU8 := hide (UU7.out.trans u (by simp))
  have BX := hide (keepX BX.out u)
  have LI := hide (keepI LI.out u)
  clear Ca
  clear u
  clear k0 k1 k2 k3 k4 k5 k6 k7 hlt
  have k0 := BL8.out.cell 0
  have k1 := BL8.out.cell 1
  have k2 := BL8.out.cell 2
  have k3 := BL8.out.cell 3
  have k4 := BL8.out.cell 4
  have k5 := BL8.out.cell 5
  have k6 := BL8.out.cell 6
  have k7 := BL8.out.cell 7
  have hlt := BL8.out.lt
  (try dsimp only)
  refine hK.out _ _ (by exact ⟨k0, k1, k2, k3, k4, k5, k6, k7⟩) (fun hHeld => ?_)
  clear hK K
  try simp only [Act.put, List.setIfInBounds_toArray, List.set_cons_zero, List.set_cons_succ]
  skip
  refine wpAnyH_take (i := 5) (oi := ?oi5R6) (v := ?v5R6) ?oi0_5R6 (by kernel_rfl) ?ff5R6 ?rr5R6 ?hq5R6 (Or.inl ⟨?hw5R6, ?hy5R6⟩) (by assumption) ?rest5R6
  case oi0_5R6 =>
    conv =>
      lhs
      whnf
      arg 1
      whnf
  case hq5R6 => exact fun _ _ _ h => h
  case ff5R6 => kernel_rfl
  case rr5R6 => kernel_rfl
  case hw5R6 => rfl
  case hy5R6 =>
    intro w hSw
    (try dsimp only at hSw)
    first
    | (go_simp; done)
    | (go_simp; with_reducible rfl)
  try simp only [Act.put, List.setIfInBounds_toArray, List.set_cons_zero, List.set_cons_succ]
  refine wpAnyH_take (i := 6) (oi := ?oi6R6) (v := ?v6R6) ?oi0_6R6 (by kernel_rfl) ?ff6R6 ?rr6R6 ?hq6R6 (Or.inl ⟨?hw6R6, ?hy6R6⟩) (by assumption) ?rest6R6
  case oi0_6R6 =>
    conv =>
      lhs
      whnf
      arg 1
      whnf
  case hq6R6 => exact fun _ _ _ h => h
  case ff6R6 => kernel_rfl
  case rr6R6 => kernel_rfl
  case hw6R6 => rfl
  case hy6R6 =>
    intro w hSw
    (try dsimp only at hSw)
    first
    | (go_simp; done)
    | (go_simp; with_reducible rfl)
  try simp only [Act.put, List.setIfInBounds_toArray, List.set_cons_zero, List.set_cons_succ]
  refine wpAnyH_take (i := 7) (oi := ?oi7R6) (v := ?v7R6) ?oi0_7R6 (by kernel_rfl) ?ff7R6 ?rr7R6 ?hq7R6 (Or.inl ⟨?hw7R6, ?hy7R6⟩) (by assumption) ?rest7R6
  case oi0_7R6 =>
    conv =>
      lhs
      whnf
      arg 1
      whnf
  case hq7R6 => exact fun _ _ _ h => h
  case ff7R6 => kernel_rfl
  case rr7R6 => kernel_rfl
  case hw7R6 => rfl
  case hy7R6 =>
    intro w hSw
    (try dsimp only at hSw)
    first
    | (go_simp; done)
    | (go_simp; with_reducible rfl)
  try simp only [Act.put, List.setIfInBounds_toArray, List.set_cons_zero, List.set_cons_succ]
  refine wpAnyH_take (i := 8) (oi := ?oi8R6) (v := ?v8R6) ?oi0_8R6 (by kernel_rfl) ?ff8R6 ?rr8R6 ?hq8R6 (Or.inl ⟨?hw8R6, ?hy8R6⟩) (by assumption) ?rest8R6
  case oi0_8R6 =>
    conv =>
      lhs
      whnf
      arg 1
      whnf
  case hq8R6 => exact fun _ _ _ h => h
  case ff8R6 => kernel_rfl
  case rr8R6 => kernel_rfl
  case hw8R6 => rfl
  case hy8R6 =>
    intro w hSw
    (try dsimp only at hSw)
    first
    | (go_simp; done)
    | (go_simp; with_reducible rfl)
  try simp only [Act.put, List.setIfInBounds_toArray, List.set_cons_zero, List.set_cons_succ]
  refine wpAnyH_take (i := 9) (oi := ?oi9R6) (v := ?v9R6) ?oi0_9R6 (by kernel_rfl) ?ff9R6 ?rr9R6 ?hq9R6 (Or.inl ⟨?hw9R6, ?hy9R6⟩) (by assumption) ?rest9R6
  case oi0_9R6 =>
    conv =>
      lhs
      whnf
      arg 1
      whnf
  case hq9R6 => exact fun _ _ _ h => h
  case ff9R6 => kernel_rfl
  case rr9R6 => kernel_rfl
  case hw9R6 => rfl
  case hy9R6 =>
    intro w hSw
    (try dsimp only at hSw)
    first
    | (go_simp; done)
    | (go_simp; with_reducible rfl)
  try simp only [Act.put, List.setIfInBounds_toArray, List.set_cons_zero, List.set_cons_succ]
  refine wpAnyH_done (by kernel_rfl) ?_ _
  go_upto_region 6 with fail
  have h15 : (15 - p).toNat = 15 - p.toNat := by omega
  refine wp_region_held_drew (S := (fun w' => w'.cell? ⟨w3.heap.size, 0, none⟩ = some (.int .i64 i.id) ∧ w'.cell? ⟨w3.heap.size, 1, none⟩ = some (.int .i64 i.kind) ∧ w'.cell? ⟨w3.heap.size, 2, none⟩ = some (.int .i64 i.len) ∧ w'.cell? ⟨w3.heap.size, 3, none⟩ = some (.slice ta i.trims.length tc) ∧ w'.cell? ⟨w3.heap.size, 4, none⟩ = some (.slice ka i.talks.length kc) ∧ w'.cell? ⟨w3.heap.size, 5, none⟩ = some (.int .i64 i.artist) ∧ w'.cell? ⟨w3.heap.size, 6, none⟩ = some (.int .i64 i.tempo) ∧ w'.cell? ⟨w3.heap.size, 7, none⟩ = some (.int .i64 i.lang))) (by kernel_rfl) (by exact ⟨k0, k1, k2, k3, k4, k5, k6, k7⟩) (fun hHeld => ?_)
  obtain ⟨w9, hwD⟩ : ∃ x, w8.drew = x := ⟨_, rfl⟩
  have u : Upd [] w8 w9 := by rw [← hwD]; exact (Upd.refl [] _).drew
  rw [hwD] at hHeld ⊢
  clear hwD
  have BL9 := hide (BL8.out.upd u (by simp))
  have IT9 := hide (IT8.out.upd u)
  have UU9 := hide (UU8.out.trans u (by simp))
  have BX := hide (keepX BX.out u)
  have LI := hide (keepI LI.out u)
  clear u
  clear k0 k1 k2 k3 k4 k5 k6 k7 hlt
  have k0 := BL9.out.cell 0
  have k1 := BL9.out.cell 1
  have k2 := BL9.out.cell 2
  have k3 := BL9.out.cell 3
  have k4 := BL9.out.cell 4
  have k5 := BL9.out.cell 5
  have k6 := BL9.out.cell 6
  have k7 := BL9.out.cell 7
  have hlt := BL9.out.lt
  refine wpAnyH_take (i := 0) (oi := ?oi0R7) (v := ?v0R7) ?oi0_0R7 (by kernel_rfl) ?ff0R7 ?rr0R7 ?hq0R7 (Or.inl ⟨?hw0R7, ?hy0R7⟩) (by assumption) ?rest0R7
  case oi0_0R7 =>
    conv =>
      lhs
      whnf
      arg 1
      whnf
  case hq0R7 => exact fun _ _ _ h => h
  case ff0R7 => kernel_rfl
  case rr0R7 => kernel_rfl
  case hw0R7 => rfl
  case hy0R7 =>
    intro w hSw
    (try dsimp only at hSw)
    first
    | (go_simp; done)
    | (go_simp; with_reducible rfl)
  try simp only [Act.put, List.setIfInBounds_toArray, List.set_cons_zero, List.set_cons_succ]
  refine wpAnyH_take (i := 1) (oi := ?oi1R7) (v := ?v1R7) ?oi0_1R7 (by kernel_rfl) ?ff1R7 ?rr1R7 ?hq1R7 (Or.inl ⟨?hw1R7, ?hy1R7⟩) (by assumption) ?rest1R7
  case oi0_1R7 =>
    conv =>
      lhs
      whnf
      arg 1
      whnf
  case hq1R7 => exact fun _ _ _ h => h
  case ff1R7 => kernel_rfl
  case rr1R7 => kernel_rfl
  case hw1R7 => rfl
  case hy1R7 =>
    intro w hSw
    (try dsimp only at hSw)
    first
    | (go_simp; done)
    | (go_simp; with_reducible rfl)
  try simp only [Act.put, List.setIfInBounds_toArray, List.set_cons_zero, List.set_cons_succ]
  refine wpAnyH_take (i := 2) (oi := ?oi2R7) (v := ?v2R7) ?oi0_2R7 (by kernel_rfl) ?ff2R7 ?rr2R7 ?hq2R7 (Or.inl ⟨?hw2R7, ?hy2R7⟩) (by assumption) ?rest2R7
  case oi0_2R7 =>
    conv =>
      lhs
      whnf
      arg 1
      whnf
  case hq2R7 => exact fun _ _ _ h => h
  case ff2R7 => kernel_rfl
  case rr2R7 => kernel_rfl
  case hw2R7 => rfl
  case hy2R7 =>
    intro w hSw
    (try dsimp only at hSw)
    first
    | (go_simp; done)
    | (go_simp; with_reducible rfl)
  try simp only [Act.put, List.setIfInBounds_toArray, List.set_cons_zero, List.set_cons_succ]
  refine wpAnyH_ready (rs := [3]) (by kernel_rfl) (by simp) (AllReadyH.cons (o := ?oiR8) ?oi0_R8 (fun K hK => ?_) AllReadyH.nil)
  case oi0_R8 =>
    conv =>
      lhs
      whnf
      arg 1
      whnf
  go_simp
  go_at_call 19
  with_reducible (refine (PKH.out _).mono ?_)
  rintro e w' ⟨rfl, rfl⟩
  (try dsimp only)
  refine hK.out _ _ (by exact ⟨k0, k1, k2, k3, k4, k5, k6, k7⟩) (fun hHeld => ?_)
  clear hK K
  try simp only [Act.put, List.setIfInBounds_toArray, List.set_cons_zero, List.set_cons_succ]
  refine wpAnyH_take (i := 4) (oi := ?oi4R9) (v := ?v4R9) ?oi0_4R9 (by kernel_rfl) ?ff4R9 ?rr4R9 ?hq4R9 (Or.inl ⟨?hw4R9, ?hy4R9⟩) (by assumption) ?rest4R9
  case oi0_4R9 =>
    conv =>
      lhs
      whnf
      arg 1
      whnf
  case hq4R9 => exact fun _ _ _ h => h
  case ff4R9 => kernel_rfl
  case rr4R9 => kernel_rfl
  case hw4R9 => rfl
  case hy4R9 =>
    intro w hSw
    (try dsimp only at hSw)
    first
    | (go_simp; done)
    | (go_simp; with_reducible rfl)
  try simp only [Act.put, List.setIfInBounds_toArray, List.set_cons_zero, List.set_cons_succ]
  refine wpAnyH_ready (rs := [5]) (by kernel_rfl) (by simp) (AllReadyH.cons (o := ?oiR10) ?oi0_R10 (fun K hK => ?_) AllReadyH.nil)
  case oi0_R10 =>
    conv =>
      lhs
      whnf
      arg 1
      whnf
  go_simp
  go_at_call 22
  with_reducible (refine (cutOf_any i ta i.trims.length tc ka i.talks.length kc (15 - p) _ hok4 (by omega) (by omega)).mono ?_)
  rintro e w10 ⟨cb, ccb, rfl, ic, u⟩
  have BL10 := hide (BL9.out.upd u (by simp))
  have IT10 := hide (IT9.out.upd u)
  have UU10 := hide (UU9.out.trans u (by simp))
  have BX := hide (keepX BX.out u)
  have LI := hide (keepI LI.out u)
  have Cb := hide (it_own_ints ic)
  clear ic
  rw [HP2.out, h15] at Cb ⊢
  clear u
  clear k0 k1 k2 k3 k4 k5 k6 k7 hlt
  have k0 := BL10.out.cell 0
  have k1 := BL10.out.cell 1
  have k2 := BL10.out.cell 2
  have k3 := BL10.out.cell 3
  have k4 := BL10.out.cell 4
  have k5 := BL10.out.cell 5
  have k6 := BL10.out.cell 6
  have k7 := BL10.out.cell 7
  have hlt := BL10.out.lt
  (try dsimp only)
  refine hK.out _ _ (by exact ⟨k0, k1, k2, k3, k4, k5, k6, k7⟩) (fun hHeld => ?_)
  clear hK K
  try simp only [Act.put, List.setIfInBounds_toArray, List.set_cons_zero, List.set_cons_succ]
  skip
  refine wpAnyH_ready (rs := [6]) (by kernel_rfl) (by simp) (AllReadyH.cons (o := ?oiR12) ?oi0_R12 (fun K hK => ?_) AllReadyH.nil)
  case oi0_R12 =>
    conv =>
      lhs
      whnf
      arg 1
      whnf
  go_simp
  go_at_call 24
  with_reducible (refine (use_length IT10.out HOK.out tc kc cb (bitsS (15 - p.toNat) i.trims.length).length ccb (bitsS (15 - p.toNat) i.trims.length) Cb.out (bitsS_cutOk _ _ hok4) rest HR.out).mono ?_)
  rintro e w11 ⟨rfl, u⟩
  have BL11 := hide (BL10.out.upd u (by simp))
  have IT11 := hide (IT10.out.upd u)
  have UU11 := hide (UU10.out.trans u (by simp))
  have BX := hide (keepX BX.out u)
  have LI := hide (keepI LI.out u)
  clear Cb
  clear u
  clear k0 k1 k2 k3 k4 k5 k6 k7 hlt
  have k0 := BL11.out.cell 0
  have k1 := BL11.out.cell 1
  have k2 := BL11.out.cell 2
  have k3 := BL11.out.cell 3
  have k4 := BL11.out.cell 4
  have k5 := BL11.out.cell 5
  have k6 := BL11.out.cell 6
  have k7 := BL11.out.cell 7
  have hlt := BL11.out.lt
  (try dsimp only)
  refine hK.out _ _ (by exact ⟨k0, k1, k2, k3, k4, k5, k6, k7⟩) (fun hHeld => ?_)
  clear hK K
  try simp only [Act.put, List.setIfInBounds_toArray, List.set_cons_zero, List.set_cons_succ]
  skip
  refine wpAnyH_take (i := 7) (oi := ?oi7R14) (v := ?v7R14) ?oi0_7R14 (by kernel_rfl) ?ff7R14 ?rr7R14 ?hq7R14 (Or.inl ⟨?hw7R14, ?hy7R14⟩) (by assumption) ?rest7R14
  case oi0_7R14 =>
    conv =>
      lhs
      whnf
      arg 1
      whnf
  case hq7R14 => exact fun _ _ _ h => h
  case ff7R14 => kernel_rfl
  case rr7R14 => kernel_rfl
  case hw7R14 => rfl
  case hy7R14 =>
    intro w hSw
    (try dsimp only at hSw)
    first
    | (go_simp; done)
    | (go_simp; with_reducible rfl)
  try simp only [Act.put, List.setIfInBounds_toArray, List.set_cons_zero, List.set_cons_succ]
  refine wpAnyH_take (i := 8) (oi := ?oi8R14) (v := ?v8R14) ?oi0_8R14 (by kernel_rfl) ?ff8R14 ?rr8R14 ?hq8R14 (Or.inl ⟨?hw8R14, ?hy8R14⟩) (by assumption) ?rest8R14
  case oi0_8R14 =>
    conv =>
      lhs
      whnf
      arg 1
      whnf
  case hq8R14 => exact fun _ _ _ h => h
  case ff8R14 => kernel_rfl
  case rr8R14 => kernel_rfl
  case hw8R14 => rfl
  case hy8R14 =>
    intro w hSw
    (try dsimp only at hSw)
    first
    | (go_simp; done)
    | (go_simp; with_reducible rfl)
  try simp only [Act.put, List.setIfInBounds_toArray, List.set_cons_zero, List.set_cons_succ]
  refine wpAnyH_take (i := 9) (oi := ?oi9R14) (v := ?v9R14) ?oi0_9R14 (by kernel_rfl) ?ff9R14 ?rr9R14 ?hq9R14 (Or.inl ⟨?hw9R14, ?hy9R14⟩) (by assumption) ?rest9R14
  case oi0_9R14 =>
    conv =>
      lhs
      whnf
      arg 1
      whnf
  case hq9R14 => exact fun _ _ _ h => h
  case ff9R14 => kernel_rfl
  case rr9R14 => kernel_rfl
  case hw9R14 => rfl
  case hy9R14 =>
    intro w hSw
    (try dsimp only at hSw)
    first
    | (go_simp; done)
    | (go_simp; with_reducible rfl)
  try simp only [Act.put, List.setIfInBounds_toArray, List.set_cons_zero, List.set_cons_succ]
  refine wpAnyH_take (i := 10) (oi := ?oi10R14) (v := ?v10R14) ?oi0_10R14 (by kernel_rfl) ?ff10R14 ?rr10R14 ?hq10R14 (Or.inl ⟨?hw10R14, ?hy10R14⟩) (by assumption) ?rest10R14
  case oi0_10R14 =>
    conv =>
      lhs
      whnf
      arg 1
      whnf
  case hq10R14 => exact fun _ _ _ h => h
  case ff10R14 => kernel_rfl
  case rr10R14 => kernel_rfl
  case hw10R14 => rfl
  case hy10R14 =>
    intro w hSw
    (try dsimp only at hSw)
    first
    | (go_simp; done)
    | (go_simp; with_reducible rfl)
  try simp only [Act.put, List.setIfInBounds_toArray, List.set_cons_zero, List.set_cons_succ]
  refine wpAnyH_take (i := 11) (oi := ?oi11R14) (v := ?v11R14) ?oi0_11R14 (by kernel_rfl) ?ff11R14 ?rr11R14 ?hq11R14 (Or.inl ⟨?hw11R14, ?hy11R14⟩) (by assumption) ?rest11R14
  case oi0_11R14 =>
    conv =>
      lhs
      whnf
      arg 1
      whnf
  case hq11R14 => exact fun _ _ _ h => h
  case ff11R14 => kernel_rfl
  case rr11R14 => kernel_rfl
  case hw11R14 => rfl
  case hy11R14 =>
    intro w hSw
    (try dsimp only at hSw)
    first
    | (go_simp; done)
    | (go_simp; with_reducible rfl)
  try simp only [Act.put, List.setIfInBounds_toArray, List.set_cons_zero, List.set_cons_succ]
  refine wpAnyH_done (by kernel_rfl) ?_ _
  go_upto_region 7 with fail
  have h16 : (15 : Int).toNat = 15 := rfl
  refine wp_region_held_drew (S := (fun w' => w'.cell? ⟨w3.heap.size, 0, none⟩ = some (.int .i64 i.id) ∧ w'.cell? ⟨w3.heap.size, 1, none⟩ = some (.int .i64 i.kind) ∧ w'.cell? ⟨w3.heap.size, 2, none⟩ = some (.int .i64 i.len) ∧ w'.cell? ⟨w3.heap.size, 3, none⟩ = some (.slice ta i.trims.length tc) ∧ w'.cell? ⟨w3.heap.size, 4, none⟩ = some (.slice ka i.talks.length kc) ∧ w'.cell? ⟨w3.heap.size, 5, none⟩ = some (.int .i64 i.artist) ∧ w'.cell? ⟨w3.heap.size, 6, none⟩ = some (.int .i64 i.tempo) ∧ w'.cell? ⟨w3.heap.size, 7, none⟩ = some (.int .i64 i.lang))) (by kernel_rfl) (by exact ⟨k0, k1, k2, k3, k4, k5, k6, k7⟩) (fun hHeld => ?_)
  obtain ⟨w12, hwD⟩ : ∃ x, w11.drew = x := ⟨_, rfl⟩
  have u : Upd [] w11 w12 := by rw [← hwD]; exact (Upd.refl [] _).drew
  rw [hwD] at hHeld ⊢
  clear hwD
  have BL12 := hide (BL11.out.upd u (by simp))
  have IT12 := hide (IT11.out.upd u)
  have UU12 := hide (UU11.out.trans u (by simp))
  have BX := hide (keepX BX.out u)
  have LI := hide (keepI LI.out u)
  clear u
  clear k0 k1 k2 k3 k4 k5 k6 k7 hlt
  have k0 := BL12.out.cell 0
  have k1 := BL12.out.cell 1
  have k2 := BL12.out.cell 2
  have k3 := BL12.out.cell 3
  have k4 := BL12.out.cell 4
  have k5 := BL12.out.cell 5
  have k6 := BL12.out.cell 6
  have k7 := BL12.out.cell 7
  have hlt := BL12.out.lt
  refine wpAnyH_take (i := 0) (oi := ?oi0R15) (v := ?v0R15) ?oi0_0R15 (by kernel_rfl) ?ff0R15 ?rr0R15 ?hq0R15 (Or.inl ⟨?hw0R15, ?hy0R15⟩) (by assumption) ?rest0R15
  case oi0_0R15 =>
    conv =>
      lhs
      whnf
      arg 1
      whnf
  case hq0R15 => exact fun _ _ _ h => h
  case ff0R15 => kernel_rfl
  case rr0R15 => kernel_rfl
  case hw0R15 => rfl
  case hy0R15 =>
    intro w hSw
    (try dsimp only at hSw)
    first
    | (go_simp; done)
    | (go_simp; with_reducible rfl)
  try simp only [Act.put, List.setIfInBounds_toArray, List.set_cons_zero, List.set_cons_succ]
  refine wpAnyH_take (i := 1) (oi := ?oi1R15) (v := ?v1R15) ?oi0_1R15 (by kernel_rfl) ?ff1R15 ?rr1R15 ?hq1R15 (Or.inl ⟨?hw1R15, ?hy1R15⟩) (by assumption) ?rest1R15
  case oi0_1R15 =>
    conv =>
      lhs
      whnf
      arg 1
      whnf
  case hq1R15 => exact fun _ _ _ h => h
  case ff1R15 => kernel_rfl
  case rr1R15 => kernel_rfl
  case hw1R15 => rfl
  case hy1R15 =>
    intro w hSw
    (try dsimp only at hSw)
    first
    | (go_simp; done)
    | (go_simp; with_reducible rfl)
  try simp only [Act.put, List.setIfInBounds_toArray, List.set_cons_zero, List.set_cons_succ]
  refine wpAnyH_ready (rs := [2]) (by kernel_rfl) (by simp) (AllReadyH.cons (o := ?oiR16) ?oi0_R16 (fun K hK => ?_) AllReadyH.nil)
  case oi0_R16 =>
    conv =>
      lhs
      whnf
      arg 1
      whnf
  go_simp
  go_at_call 22
  with_reducible (refine (cutOf_any i ta i.trims.length tc ka i.talks.length kc 15 _ hok4 (by omega) (by omega)).mono ?_)
  rintro e w13 ⟨cd, ccd, rfl, ic, u⟩
  have BL13 := hide (BL12.out.upd u (by simp))
  have IT13 := hide (IT12.out.upd u)
  have UU13 := hide (UU12.out.trans u (by simp))
  have BX := hide (keepX BX.out u)
  have LI := hide (keepI LI.out u)
  have Cd := hide (it_own_ints ic)
  clear ic
  rw [HP3.out, h16] at Cd ⊢
  clear u
  clear k0 k1 k2 k3 k4 k5 k6 k7 hlt
  have k0 := BL13.out.cell 0
  have k1 := BL13.out.cell 1
  have k2 := BL13.out.cell 2
  have k3 := BL13.out.cell 3
  have k4 := BL13.out.cell 4
  have k5 := BL13.out.cell 5
  have k6 := BL13.out.cell 6
  have k7 := BL13.out.cell 7
  have hlt := BL13.out.lt
  (try dsimp only)
  refine hK.out _ _ (by exact ⟨k0, k1, k2, k3, k4, k5, k6, k7⟩) (fun hHeld => ?_)
  clear hK K
  try simp only [Act.put, List.setIfInBounds_toArray, List.set_cons_zero, List.set_cons_succ]
  skip
  refine wpAnyH_ready (rs := [3]) (by kernel_rfl) (by simp) (AllReadyH.cons (o := ?oiR18) ?oi0_R18 (fun K hK => ?_) AllReadyH.nil)
  case oi0_R18 =>
    conv =>
      lhs
      whnf
      arg 1
      whnf
  go_simp
  go_at_call 24
  with_reducible (refine (use_length IT13.out HOK.out tc kc cd (bitsS 15 i.trims.length).length ccd (bitsS 15 i.trims.length) Cd.out (bitsS_cutOk _ _ hok4) least HE.out).mono ?_)
  rintro e w14 ⟨rfl, u⟩
  have BL14 := hide (BL13.out.upd u (by simp))
  have IT14 := hide (IT13.out.upd u)
  have UU14 := hide (UU13.out.trans u (by simp))
  have BX := hide (keepX BX.out u)
  have LI := hide (keepI LI.out u)
  clear Cd
  clear u
  clear k0 k1 k2 k3 k4 k5 k6 k7 hlt
  have k0 := BL14.out.cell 0
  have k1 := BL14.out.cell 1
  have k2 := BL14.out.cell 2
  have k3 := BL14.out.cell 3
  have k4 := BL14.out.cell 4
  have k5 := BL14.out.cell 5
  have k6 := BL14.out.cell 6
  have k7 := BL14.out.cell 7
  have hlt := BL14.out.lt
  (try dsimp only)
  refine hK.out _ _ (by exact ⟨k0, k1, k2, k3, k4, k5, k6, k7⟩) (fun hHeld => ?_)
  clear hK K
  try simp only [Act.put, List.setIfInBounds_toArray, List.set_cons_zero, List.set_cons_succ]
  skip
  refine wpAnyH_take (i := 4) (oi := ?oi4R20) (v := ?v4R20) ?oi0_4R20 (by kernel_rfl) ?ff4R20 ?rr4R20 ?hq4R20 (Or.inl ⟨?hw4R20, ?hy4R20⟩) (by assumption) ?rest4R20
  case oi0_4R20 =>
    conv =>
      lhs
      whnf
      arg 1
      whnf
  case hq4R20 => exact fun _ _ _ h => h
  case ff4R20 => kernel_rfl
  case rr4R20 => kernel_rfl
  case hw4R20 => rfl
  case hy4R20 =>
    intro w hSw
    (try dsimp only at hSw)
    first
    | (go_simp; done)
    | (go_simp; with_reducible rfl)
  try simp only [Act.put, List.setIfInBounds_toArray, List.set_cons_zero, List.set_cons_succ]
  refine wpAnyH_take (i := 5) (oi := ?oi5R20) (v := ?v5R20) ?oi0_5R20 (by kernel_rfl) ?ff5R20 ?rr5R20 ?hq5R20 (Or.inl ⟨?hw5R20, ?hy5R20⟩) (by assumption) ?rest5R20
  case oi0_5R20 =>
    conv =>
      lhs
      whnf
      arg 1
      whnf
  case hq5R20 => exact fun _ _ _ h => h
  case ff5R20 => kernel_rfl
  case rr5R20 => kernel_rfl
  case hw5R20 => rfl
  case hy5R20 =>
    intro w hSw
    (try dsimp only at hSw)
    first
    | (go_simp; done)
    | (go_simp; with_reducible rfl)
  try simp only [Act.put, List.setIfInBounds_toArray, List.set_cons_zero, List.set_cons_succ]
  refine wpAnyH_take (i := 6) (oi := ?oi6R20) (v := ?v6R20) ?oi0_6R20 (by kernel_rfl) ?ff6R20 ?rr6R20 ?hq6R20 (Or.inl ⟨?hw6R20, ?hy6R20⟩) (by assumption) ?rest6R20
  case oi0_6R20 =>
    conv =>
      lhs
      whnf
      arg 1
      whnf
  case hq6R20 => exact fun _ _ _ h => h
  case ff6R20 => kernel_rfl
  case rr6R20 => kernel_rfl
  case hw6R20 => rfl
  case hy6R20 =>
    intro w hSw
    (try dsimp only at hSw)
    first
    | (go_simp; done)
    | (go_simp; with_reducible rfl)
  try simp only [Act.put, List.setIfInBounds_toArray, List.set_cons_zero, List.set_cons_succ]
  refine wpAnyH_take (i := 7) (oi := ?oi7R20) (v := ?v7R20) ?oi0_7R20 (by kernel_rfl) ?ff7R20 ?rr7R20 ?hq7R20 (Or.inl ⟨?hw7R20, ?hy7R20⟩) (by assumption) ?rest7R20
  case oi0_7R20 =>
    conv =>
      lhs
      whnf
      arg 1
      whnf
  case hq7R20 => exact fun _ _ _ h => h
  case ff7R20 => kernel_rfl
  case rr7R20 => kernel_rfl
  case hw7R20 => rfl
  case hy7R20 =>
    intro w hSw
    (try dsimp only at hSw)
    first
    | (go_simp; done)
    | (go_simp; with_reducible rfl)
  try simp only [Act.put, List.setIfInBounds_toArray, List.set_cons_zero, List.set_cons_succ]
  refine wpAnyH_take (i := 8) (oi := ?oi8R20) (v := ?v8R20) ?oi0_8R20 (by kernel_rfl) ?ff8R20 ?rr8R20 ?hq8R20 (Or.inl ⟨?hw8R20, ?hy8R20⟩) (by assumption) ?rest8R20
  case oi0_8R20 =>
    conv =>
      lhs
      whnf
      arg 1
      whnf
  case hq8R20 => exact fun _ _ _ h => h
  case ff8R20 => kernel_rfl
  case rr8R20 => kernel_rfl
  case hw8R20 => rfl
  case hy8R20 =>
    intro w hSw
    (try dsimp only at hSw)
    first
    | (go_simp; done)
    | (go_simp; with_reducible rfl)
  try simp only [Act.put, List.setIfInBounds_toArray, List.set_cons_zero, List.set_cons_succ]
  refine wpAnyH_done (by kernel_rfl) ?_ _
  have hne : L ≠ [] := by rw [← HL.out]; exact lens_ne i
  obtain ⟨lb, lo, rfl, hrow⟩ := ints_row LI.out hne
  have ROW := hide hrow
  clear hrow
  clear LI
  have hll := asc_len (by rw [← HL.out]; exact lengthsS_asc i) HB.out (by omega)
  obtain ⟨m, hm⟩ : ∃ m, m + 1 = L.length := ⟨L.length - 1, by have := List.length_pos_iff.2 hne; omega⟩
  have g0 : L[0]? = some least := by
    obtain ⟨x, hx⟩ : ∃ x, L[0]? = some x := ⟨_, List.getElem?_eq_getElem (by omega)⟩
    have := hx; rw [← HL.out] at this
    rw [hx, lens_first HOK.out this, HE.out]
  have gm : L[m]? = some i.len := by
    obtain ⟨x, hx⟩ : ∃ x, L[m]? = some x := ⟨_, List.getElem?_eq_getElem (by omega)⟩
    have h2 := lens_pair HOK.out (k := 0) (by rw [HL.out]; exact g0) (by rw [HL.out, ← hm]; exact hx)
    rw [HE.out] at h2
    rw [hx]
    exact congrArg some (by omega)
  have c0 := ROW.out.2 0 _ g0
  have cm := ROW.out.2 m _ gm
  rw [Nat.add_zero] at c0
  have hl0 : ((L.length : Int) == 0) = false := by simp; omega
  have hl00 : 0 < L.length := by omega
  have hmn : m < L.length := by omega
  have hlm : IntKind.i64.wrap ((L.length : Int) - 1) = (m : Int) := (Go.IntWalk.i64_in _ (by omega)).trans (by omega)
  have hml : (m : Int) < L.length := by omega
  have hw1 : IntKind.i64.wrap (n + rest) = least + i.len := (Go.IntWalk.i64_in _ (by omega)).trans hnr
  have hw2 : IntKind.i64.wrap (least + i.len) = least + i.len := Go.IntWalk.i64_in _ (by omega)
  have hl1 : ¬ least < 1 := by omega
  have hl2 : decide (least < 1) = false := decide_eq_false hl1
  clear g0 gm
  go_upto_region 8 with fail
  refine wp_region_held_drew (S := (fun w' => w'.cell? ⟨w3.heap.size, 2, none⟩ = some (.int .i64 i.len) ∧ w'.cell? ⟨lb, lo, none⟩ = some (.int .i64 least) ∧ w'.cell? ⟨lb, lo + m, none⟩ = some (.int .i64 i.len))) (by kernel_rfl) (by exact ⟨k2, c0, cm⟩) (fun hHeld => ?_)
  refine wpAnyH_take (i := 0) (oi := ?oi0H21) (v := ?v0H21) ?oi0_0H21 (by kernel_rfl) ?ff0H21 ?rr0H21 ?hq0H21 (Or.inl ⟨?hw0H21, ?hy0H21⟩) (by assumption) ?rest0H21
  case oi0_0H21 =>
    conv =>
      lhs
      whnf
      arg 1
      whnf
  case hq0H21 => exact fun _ _ _ h => h
  case ff0H21 => kernel_rfl
  case rr0H21 => kernel_rfl
  case hw0H21 => rfl
  case hy0H21 =>
    intro w hSw
    (try dsimp only at hSw)
    first
    | (go_simp; done)
    | (go_simp; with_reducible rfl)
  try simp only [Act.put, List.setIfInBounds_toArray, List.set_cons_zero, List.set_cons_succ]
  refine wpAnyH_take (i := 1) (oi := ?oi1H21) (v := ?v1H21) ?oi0_1H21 (by kernel_rfl) ?ff1H21 ?rr1H21 ?hq1H21 (Or.inl ⟨?hw1H21, ?hy1H21⟩) (by assumption) ?rest1H21
  case oi0_1H21 =>
    conv =>
      lhs
      whnf
      arg 1
      whnf
  case hq1H21 => exact fun _ _ _ h => h
  case ff1H21 => kernel_rfl
  case rr1H21 => kernel_rfl
  case hw1H21 => rfl
  case hy1H21 =>
    intro w hSw
    (try dsimp only at hSw)
    first
    | (go_simp; done)
    | (go_simp; with_reducible rfl)
  try simp only [Act.put, List.setIfInBounds_toArray, List.set_cons_zero, List.set_cons_succ]
  refine wpAnyH_take (i := 2) (oi := ?oi2H21) (v := ?v2H21) ?oi0_2H21 (by kernel_rfl) ?ff2H21 ?rr2H21 ?hq2H21 (Or.inl ⟨?hw2H21, ?hy2H21⟩) (by assumption) ?rest2H21
  case oi0_2H21 =>
    conv =>
      lhs
      whnf
      arg 1
      whnf
  case hq2H21 => exact fun _ _ _ h => h
  case ff2H21 => kernel_rfl
  case rr2H21 => kernel_rfl
  case hw2H21 => rfl
  case hy2H21 =>
    intro w hSw
    (try dsimp only at hSw)
    first
    | (go_simp; done)
    | (go_simp; with_reducible rfl)
  try simp only [Act.put, List.setIfInBounds_toArray, List.set_cons_zero, List.set_cons_succ]
  refine wpAnyH_take (i := 3) (oi := ?oi3H21) (v := ?v3H21) ?oi0_3H21 (by kernel_rfl) ?ff3H21 ?rr3H21 ?hq3H21 (Or.inl ⟨?hw3H21, ?hy3H21⟩) (by assumption) ?rest3H21
  case oi0_3H21 =>
    conv =>
      lhs
      whnf
      arg 1
      whnf
  case hq3H21 => exact fun _ _ _ h => h
  case ff3H21 => kernel_rfl
  case rr3H21 => kernel_rfl
  case hw3H21 => rfl
  case hy3H21 =>
    intro w hSw
    (try dsimp only at hSw)
    first
    | (go_simp; done)
    | (go_simp; with_reducible rfl)
  try simp only [Act.put, List.setIfInBounds_toArray, List.set_cons_zero, List.set_cons_succ]
  refine wpAnyH_take (i := 4) (oi := ?oi4H21) (v := ?v4H21) ?oi0_4H21 (by kernel_rfl) ?ff4H21 ?rr4H21 ?hq4H21 (Or.inl ⟨?hw4H21, ?hy4H21⟩) (by assumption) ?rest4H21
  case oi0_4H21 =>
    conv =>
      lhs
      whnf
      arg 1
      whnf
  case hq4H21 => exact fun _ _ _ h => h
  case ff4H21 => kernel_rfl
  case rr4H21 => kernel_rfl
  case hw4H21 => rfl
  case hy4H21 =>
    intro w hSw
    (try dsimp only at hSw)
    first
    | (go_simp; done)
    | (go_simp; with_reducible rfl)
  try simp only [Act.put, List.setIfInBounds_toArray, List.set_cons_zero, List.set_cons_succ]
  refine wpAnyH_take (i := 5) (oi := ?oi5H21) (v := ?v5H21) ?oi0_5H21 (by kernel_rfl) ?ff5H21 ?rr5H21 ?hq5H21 (Or.inl ⟨?hw5H21, ?hy5H21⟩) (by assumption) ?rest5H21
  case oi0_5H21 =>
    conv =>
      lhs
      whnf
      arg 1
      whnf
  case hq5H21 => exact fun _ _ _ h => h
  case ff5H21 => kernel_rfl
  case rr5H21 => kernel_rfl
  case hw5H21 => rfl
  case hy5H21 =>
    intro w hSw
    (try dsimp only at hSw)
    first
    | (go_simp; done)
    | (go_simp; with_reducible rfl)
  try simp only [Act.put, List.setIfInBounds_toArray, List.set_cons_zero, List.set_cons_succ]
  refine wpAnyH_take (i := 6) (oi := ?oi6H21) (v := ?v6H21) ?oi0_6H21 (by kernel_rfl) ?ff6H21 ?rr6H21 ?hq6H21 (Or.inl ⟨?hw6H21, ?hy6H21⟩) (by assumption) ?rest6H21
  case oi0_6H21 =>
    conv =>
      lhs
      whnf
      arg 1
      whnf
  case hq6H21 => exact fun _ _ _ h => h
  case ff6H21 => kernel_rfl
  case rr6H21 => kernel_rfl
  case hw6H21 => rfl
  case hy6H21 =>
    intro w hSw
    (try dsimp only at hSw)
    first
    | (go_simp; done)
    | (go_simp; with_reducible rfl)
  try simp only [Act.put, List.setIfInBounds_toArray, List.set_cons_zero, List.set_cons_succ]
  refine wpAnyH_take (i := 7) (oi := ?oi7H21) (v := ?v7H21) ?oi0_7H21 (by kernel_rfl) ?ff7H21 ?rr7H21 ?hq7H21 (Or.inl ⟨?hw7H21, ?hy7H21⟩) (by assumption) ?rest7H21
  case oi0_7H21 =>
    conv =>
      lhs
      whnf
      arg 1
      whnf
  case hq7H21 => exact fun _ _ _ h => h
  case ff7H21 => kernel_rfl
  case rr7H21 => kernel_rfl
  case hw7H21 => rfl
  case hy7H21 =>
    intro w hSw
    (try dsimp only at hSw)
    first
    | (go_simp; done)
    | (go_simp; with_reducible rfl)
  try simp only [Act.put, List.setIfInBounds_toArray, List.set_cons_zero, List.set_cons_succ]
  refine wpAnyH_take (i := 8) (oi := ?oi8H21) (v := ?v8H21) ?oi0_8H21 (by kernel_rfl) ?ff8H21 ?rr8H21 ?hq8H21 (Or.inl ⟨?hw8H21, ?hy8H21⟩) (by assumption) ?rest8H21
  case oi0_8H21 =>
    conv =>
      lhs
      whnf
      arg 1
      whnf
  case hq8H21 => exact fun _ _ _ h => h
  case ff8H21 => kernel_rfl
  case rr8H21 => kernel_rfl
  case hw8H21 => rfl
  case hy8H21 =>
    intro w hSw
    (try dsimp only at hSw)
    first
    | (go_simp; done)
    | (go_simp; with_reducible rfl)
  try simp only [Act.put, List.setIfInBounds_toArray, List.set_cons_zero, List.set_cons_succ]
  refine wpAnyH_take (i := 9) (oi := ?oi9H21) (v := ?v9H21) ?oi0_9H21 (by kernel_rfl) ?ff9H21 ?rr9H21 ?hq9H21 (Or.inl ⟨?hw9H21, ?hy9H21⟩) (by assumption) ?rest9H21
  case oi0_9H21 =>
    conv =>
      lhs
      whnf
      arg 1
      whnf
  case hq9H21 => exact fun _ _ _ h => h
  case ff9H21 => kernel_rfl
  case rr9H21 => kernel_rfl
  case hw9H21 => rfl
  case hy9H21 =>
    intro w hSw
    (try dsimp only at hSw)
    first
    | (go_simp; done)
    | (go_simp; with_reducible rfl)
  try simp only [Act.put, List.setIfInBounds_toArray, List.set_cons_zero, List.set_cons_succ]
  refine wpAnyH_take (i := 10) (oi := ?oi10H21) (v := ?v10H21) ?oi0_10H21 (by kernel_rfl) ?ff10H21 ?rr10H21 ?hq10H21 (Or.inl ⟨?hw10H21, ?hy10H21⟩) (by assumption) ?rest10H21
  case oi0_10H21 =>
    conv =>
      lhs
      whnf
      arg 1
      whnf
  case hq10H21 => exact fun _ _ _ h => h
  case ff10H21 => kernel_rfl
  case rr10H21 => kernel_rfl
  case hw10H21 => rfl
  case hy10H21 =>
    intro w hSw
    (try dsimp only at hSw)
    first
    | (go_simp; done)
    | (go_simp; with_reducible rfl)
  try simp only [Act.put, List.setIfInBounds_toArray, List.set_cons_zero, List.set_cons_succ]
  refine wpAnyH_take (i := 11) (oi := ?oi11H21) (v := ?v11H21) ?oi0_11H21 (by kernel_rfl) ?ff11H21 ?rr11H21 ?hq11H21 (Or.inl ⟨?hw11H21, ?hy11H21⟩) (by assumption) ?rest11H21
  case oi0_11H21 =>
    conv =>
      lhs
      whnf
      arg 1
      whnf
  case hq11H21 => exact fun _ _ _ h => h
  case ff11H21 => kernel_rfl
  case rr11H21 => kernel_rfl
  case hw11H21 => rfl
  case hy11H21 =>
    intro w hSw
    (try dsimp only at hSw)
    first
    | (go_simp; done)
    | (go_simp; with_reducible rfl)
  try simp only [Act.put, List.setIfInBounds_toArray, List.set_cons_zero, List.set_cons_succ]
  refine wpAnyH_take (i := 12) (oi := ?oi12H21) (v := ?v12H21) ?oi0_12H21 (by kernel_rfl) ?ff12H21 ?rr12H21 ?hq12H21 (Or.inl ⟨?hw12H21, ?hy12H21⟩) (by assumption) ?rest12H21
  case oi0_12H21 =>
    conv =>
      lhs
      whnf
      arg 1
      whnf
  case hq12H21 => exact fun _ _ _ h => h
  case ff12H21 => kernel_rfl
  case rr12H21 => kernel_rfl
  case hw12H21 => rfl
  case hy12H21 =>
    intro w hSw
    (try dsimp only at hSw)
    first
    | (go_simp; done)
    | (go_simp; with_reducible rfl)
  try simp only [Act.put, List.setIfInBounds_toArray, List.set_cons_zero, List.set_cons_succ]
  refine wpAnyH_take (i := 13) (oi := ?oi13H21) (v := ?v13H21) ?oi0_13H21 (by kernel_rfl) ?ff13H21 ?rr13H21 ?hq13H21 (Or.inl ⟨?hw13H21, ?hy13H21⟩) (by assumption) ?rest13H21
  case oi0_13H21 =>
    conv =>
      lhs
      whnf
      arg 1
      whnf
  case hq13H21 => exact fun _ _ _ h => h
  case ff13H21 => kernel_rfl
  case rr13H21 => kernel_rfl
  case hw13H21 => rfl
  case hy13H21 =>
    intro w hSw
    (try dsimp only at hSw)
    first
    | (go_simp; done)
    | (go_simp; with_reducible rfl)
  try simp only [Act.put, List.setIfInBounds_toArray, List.set_cons_zero, List.set_cons_succ]
  refine wpAnyH_take (i := 14) (oi := ?oi14H21) (v := ?v14H21) ?oi0_14H21 (by kernel_rfl) ?ff14H21 ?rr14H21 ?hq14H21 (Or.inl ⟨?hw14H21, ?hy14H21⟩) (by assumption) ?rest14H21
  case oi0_14H21 =>
    conv =>
      lhs
      whnf
      arg 1
      whnf
  case hq14H21 => exact fun _ _ _ h => h
  case ff14H21 => kernel_rfl
  case rr14H21 => kernel_rfl
  case hw14H21 => rfl
  case hy14H21 =>
    intro w hSw
    (try dsimp only at hSw)
    first
    | (go_simp; done)
    | (go_simp; with_reducible rfl)
  try simp only [Act.put, List.setIfInBounds_toArray, List.set_cons_zero, List.set_cons_succ]
  refine wpAnyH_take (i := 15) (oi := ?oi15H21) (v := ?v15H21) ?oi0_15H21 (by kernel_rfl) ?ff15H21 ?rr15H21 ?hq15H21 (Or.inl ⟨?hw15H21, ?hy15H21⟩) (by assumption) ?rest15H21
  case oi0_15H21 =>
    conv =>
      lhs
      whnf
      arg 1
      whnf
  case hq15H21 => exact fun _ _ _ h => h
  case ff15H21 => kernel_rfl
  case rr15H21 => kernel_rfl
  case hw15H21 => rfl
  case hy15H21 =>
    intro w hSw
    (try dsimp only at hSw)
    first
    | (go_simp; done)
    | (go_simp; with_reducible rfl)
  try simp only [Act.put, List.setIfInBounds_toArray, List.set_cons_zero, List.set_cons_succ]
  refine wpAnyH_take (i := 16) (oi := ?oi16H21) (v := ?v16H21) ?oi0_16H21 (by kernel_rfl) ?ff16H21 ?rr16H21 ?hq16H21 (Or.inl ⟨?hw16H21, ?hy16H21⟩) (by assumption) ?rest16H21
  case oi0_16H21 =>
    conv =>
      lhs
      whnf
      arg 1
      whnf
  case hq16H21 => exact fun _ _ _ h => h
  case ff16H21 => kernel_rfl
  case rr16H21 => kernel_rfl
  case hw16H21 => rfl
  case hy16H21 =>
    intro w hSw
    (try dsimp only at hSw)
    first
    | (go_simp; done)
    | (go_simp; with_reducible rfl)
  try simp only [Act.put, List.setIfInBounds_toArray, List.set_cons_zero, List.set_cons_succ]
  refine wpAnyH_take (i := 17) (oi := ?oi17H21) (v := ?v17H21) ?oi0_17H21 (by kernel_rfl) ?ff17H21 ?rr17H21 ?hq17H21 (Or.inl ⟨?hw17H21, ?hy17H21⟩) (by assumption) ?rest17H21
  case oi0_17H21 =>
    conv =>
      lhs
      whnf
      arg 1
      whnf
  case hq17H21 => exact fun _ _ _ h => h
  case ff17H21 => kernel_rfl
  case rr17H21 => kernel_rfl
  case hw17H21 => rfl
  case hy17H21 =>
    intro w hSw
    (try dsimp only at hSw)
    first
    | (go_simp; done)
    | (go_simp; with_reducible rfl)
  try simp only [Act.put, List.setIfInBounds_toArray, List.set_cons_zero, List.set_cons_succ]
  refine wpAnyH_take (i := 18) (oi := ?oi18H21) (v := ?v18H21) ?oi0_18H21 (by kernel_rfl) ?ff18H21 ?rr18H21 ?hq18H21 (Or.inl ⟨?hw18H21, ?hy18H21⟩) (by assumption) ?rest18H21
  case oi0_18H21 =>
    conv =>
      lhs
      whnf
      arg 1
      whnf
  case hq18H21 => exact fun _ _ _ h => h
  case ff18H21 => kernel_rfl
  case rr18H21 => kernel_rfl
  case hw18H21 => rfl
  case hy18H21 =>
    intro w hSw
    (try dsimp only at hSw)
    first
    | (go_simp; done)
    | (go_simp; with_reducible rfl)
  try simp only [Act.put, List.setIfInBounds_toArray, List.set_cons_zero, List.set_cons_succ]
  refine wpAnyH_take (i := 19) (oi := ?oi19H21) (v := ?v19H21) ?oi0_19H21 (by kernel_rfl) ?ff19H21 ?rr19H21 ?hq19H21 (Or.inl ⟨?hw19H21, ?hy19H21⟩) (by assumption) ?rest19H21
  case oi0_19H21 =>
    conv =>
      lhs
      whnf
      arg 1
      whnf
  case hq19H21 => exact fun _ _ _ h => h
  case ff19H21 => kernel_rfl
  case rr19H21 => kernel_rfl
  case hw19H21 => rfl
  case hy19H21 =>
    intro w hSw
    (try dsimp only at hSw)
    first
    | (go_simp; done)
    | (go_simp; with_reducible rfl)
  try simp only [Act.put, List.setIfInBounds_toArray, List.set_cons_zero, List.set_cons_succ]
  refine wpAnyH_take (i := 20) (oi := ?oi20H21) (v := ?v20H21) ?oi0_20H21 (by kernel_rfl) ?ff20H21 ?rr20H21 ?hq20H21 (Or.inl ⟨?hw20H21, ?hy20H21⟩) (by assumption) ?rest20H21
  case oi0_20H21 =>
    conv =>
      lhs
      whnf
      arg 1
      whnf
  case hq20H21 => exact fun _ _ _ h => h
  case ff20H21 => kernel_rfl
  case rr20H21 => kernel_rfl
  case hw20H21 => rfl
  case hy20H21 =>
    intro w hSw
    (try dsimp only at hSw)
    first
    | (go_simp; done)
    | (go_simp; with_reducible rfl)
  try simp only [Act.put, List.setIfInBounds_toArray, List.set_cons_zero, List.set_cons_succ]
  refine wpAnyH_take (i := 21) (oi := ?oi21H21) (v := ?v21H21) ?oi0_21H21 (by kernel_rfl) ?ff21H21 ?rr21H21 ?hq21H21 (Or.inl ⟨?hw21H21, ?hy21H21⟩) (by assumption) ?rest21H21
  case oi0_21H21 =>
    conv =>
      lhs
      whnf
      arg 1
      whnf
  case hq21H21 => exact fun _ _ _ h => h
  case ff21H21 => kernel_rfl
  case rr21H21 => kernel_rfl
  case hw21H21 => rfl
  case hy21H21 =>
    intro w hSw
    (try dsimp only at hSw)
    first
    | (go_simp; done)
    | (go_simp; with_reducible rfl)
  try simp only [Act.put, List.setIfInBounds_toArray, List.set_cons_zero, List.set_cons_succ]
  refine wpAnyH_take (i := 22) (oi := ?oi22H21) (v := ?v22H21) ?oi0_22H21 (by kernel_rfl) ?ff22H21 ?rr22H21 ?hq22H21 (Or.inl ⟨?hw22H21, ?hy22H21⟩) (by assumption) ?rest22H21
  case oi0_22H21 =>
    conv =>
      lhs
      whnf
      arg 1
      whnf
  case hq22H21 => exact fun _ _ _ h => h
  case ff22H21 => kernel_rfl
  case rr22H21 => kernel_rfl
  case hw22H21 => rfl
  case hy22H21 =>
    intro w hSw
    (try dsimp only at hSw)
    first
    | (go_simp; done)
    | (go_simp; with_reducible rfl)
  try simp only [Act.put, List.setIfInBounds_toArray, List.set_cons_zero, List.set_cons_succ]
  refine wpAnyH_take (i := 23) (oi := ?oi23H21) (v := ?v23H21) ?oi0_23H21 (by kernel_rfl) ?ff23H21 ?rr23H21 ?hq23H21 (Or.inl ⟨?hw23H21, ?hy23H21⟩) (by assumption) ?rest23H21
  case oi0_23H21 =>
    conv =>
      lhs
      whnf
      arg 1
      whnf
  case hq23H21 => exact fun _ _ _ h => h
  case ff23H21 => kernel_rfl
  case rr23H21 => kernel_rfl
  case hw23H21 => rfl
  case hy23H21 =>
    intro w hSw
    (try dsimp only at hSw)
    first
    | (go_simp; done)
    | (go_simp; with_reducible rfl)
  try simp only [Act.put, List.setIfInBounds_toArray, List.set_cons_zero, List.set_cons_succ]
  refine wpAnyH_take (i := 24) (oi := ?oi24H21) (v := ?v24H21) ?oi0_24H21 (by kernel_rfl) ?ff24H21 ?rr24H21 ?hq24H21 (Or.inl ⟨?hw24H21, ?hy24H21⟩) (by assumption) ?rest24H21
  case oi0_24H21 =>
    conv =>
      lhs
      whnf
      arg 1
      whnf
  case hq24H21 => exact fun _ _ _ h => h
  case ff24H21 => kernel_rfl
  case rr24H21 => kernel_rfl
  case hw24H21 => rfl
  case hy24H21 =>
    intro w hSw
    (try dsimp only at hSw)
    first
    | (go_simp; done)
    | (go_simp; with_reducible rfl)
  try simp only [Act.put, List.setIfInBounds_toArray, List.set_cons_zero, List.set_cons_succ]
  refine wpAnyH_take (i := 25) (oi := ?oi25H21) (v := ?v25H21) ?oi0_25H21 (by kernel_rfl) ?ff25H21 ?rr25H21 ?hq25H21 (Or.inl ⟨?hw25H21, ?hy25H21⟩) (by assumption) ?rest25H21
  case oi0_25H21 =>
    conv =>
      lhs
      whnf
      arg 1
      whnf
  case hq25H21 => exact fun _ _ _ h => h
  case ff25H21 => kernel_rfl
  case rr25H21 => kernel_rfl
  case hw25H21 => rfl
  case hy25H21 =>
    intro w hSw
    (try dsimp only at hSw)
    first
    | (go_simp; done)
    | (go_simp; with_reducible rfl)
  try simp only [Act.put, List.setIfInBounds_toArray, List.set_cons_zero, List.set_cons_succ]
  refine wpAnyH_take (i := 26) (oi := ?oi26H21) (v := ?v26H21) ?oi0_26H21 (by kernel_rfl) ?ff26H21 ?rr26H21 ?hq26H21 (Or.inl ⟨?hw26H21, ?hy26H21⟩) (by assumption) ?rest26H21
  case oi0_26H21 =>
    conv =>
      lhs
      whnf
      arg 1
      whnf
  case hq26H21 => exact fun _ _ _ h => h
  case ff26H21 => kernel_rfl
  case rr26H21 => kernel_rfl
  case hw26H21 => rfl
  case hy26H21 =>
    intro w hSw
    (try dsimp only at hSw)
    first
    | (go_simp; done)
    | (go_simp; with_reducible rfl)
  try simp only [Act.put, List.setIfInBounds_toArray, List.set_cons_zero, List.set_cons_succ]
  refine wpAnyH_take (i := 27) (oi := ?oi27H21) (v := ?v27H21) ?oi0_27H21 (by kernel_rfl) ?ff27H21 ?rr27H21 ?hq27H21 (Or.inl ⟨?hw27H21, ?hy27H21⟩) (by assumption) ?rest27H21
  case oi0_27H21 =>
    conv =>
      lhs
      whnf
      arg 1
      whnf
  case hq27H21 => exact fun _ _ _ h => h
  case ff27H21 => kernel_rfl
  case rr27H21 => kernel_rfl
  case hw27H21 => rfl
  case hy27H21 =>
    intro w hSw
    (try dsimp only at hSw)
    first
    | (go_simp; done)
    | (go_simp; with_reducible rfl)
  try simp only [Act.put, List.setIfInBounds_toArray, List.set_cons_zero, List.set_cons_succ]
  refine wpAnyH_take (i := 28) (oi := ?oi28H21) (v := ?v28H21) ?oi0_28H21 (by kernel_rfl) ?ff28H21 ?rr28H21 ?hq28H21 (Or.inl ⟨?hw28H21, ?hy28H21⟩) (by assumption) ?rest28H21
  case oi0_28H21 =>
    conv =>
      lhs
      whnf
      arg 1
      whnf
  case hq28H21 => exact fun _ _ _ h => h
  case ff28H21 => kernel_rfl
  case rr28H21 => kernel_rfl
  case hw28H21 => rfl
  case hy28H21 =>
    intro w hSw
    (try dsimp only at hSw)
    first
    | (go_simp; done)
    | (go_simp; with_reducible rfl)
  try simp only [Act.put, List.setIfInBounds_toArray, List.set_cons_zero, List.set_cons_succ]
  refine wpAnyH_take (i := 29) (oi := ?oi29H21) (v := ?v29H21) ?oi0_29H21 (by kernel_rfl) ?ff29H21 ?rr29H21 ?hq29H21 (Or.inl ⟨?hw29H21, ?hy29H21⟩) (by assumption) ?rest29H21
  case oi0_29H21 =>
    conv =>
      lhs
      whnf
      arg 1
      whnf
  case hq29H21 => exact fun _ _ _ h => h
  case ff29H21 => kernel_rfl
  case rr29H21 => kernel_rfl
  case hw29H21 => rfl
  case hy29H21 =>
    intro w hSw
    (try dsimp only at hSw)
    first
    | (go_simp; done)
    | (go_simp; with_reducible rfl)
  try simp only [Act.put, List.setIfInBounds_toArray, List.set_cons_zero, List.set_cons_succ]
  refine wpAnyH_take (i := 30) (oi := ?oi30H21) (v := ?v30H21) ?oi0_30H21 (by kernel_rfl) ?ff30H21 ?rr30H21 ?hq30H21 (Or.inl ⟨?hw30H21, ?hy30H21⟩) (by assumption) ?rest30H21
  case oi0_30H21 =>
    conv =>
      lhs
      whnf
      arg 1
      whnf
  case hq30H21 => exact fun _ _ _ h => h
  case ff30H21 => kernel_rfl
  case rr30H21 => kernel_rfl
  case hw30H21 => rfl
  case hy30H21 =>
    intro w hSw
    (try dsimp only at hSw)
    first
    | (go_simp; done)
    | (go_simp; with_reducible rfl)
  try simp only [Act.put, List.setIfInBounds_toArray, List.set_cons_zero, List.set_cons_succ]
  refine wpAnyH_take (i := 31) (oi := ?oi31H21) (v := ?v31H21) ?oi0_31H21 (by kernel_rfl) ?ff31H21 ?rr31H21 ?hq31H21 (Or.inl ⟨?hw31H21, ?hy31H21⟩) (by assumption) ?rest31H21
  case oi0_31H21 =>
    conv =>
      lhs
      whnf
      arg 1
      whnf
  case hq31H21 => exact fun _ _ _ h => h
  case ff31H21 => kernel_rfl
  case rr31H21 => kernel_rfl
  case hw31H21 => rfl
  case hy31H21 =>
    intro w hSw
    (try dsimp only at hSw)
    first
    | (go_simp; done)
    | (go_simp; with_reducible rfl)
  try simp only [Act.put, List.setIfInBounds_toArray, List.set_cons_zero, List.set_cons_succ]
  refine wpAnyH_take (i := 32) (oi := ?oi32H21) (v := ?v32H21) ?oi0_32H21 (by kernel_rfl) ?ff32H21 ?rr32H21 ?hq32H21 (Or.inl ⟨?hw32H21, ?hy32H21⟩) (by assumption) ?rest32H21
  case oi0_32H21 =>
    conv =>
      lhs
      whnf
      arg 1
      whnf
  case hq32H21 => exact fun _ _ _ h => h
  case ff32H21 => kernel_rfl
  case rr32H21 => kernel_rfl
  case hw32H21 => rfl
  case hy32H21 =>
    intro w hSw
    (try dsimp only at hSw)
    first
    | (go_simp; done)
    | (go_simp; with_reducible rfl)
  try simp only [Act.put, List.setIfInBounds_toArray, List.set_cons_zero, List.set_cons_succ]
  refine wpAnyH_take (i := 33) (oi := ?oi33H21) (v := ?v33H21) ?oi0_33H21 (by kernel_rfl) ?ff33H21 ?rr33H21 ?hq33H21 (Or.inl ⟨?hw33H21, ?hy33H21⟩) (by assumption) ?rest33H21
  case oi0_33H21 =>
    conv =>
      lhs
      whnf
      arg 1
      whnf
  case hq33H21 => exact fun _ _ _ h => h
  case ff33H21 => kernel_rfl
  case rr33H21 => kernel_rfl
  case hw33H21 => rfl
  case hy33H21 =>
    intro w hSw
    (try dsimp only at hSw)
    first
    | (go_simp; done)
    | (go_simp; with_reducible rfl)
  try simp only [Act.put, List.setIfInBounds_toArray, List.set_cons_zero, List.set_cons_succ]
  refine wpAnyH_take (i := 34) (oi := ?oi34H21) (v := ?v34H21) ?oi0_34H21 (by kernel_rfl) ?ff34H21 ?rr34H21 ?hq34H21 (Or.inl ⟨?hw34H21, ?hy34H21⟩) (by assumption) ?rest34H21
  case oi0_34H21 =>
    conv =>
      lhs
      whnf
      arg 1
      whnf
  case hq34H21 => exact fun _ _ _ h => h
  case ff34H21 => kernel_rfl
  case rr34H21 => kernel_rfl
  case hw34H21 => rfl
  case hy34H21 =>
    intro w hSw
    (try dsimp only at hSw)
    first
    | (go_simp; done)
    | (go_simp; with_reducible rfl)
  try simp only [Act.put, List.setIfInBounds_toArray, List.set_cons_zero, List.set_cons_succ]
  refine wpAnyH_take (i := 35) (oi := ?oi35H21) (v := ?v35H21) ?oi0_35H21 (by kernel_rfl) ?ff35H21 ?rr35H21 ?hq35H21 (Or.inl ⟨?hw35H21, ?hy35H21⟩) (by assumption) ?rest35H21
  case oi0_35H21 =>
    conv =>
      lhs
      whnf
      arg 1
      whnf
  case hq35H21 => exact fun _ _ _ h => h
  case ff35H21 => kernel_rfl
  case rr35H21 => kernel_rfl
  case hw35H21 => rfl
  case hy35H21 =>
    intro w hSw
    (try dsimp only at hSw)
    first
    | (go_simp; done)
    | (go_simp; with_reducible rfl)
  try simp only [Act.put, List.setIfInBounds_toArray, List.set_cons_zero, List.set_cons_succ]
  refine wpAnyH_take (i := 36) (oi := ?oi36H21) (v := ?v36H21) ?oi0_36H21 (by kernel_rfl) ?ff36H21 ?rr36H21 ?hq36H21 (Or.inl ⟨?hw36H21, ?hy36H21⟩) (by assumption) ?rest36H21
  case oi0_36H21 =>
    conv =>
      lhs
      whnf
      arg 1
      whnf
  case hq36H21 => exact fun _ _ _ h => h
  case ff36H21 => kernel_rfl
  case rr36H21 => kernel_rfl
  case hw36H21 => rfl
  case hy36H21 =>
    intro w hSw
    (try dsimp only at hSw)
    first
    | (go_simp; done)
    | (go_simp; with_reducible rfl)
  try simp only [Act.put, List.setIfInBounds_toArray, List.set_cons_zero, List.set_cons_succ]
  refine wpAnyH_take (i := 37) (oi := ?oi37H21) (v := ?v37H21) ?oi0_37H21 (by kernel_rfl) ?ff37H21 ?rr37H21 ?hq37H21 (Or.inl ⟨?hw37H21, ?hy37H21⟩) (by assumption) ?rest37H21
  case oi0_37H21 =>
    conv =>
      lhs
      whnf
      arg 1
      whnf
  case hq37H21 => exact fun _ _ _ h => h
  case ff37H21 => kernel_rfl
  case rr37H21 => kernel_rfl
  case hw37H21 => rfl
  case hy37H21 =>
    intro w hSw
    (try dsimp only at hSw)
    first
    | (go_simp; done)
    | (go_simp; with_reducible rfl)
  try simp only [Act.put, List.setIfInBounds_toArray, List.set_cons_zero, List.set_cons_succ]
  refine wpAnyH_take (i := 38) (oi := ?oi38H21) (v := ?v38H21) ?oi0_38H21 (by kernel_rfl) ?ff38H21 ?rr38H21 ?hq38H21 (Or.inl ⟨?hw38H21, ?hy38H21⟩) (by assumption) ?rest38H21
  case oi0_38H21 =>
    conv =>
      lhs
      whnf
      arg 1
      whnf
  case hq38H21 => exact fun _ _ _ h => h
  case ff38H21 => kernel_rfl
  case rr38H21 => kernel_rfl
  case hw38H21 => rfl
  case hy38H21 =>
    intro w hSw
    (try dsimp only at hSw)
    first
    | (go_simp; done)
    | (go_simp; with_reducible rfl)
  try simp only [Act.put, List.setIfInBounds_toArray, List.set_cons_zero, List.set_cons_succ]
  refine wpAnyH_take (i := 39) (oi := ?oi39H21) (v := ?v39H21) ?oi0_39H21 (by kernel_rfl) ?ff39H21 ?rr39H21 ?hq39H21 (Or.inl ⟨?hw39H21, ?hy39H21⟩) (by assumption) ?rest39H21
  case oi0_39H21 =>
    conv =>
      lhs
      whnf
      arg 1
      whnf
  case hq39H21 => exact fun _ _ _ h => h
  case ff39H21 => kernel_rfl
  case rr39H21 => kernel_rfl
  case hw39H21 => rfl
  case hy39H21 =>
    intro w hSw
    (try dsimp only at hSw)
    first
    | (go_simp; done)
    | (go_simp; with_reducible rfl)
  try simp only [Act.put, List.setIfInBounds_toArray, List.set_cons_zero, List.set_cons_succ]
  refine wpAnyH_take (i := 40) (oi := ?oi40H21) (v := ?v40H21) ?oi0_40H21 (by kernel_rfl) ?ff40H21 ?rr40H21 ?hq40H21 (Or.inl ⟨?hw40H21, ?hy40H21⟩) (by assumption) ?rest40H21
  case oi0_40H21 =>
    conv =>
      lhs
      whnf
      arg 1
      whnf
  case hq40H21 => exact fun _ _ _ h => h
  case ff40H21 => kernel_rfl
  case rr40H21 => kernel_rfl
  case hw40H21 => rfl
  case hy40H21 =>
    intro w hSw
    (try dsimp only at hSw)
    first
    | (go_simp; done)
    | (go_simp; with_reducible rfl)
  try simp only [Act.put, List.setIfInBounds_toArray, List.set_cons_zero, List.set_cons_succ]
  refine wpAnyH_take (i := 41) (oi := ?oi41H21) (v := ?v41H21) ?oi0_41H21 (by kernel_rfl) ?ff41H21 ?rr41H21 ?hq41H21 (Or.inl ⟨?hw41H21, ?hy41H21⟩) (by assumption) ?rest41H21
  case oi0_41H21 =>
    conv =>
      lhs
      whnf
      arg 1
      whnf
  case hq41H21 => exact fun _ _ _ h => h
  case ff41H21 => kernel_rfl
  case rr41H21 => kernel_rfl
  case hw41H21 => rfl
  case hy41H21 =>
    intro w hSw
    (try dsimp only at hSw)
    first
    | (go_simp; done)
    | (go_simp; with_reducible rfl)
  try simp only [Act.put, List.setIfInBounds_toArray, List.set_cons_zero, List.set_cons_succ]
  refine wpAnyH_take (i := 42) (oi := ?oi42H21) (v := ?v42H21) ?oi0_42H21 (by kernel_rfl) ?ff42H21 ?rr42H21 ?hq42H21 (Or.inl ⟨?hw42H21, ?hy42H21⟩) (by assumption) ?rest42H21
  case oi0_42H21 =>
    conv =>
      lhs
      whnf
      arg 1
      whnf
  case hq42H21 => exact fun _ _ _ h => h
  case ff42H21 => kernel_rfl
  case rr42H21 => kernel_rfl
  case hw42H21 => rfl
  case hy42H21 =>
    intro w hSw
    (try dsimp only at hSw)
    first
    | (go_simp; done)
    | (go_simp; with_reducible rfl)
  try simp only [Act.put, List.setIfInBounds_toArray, List.set_cons_zero, List.set_cons_succ]
  refine wpAnyH_take (i := 43) (oi := ?oi43H21) (v := ?v43H21) ?oi0_43H21 (by kernel_rfl) ?ff43H21 ?rr43H21 ?hq43H21 (Or.inl ⟨?hw43H21, ?hy43H21⟩) (by assumption) ?rest43H21
  case oi0_43H21 =>
    conv =>
      lhs
      whnf
      arg 1
      whnf
  case hq43H21 => exact fun _ _ _ h => h
  case ff43H21 => kernel_rfl
  case rr43H21 => kernel_rfl
  case hw43H21 => rfl
  case hy43H21 =>
    intro w hSw
    (try dsimp only at hSw)
    first
    | (go_simp; done)
    | (go_simp; with_reducible rfl)
  try simp only [Act.put, List.setIfInBounds_toArray, List.set_cons_zero, List.set_cons_succ]
  refine wpAnyH_take (i := 44) (oi := ?oi44H21) (v := ?v44H21) ?oi0_44H21 (by kernel_rfl) ?ff44H21 ?rr44H21 ?hq44H21 (Or.inl ⟨?hw44H21, ?hy44H21⟩) (by assumption) ?rest44H21
  case oi0_44H21 =>
    conv =>
      lhs
      whnf
      arg 1
      whnf
  case hq44H21 => exact fun _ _ _ h => h
  case ff44H21 => kernel_rfl
  case rr44H21 => kernel_rfl
  case hw44H21 => rfl
  case hy44H21 =>
    intro w hSw
    (try dsimp only at hSw)
    first
    | (go_simp; done)
    | (go_simp; with_reducible rfl)
  try simp only [Act.put, List.setIfInBounds_toArray, List.set_cons_zero, List.set_cons_succ]
  refine wpAnyH_take (i := 45) (oi := ?oi45H21) (v := ?v45H21) ?oi0_45H21 (by kernel_rfl) ?ff45H21 ?rr45H21 ?hq45H21 (Or.inl ⟨?hw45H21, ?hy45H21⟩) (by assumption) ?rest45H21
  case oi0_45H21 =>
    conv =>
      lhs
      whnf
      arg 1
      whnf
  case hq45H21 => exact fun _ _ _ h => h
  case ff45H21 => kernel_rfl
  case rr45H21 => kernel_rfl
  case hw45H21 => rfl
  case hy45H21 =>
    intro w hSw
    (try dsimp only at hSw)
    first
    | (go_simp; done)
    | (go_simp; with_reducible rfl)
  try simp only [Act.put, List.setIfInBounds_toArray, List.set_cons_zero, List.set_cons_succ]
  refine wpAnyH_take (i := 46) (oi := ?oi46H21) (v := ?v46H21) ?oi0_46H21 (by kernel_rfl) ?ff46H21 ?rr46H21 ?hq46H21 (Or.inl ⟨?hw46H21, ?hy46H21⟩) (by assumption) ?rest46H21
  case oi0_46H21 =>
    conv =>
      lhs
      whnf
      arg 1
      whnf
  case hq46H21 => exact fun _ _ _ h => h
  case ff46H21 => kernel_rfl
  case rr46H21 => kernel_rfl
  case hw46H21 => rfl
  case hy46H21 =>
    intro w hSw
    (try dsimp only at hSw)
    first
    | (go_simp; done)
    | (go_simp; with_reducible rfl)
  try simp only [Act.put, List.setIfInBounds_toArray, List.set_cons_zero, List.set_cons_succ]
  refine wpAnyH_take (i := 47) (oi := ?oi47H21) (v := ?v47H21) ?oi0_47H21 (by kernel_rfl) ?ff47H21 ?rr47H21 ?hq47H21 (Or.inl ⟨?hw47H21, ?hy47H21⟩) (by assumption) ?rest47H21
  case oi0_47H21 =>
    conv =>
      lhs
      whnf
      arg 1
      whnf
  case hq47H21 => exact fun _ _ _ h => h
  case ff47H21 => kernel_rfl
  case rr47H21 => kernel_rfl
  case hw47H21 => rfl
  case hy47H21 =>
    intro w hSw
    (try dsimp only at hSw)
    first
    | (go_simp; done)
    | (go_simp; with_reducible rfl)
  try simp only [Act.put, List.setIfInBounds_toArray, List.set_cons_zero, List.set_cons_succ]
  refine wpAnyH_take (i := 48) (oi := ?oi48H21) (v := ?v48H21) ?oi0_48H21 (by kernel_rfl) ?ff48H21 ?rr48H21 ?hq48H21 (Or.inl ⟨?hw48H21, ?hy48H21⟩) (by assumption) ?rest48H21
  case oi0_48H21 =>
    conv =>
      lhs
      whnf
      arg 1
      whnf
  case hq48H21 => exact fun _ _ _ h => h
  case ff48H21 => kernel_rfl
  case rr48H21 => kernel_rfl
  case hw48H21 => rfl
  case hy48H21 =>
    intro w hSw
    (try dsimp only at hSw)
    first
    | (go_simp; done)
    | (go_simp; with_reducible rfl)
  try simp only [Act.put, List.setIfInBounds_toArray, List.set_cons_zero, List.set_cons_succ]
  refine wpAnyH_take (i := 49) (oi := ?oi49H21) (v := ?v49H21) ?oi0_49H21 (by kernel_rfl) ?ff49H21 ?rr49H21 ?hq49H21 (Or.inl ⟨?hw49H21, ?hy49H21⟩) (by assumption) ?rest49H21
  case oi0_49H21 =>
    conv =>
      lhs
      whnf
      arg 1
      whnf
  case hq49H21 => exact fun _ _ _ h => h
  case ff49H21 => kernel_rfl
  case rr49H21 => kernel_rfl
  case hw49H21 => rfl
  case hy49H21 =>
    intro w hSw
    (try dsimp only at hSw)
    first
    | (go_simp; done)
    | (go_simp; with_reducible rfl)
  try simp only [Act.put, List.setIfInBounds_toArray, List.set_cons_zero, List.set_cons_succ]
  refine wpAnyH_take (i := 50) (oi := ?oi50H21) (v := ?v50H21) ?oi0_50H21 (by kernel_rfl) ?ff50H21 ?rr50H21 ?hq50H21 (Or.inl ⟨?hw50H21, ?hy50H21⟩) (by assumption) ?rest50H21
  case oi0_50H21 =>
    conv =>
      lhs
      whnf
      arg 1
      whnf
  case hq50H21 => exact fun _ _ _ h => h
  case ff50H21 => kernel_rfl
  case rr50H21 => kernel_rfl
  case hw50H21 => rfl
  case hy50H21 =>
    intro w hSw
    (try dsimp only at hSw)
    first
    | (go_simp; done)
    | (go_simp; with_reducible rfl)
  try simp only [Act.put, List.setIfInBounds_toArray, List.set_cons_zero, List.set_cons_succ]
  refine wpAnyH_done (by kernel_rfl) ?_ _
  obtain ⟨w15, hwD⟩ : ∃ x, w14.drew = x := ⟨_, rfl⟩
  have u : Upd [] w14 w15 := by rw [← hwD]; exact (Upd.refl [] _).drew
  rw [hwD]
  clear hwD c0 cm
  have BL15 := hide (BL14.out.upd u (by simp))
  have IT15 := hide (IT14.out.upd u)
  have UU15 := hide (UU14.out.trans u (by simp))
  have BX := hide (keepX BX.out u)
  have ROW := hide (keepR ROW.out u)
  clear u
  clear k0 k1 k2 k3 k4 k5 k6 k7 hlt
  have k0 := BL15.out.cell 0
  have k1 := BL15.out.cell 1
  have k2 := BL15.out.cell 2
  have k3 := BL15.out.cell 3
  have k4 := BL15.out.cell 4
  have k5 := BL15.out.cell 5
  have k6 := BL15.out.cell 6
  have k7 := BL15.out.cell 7
  have hlt := BL15.out.lt
  go_wp2_with fail
  go_loopw [16, 17] (fun s16 s17 wr => ∃ (k : Nat) (c : Int), k ≤ L.length ∧ s17 = .int .i64 k ∧ s16 = .int .i64 c ∧ Hid (c = cntS n rest (L.take k)) ∧ Hid (Upd [] w15 wr)) (fun _ k _ => L.length - (intOf k).toNat)
  case atStart => exact ⟨0, 0, Nat.zero_le _, rfl, rfl, hide rfl, Upd.refl _ _⟩
  case round =>
      obtain ⟨k, c, hk, rfl, rfl, hc, hu⟩ := hrel
      obtain ⟨wo, rfl⟩ : ∃ wo : World, wo = wr := ⟨_, rfl⟩
      have UO := hide (UU15.out.trans hu.out (by simp))
      by_cases hkl : k < L.length
      case neg =>
        obtain rfl : k = L.length := by omega
        have hki : ¬ (L.length : Int) < L.length := by omega
        have hcn := hc.out
        rw [List.take_of_length_le (Nat.le_refl _), cnt_all (by rw [← HL.out]; exact lengthsS_asc i) HM.out.1 HM.out.2] at hcn
        by_cases hnr2 : n = rest
        case pos =>
          rw [if_pos hnr2] at hcn
          subst hcn
          have hq : (n == rest) = true := by simp [hnr2]
          go_wp2_with fail
          go_ret
          first | exact ⟨rfl, UO.out⟩ | exact ⟨rfl, UO.out.drew⟩ | fail
        case neg =>
          rw [if_neg hnr2] at hcn
          subst hcn
          go_wp2_with fail
          go_ret
          first | exact ⟨rfl, UO.out⟩ | exact ⟨rfl, UO.out.drew⟩ | fail
      clear k0 k1 k2 k3 k4 k5 k6 k7 hlt
      have hcb := cnt_bound n rest (L.take k)
      rw [← hc.out, List.length_take] at hcb
      have hki : (k : Int) < L.length := by omega
      obtain ⟨x, hx⟩ : ∃ x, L[k]? = some x := ⟨_, List.getElem?_eq_getElem hkl⟩
      obtain ⟨j, hj⟩ : ∃ j, j + k = m := ⟨m - k, by omega⟩
      have hji : (j : Int) < L.length := by omega
      have hjn : j < L.length := by omega
      obtain ⟨z, hz⟩ : ∃ z, L[j]? = some z := ⟨_, List.getElem?_eq_getElem (by omega)⟩
      have hxz := lens_pair HOK.out (k := k) (by rw [HL.out]; exact hx) (y := z) (by rw [HL.out, ← hm, show m + 1 - 1 - k = j by omega]; exact hz)
      rw [HE.out] at hxz
      have hbx := HB.out x (List.mem_of_getElem? hx)
      have hbz := HB.out z (List.mem_of_getElem? hz)
      have hwxz : IntKind.i64.wrap (x + z) = least + i.len := (Go.IntWalk.i64_in _ (by omega)).trans hxz
      have hwj : IntKind.i64.wrap ((m : Int) - k) = (j : Int) := (Go.IntWalk.i64_in _ (by omega)).trans (by omega)
      have hwk : IntKind.i64.wrap ((k : Int) + 1) = (k : Int) + 1 := Go.IntWalk.i64_in _ (by omega)
      have hwc : IntKind.i64.wrap (c + 1) = c + 1 := Go.IntWalk.i64_in _ (by omega)
      have o2 := (BL15.out.upd hu.out (by simp)).cell 2
      have RO := keepR ROW.out hu.out
      have cx := RO.2 k x hx
      have cz := RO.2 j z hz
      have HS := hide (cnt_snoc n rest hx)
      rw [← hc.out] at HS
      have UD := hide (hu.out.drew)
      by_cases hk0 : 0 < k
      case neg =>
        have hk0i : ¬ (0 : Int) < k := by omega
        have hk0d : decide ((0 : Int) < k) = false := decide_eq_false hk0i
        go_wp2_with fail
        obtain ⟨wD, hwD⟩ : ∃ y, wo.drew = y := ⟨_, rfl⟩
        refine wp_region_held_drew (S := (fun w' => w'.cell? ⟨w3.heap.size, 2, none⟩ = some (.int .i64 i.len) ∧ w'.cell? ⟨lb, lo + k, none⟩ = some (.int .i64 x) ∧ w'.cell? ⟨lb, lo + j, none⟩ = some (.int .i64 z))) (by kernel_rfl) (by exact ⟨o2, cx, cz⟩) (fun hHeld => ?_)
        refine wpAnyH_take (i := 0) (oi := ?oi0H22) (v := ?v0H22) ?oi0_0H22 (by kernel_rfl) ?ff0H22 ?rr0H22 ?hq0H22 (Or.inl ⟨?hw0H22, ?hy0H22⟩) (by assumption) ?rest0H22
        case oi0_0H22 =>
          conv =>
            lhs
            whnf
            arg 1
            whnf
        case hq0H22 => exact fun _ _ _ h => h
        case ff0H22 => kernel_rfl
        case rr0H22 => kernel_rfl
        case hw0H22 => rfl
        case hy0H22 =>
          intro w hSw
          (try dsimp only at hSw)
          first
          | (go_simp; done)
          | (go_simp; with_reducible rfl)
        try simp only [Act.put, List.setIfInBounds_toArray, List.set_cons_zero, List.set_cons_succ]
        refine wpAnyH_take (i := 1) (oi := ?oi1H22) (v := ?v1H22) ?oi0_1H22 (by kernel_rfl) ?ff1H22 ?rr1H22 ?hq1H22 (Or.inl ⟨?hw1H22, ?hy1H22⟩) (by assumption) ?rest1H22
        case oi0_1H22 =>
          conv =>
            lhs
            whnf
            arg 1
            whnf
        case hq1H22 => exact fun _ _ _ h => h
        case ff1H22 => kernel_rfl
        case rr1H22 => kernel_rfl
        case hw1H22 => rfl
        case hy1H22 =>
          intro w hSw
          (try dsimp only at hSw)
          first
          | (go_simp; done)
          | (go_simp; with_reducible rfl)
        try simp only [Act.put, List.setIfInBounds_toArray, List.set_cons_zero, List.set_cons_succ]
        refine wpAnyH_take (i := 2) (oi := ?oi2H22) (v := ?v2H22) ?oi0_2H22 (by kernel_rfl) ?ff2H22 ?rr2H22 ?hq2H22 (Or.inl ⟨?hw2H22, ?hy2H22⟩) (by assumption) ?rest2H22
        case oi0_2H22 =>
          conv =>
            lhs
            whnf
            arg 1
            whnf
        case hq2H22 => exact fun _ _ _ h => h
        case ff2H22 => kernel_rfl
        case rr2H22 => kernel_rfl
        case hw2H22 => rfl
        case hy2H22 =>
          intro w hSw
          (try dsimp only at hSw)
          first
          | (go_simp; done)
          | (go_simp; with_reducible rfl)
        try simp only [Act.put, List.setIfInBounds_toArray, List.set_cons_zero, List.set_cons_succ]
        refine wpAnyH_take (i := 3) (oi := ?oi3H22) (v := undef) ?oi0_3H22 (by kernel_rfl) ?ff3H22 ?rr3H22 ?hq3H22 (Or.inr ⟨?hw3H22, rfl⟩) (by assumption) ?rest3H22
        case oi0_3H22 =>
          conv =>
            lhs
            whnf
            arg 1
            whnf
        case hq3H22 => exact fun _ _ _ h => h
        case ff3H22 => kernel_rfl
        case rr3H22 => kernel_rfl
        case hw3H22 => rfl
        try simp only [Act.put, List.setIfInBounds_toArray, List.set_cons_zero, List.set_cons_succ]
        refine wpAnyH_take (i := 4) (oi := ?oi4H22) (v := undef) ?oi0_4H22 (by kernel_rfl) ?ff4H22 ?rr4H22 ?hq4H22 (Or.inr ⟨?hw4H22, rfl⟩) (by assumption) ?rest4H22
        case oi0_4H22 =>
          conv =>
            lhs
            whnf
            arg 1
            whnf
        case hq4H22 => exact fun _ _ _ h => h
        case ff4H22 => kernel_rfl
        case rr4H22 => kernel_rfl
        case hw4H22 => rfl
        try simp only [Act.put, List.setIfInBounds_toArray, List.set_cons_zero, List.set_cons_succ]
        refine wpAnyH_take (i := 5) (oi := ?oi5H22) (v := undef) ?oi0_5H22 (by kernel_rfl) ?ff5H22 ?rr5H22 ?hq5H22 (Or.inr ⟨?hw5H22, rfl⟩) (by assumption) ?rest5H22
        case oi0_5H22 =>
          conv =>
            lhs
            whnf
            arg 1
            whnf
        case hq5H22 => exact fun _ _ _ h => h
        case ff5H22 => kernel_rfl
        case rr5H22 => kernel_rfl
        case hw5H22 => rfl
        try simp only [Act.put, List.setIfInBounds_toArray, List.set_cons_zero, List.set_cons_succ]
        refine wpAnyH_take (i := 6) (oi := ?oi6H22) (v := undef) ?oi0_6H22 (by kernel_rfl) ?ff6H22 ?rr6H22 ?hq6H22 (Or.inr ⟨?hw6H22, rfl⟩) (by assumption) ?rest6H22
        case oi0_6H22 =>
          conv =>
            lhs
            whnf
            arg 1
            whnf
        case hq6H22 => exact fun _ _ _ h => h
        case ff6H22 => kernel_rfl
        case rr6H22 => kernel_rfl
        case hw6H22 => rfl
        try simp only [Act.put, List.setIfInBounds_toArray, List.set_cons_zero, List.set_cons_succ]
        refine wpAnyH_take (i := 7) (oi := ?oi7H22) (v := undef) ?oi0_7H22 (by kernel_rfl) ?ff7H22 ?rr7H22 ?hq7H22 (Or.inr ⟨?hw7H22, rfl⟩) (by assumption) ?rest7H22
        case oi0_7H22 =>
          conv =>
            lhs
            whnf
            arg 1
            whnf
        case hq7H22 => exact fun _ _ _ h => h
        case ff7H22 => kernel_rfl
        case rr7H22 => kernel_rfl
        case hw7H22 => rfl
        try simp only [Act.put, List.setIfInBounds_toArray, List.set_cons_zero, List.set_cons_succ]
        refine wpAnyH_take (i := 8) (oi := ?oi8H22) (v := undef) ?oi0_8H22 (by kernel_rfl) ?ff8H22 ?rr8H22 ?hq8H22 (Or.inr ⟨?hw8H22, rfl⟩) (by assumption) ?rest8H22
        case oi0_8H22 =>
          conv =>
            lhs
            whnf
            arg 1
            whnf
        case hq8H22 => exact fun _ _ _ h => h
        case ff8H22 => kernel_rfl
        case rr8H22 => kernel_rfl
        case hw8H22 => rfl
        try simp only [Act.put, List.setIfInBounds_toArray, List.set_cons_zero, List.set_cons_succ]
        refine wpAnyH_take (i := 9) (oi := ?oi9H22) (v := undef) ?oi0_9H22 (by kernel_rfl) ?ff9H22 ?rr9H22 ?hq9H22 (Or.inr ⟨?hw9H22, rfl⟩) (by assumption) ?rest9H22
        case oi0_9H22 =>
          conv =>
            lhs
            whnf
            arg 1
            whnf
        case hq9H22 => exact fun _ _ _ h => h
        case ff9H22 => kernel_rfl
        case rr9H22 => kernel_rfl
        case hw9H22 => rfl
        try simp only [Act.put, List.setIfInBounds_toArray, List.set_cons_zero, List.set_cons_succ]
        refine wpAnyH_take (i := 10) (oi := ?oi10H22) (v := undef) ?oi0_10H22 (by kernel_rfl) ?ff10H22 ?rr10H22 ?hq10H22 (Or.inr ⟨?hw10H22, rfl⟩) (by assumption) ?rest10H22
        case oi0_10H22 =>
          conv =>
            lhs
            whnf
            arg 1
            whnf
        case hq10H22 => exact fun _ _ _ h => h
        case ff10H22 => kernel_rfl
        case rr10H22 => kernel_rfl
        case hw10H22 => rfl
        try simp only [Act.put, List.setIfInBounds_toArray, List.set_cons_zero, List.set_cons_succ]
        refine wpAnyH_take (i := 11) (oi := ?oi11H22) (v := undef) ?oi0_11H22 (by kernel_rfl) ?ff11H22 ?rr11H22 ?hq11H22 (Or.inr ⟨?hw11H22, rfl⟩) (by assumption) ?rest11H22
        case oi0_11H22 =>
          conv =>
            lhs
            whnf
            arg 1
            whnf
        case hq11H22 => exact fun _ _ _ h => h
        case ff11H22 => kernel_rfl
        case rr11H22 => kernel_rfl
        case hw11H22 => rfl
        try simp only [Act.put, List.setIfInBounds_toArray, List.set_cons_zero, List.set_cons_succ]
        refine wpAnyH_take (i := 12) (oi := ?oi12H22) (v := undef) ?oi0_12H22 (by kernel_rfl) ?ff12H22 ?rr12H22 ?hq12H22 (Or.inr ⟨?hw12H22, rfl⟩) (by assumption) ?rest12H22
        case oi0_12H22 =>
          conv =>
            lhs
            whnf
            arg 1
            whnf
        case hq12H22 => exact fun _ _ _ h => h
        case ff12H22 => kernel_rfl
        case rr12H22 => kernel_rfl
        case hw12H22 => rfl
        try simp only [Act.put, List.setIfInBounds_toArray, List.set_cons_zero, List.set_cons_succ]
        refine wpAnyH_take (i := 13) (oi := ?oi13H22) (v := ?v13H22) ?oi0_13H22 (by kernel_rfl) ?ff13H22 ?rr13H22 ?hq13H22 (Or.inl ⟨?hw13H22, ?hy13H22⟩) (by assumption) ?rest13H22
        case oi0_13H22 =>
          conv =>
            lhs
            whnf
            arg 1
            whnf
        case hq13H22 => exact fun _ _ _ h => h
        case ff13H22 => kernel_rfl
        case rr13H22 => kernel_rfl
        case hw13H22 => rfl
        case hy13H22 =>
          intro w hSw
          (try dsimp only at hSw)
          first
          | (go_simp; done)
          | (go_simp; with_reducible rfl)
        try simp only [Act.put, List.setIfInBounds_toArray, List.set_cons_zero, List.set_cons_succ]
        refine wpAnyH_take (i := 14) (oi := ?oi14H22) (v := ?v14H22) ?oi0_14H22 (by kernel_rfl) ?ff14H22 ?rr14H22 ?hq14H22 (Or.inl ⟨?hw14H22, ?hy14H22⟩) (by assumption) ?rest14H22
        case oi0_14H22 =>
          conv =>
            lhs
            whnf
            arg 1
            whnf
        case hq14H22 => exact fun _ _ _ h => h
        case ff14H22 => kernel_rfl
        case rr14H22 => kernel_rfl
        case hw14H22 => rfl
        case hy14H22 =>
          intro w hSw
          (try dsimp only at hSw)
          first
          | (go_simp; done)
          | (go_simp; with_reducible rfl)
        try simp only [Act.put, List.setIfInBounds_toArray, List.set_cons_zero, List.set_cons_succ]
        refine wpAnyH_take (i := 15) (oi := ?oi15H22) (v := ?v15H22) ?oi0_15H22 (by kernel_rfl) ?ff15H22 ?rr15H22 ?hq15H22 (Or.inl ⟨?hw15H22, ?hy15H22⟩) (by assumption) ?rest15H22
        case oi0_15H22 =>
          conv =>
            lhs
            whnf
            arg 1
            whnf
        case hq15H22 => exact fun _ _ _ h => h
        case ff15H22 => kernel_rfl
        case rr15H22 => kernel_rfl
        case hw15H22 => rfl
        case hy15H22 =>
          intro w hSw
          (try dsimp only at hSw)
          first
          | (go_simp; done)
          | (go_simp; with_reducible rfl)
        try simp only [Act.put, List.setIfInBounds_toArray, List.set_cons_zero, List.set_cons_succ]
        refine wpAnyH_take (i := 16) (oi := ?oi16H22) (v := ?v16H22) ?oi0_16H22 (by kernel_rfl) ?ff16H22 ?rr16H22 ?hq16H22 (Or.inl ⟨?hw16H22, ?hy16H22⟩) (by assumption) ?rest16H22
        case oi0_16H22 =>
          conv =>
            lhs
            whnf
            arg 1
            whnf
        case hq16H22 => exact fun _ _ _ h => h
        case ff16H22 => kernel_rfl
        case rr16H22 => kernel_rfl
        case hw16H22 => rfl
        case hy16H22 =>
          intro w hSw
          (try dsimp only at hSw)
          first
          | (go_simp; done)
          | (go_simp; with_reducible rfl)
        try simp only [Act.put, List.setIfInBounds_toArray, List.set_cons_zero, List.set_cons_succ]
        refine wpAnyH_take (i := 17) (oi := ?oi17H22) (v := ?v17H22) ?oi0_17H22 (by kernel_rfl) ?ff17H22 ?rr17H22 ?hq17H22 (Or.inl ⟨?hw17H22, ?hy17H22⟩) (by assumption) ?rest17H22
        case oi0_17H22 =>
          conv =>
            lhs
            whnf
            arg 1
            whnf
        case hq17H22 => exact fun _ _ _ h => h
        case ff17H22 => kernel_rfl
        case rr17H22 => kernel_rfl
        case hw17H22 => rfl
        case hy17H22 =>
          intro w hSw
          (try dsimp only at hSw)
          first
          | (go_simp; done)
          | (go_simp; with_reducible rfl)
        try simp only [Act.put, List.setIfInBounds_toArray, List.set_cons_zero, List.set_cons_succ]
        refine wpAnyH_take (i := 18) (oi := ?oi18H22) (v := ?v18H22) ?oi0_18H22 (by kernel_rfl) ?ff18H22 ?rr18H22 ?hq18H22 (Or.inl ⟨?hw18H22, ?hy18H22⟩) (by assumption) ?rest18H22
        case oi0_18H22 =>
          conv =>
            lhs
            whnf
            arg 1
            whnf
        case hq18H22 => exact fun _ _ _ h => h
        case ff18H22 => kernel_rfl
        case rr18H22 => kernel_rfl
        case hw18H22 => rfl
        case hy18H22 =>
          intro w hSw
          (try dsimp only at hSw)
          first
          | (go_simp; done)
          | (go_simp; with_reducible rfl)
        try simp only [Act.put, List.setIfInBounds_toArray, List.set_cons_zero, List.set_cons_succ]
        refine wpAnyH_take (i := 19) (oi := ?oi19H22) (v := ?v19H22) ?oi0_19H22 (by kernel_rfl) ?ff19H22 ?rr19H22 ?hq19H22 (Or.inl ⟨?hw19H22, ?hy19H22⟩) (by assumption) ?rest19H22
        case oi0_19H22 =>
          conv =>
            lhs
            whnf
            arg 1
            whnf
        case hq19H22 => exact fun _ _ _ h => h
        case ff19H22 => kernel_rfl
        case rr19H22 => kernel_rfl
        case hw19H22 => rfl
        case hy19H22 =>
          intro w hSw
          (try dsimp only at hSw)
          first
          | (go_simp; done)
          | (go_simp; with_reducible rfl)
        try simp only [Act.put, List.setIfInBounds_toArray, List.set_cons_zero, List.set_cons_succ]
        refine wpAnyH_take (i := 20) (oi := ?oi20H22) (v := ?v20H22) ?oi0_20H22 (by kernel_rfl) ?ff20H22 ?rr20H22 ?hq20H22 (Or.inl ⟨?hw20H22, ?hy20H22⟩) (by assumption) ?rest20H22
        case oi0_20H22 =>
          conv =>
            lhs
            whnf
            arg 1
            whnf
        case hq20H22 => exact fun _ _ _ h => h
        case ff20H22 => kernel_rfl
        case rr20H22 => kernel_rfl
        case hw20H22 => rfl
        case hy20H22 =>
          intro w hSw
          (try dsimp only at hSw)
          first
          | (go_simp; done)
          | (go_simp; with_reducible rfl)
        try simp only [Act.put, List.setIfInBounds_toArray, List.set_cons_zero, List.set_cons_succ]
        refine wpAnyH_take (i := 21) (oi := ?oi21H22) (v := ?v21H22) ?oi0_21H22 (by kernel_rfl) ?ff21H22 ?rr21H22 ?hq21H22 (Or.inl ⟨?hw21H22, ?hy21H22⟩) (by assumption) ?rest21H22
        case oi0_21H22 =>
          conv =>
            lhs
            whnf
            arg 1
            whnf
        case hq21H22 => exact fun _ _ _ h => h
        case ff21H22 => kernel_rfl
        case rr21H22 => kernel_rfl
        case hw21H22 => rfl
        case hy21H22 =>
          intro w hSw
          (try dsimp only at hSw)
          first
          | (go_simp; done)
          | (go_simp; with_reducible rfl)
        try simp only [Act.put, List.setIfInBounds_toArray, List.set_cons_zero, List.set_cons_succ]
        refine wpAnyH_take (i := 22) (oi := ?oi22H22) (v := ?v22H22) ?oi0_22H22 (by kernel_rfl) ?ff22H22 ?rr22H22 ?hq22H22 (Or.inl ⟨?hw22H22, ?hy22H22⟩) (by assumption) ?rest22H22
        case oi0_22H22 =>
          conv =>
            lhs
            whnf
            arg 1
            whnf
        case hq22H22 => exact fun _ _ _ h => h
        case ff22H22 => kernel_rfl
        case rr22H22 => kernel_rfl
        case hw22H22 => rfl
        case hy22H22 =>
          intro w hSw
          (try dsimp only at hSw)
          first
          | (go_simp; done)
          | (go_simp; with_reducible rfl)
        try simp only [Act.put, List.setIfInBounds_toArray, List.set_cons_zero, List.set_cons_succ]
        refine wpAnyH_take (i := 23) (oi := ?oi23H22) (v := ?v23H22) ?oi0_23H22 (by kernel_rfl) ?ff23H22 ?rr23H22 ?hq23H22 (Or.inl ⟨?hw23H22, ?hy23H22⟩) (by assumption) ?rest23H22
        case oi0_23H22 =>
          conv =>
            lhs
            whnf
            arg 1
            whnf
        case hq23H22 => exact fun _ _ _ h => h
        case ff23H22 => kernel_rfl
        case rr23H22 => kernel_rfl
        case hw23H22 => rfl
        case hy23H22 =>
          intro w hSw
          (try dsimp only at hSw)
          first
          | (go_simp; done)
          | (go_simp; with_reducible rfl)
        try simp only [Act.put, List.setIfInBounds_toArray, List.set_cons_zero, List.set_cons_succ]
        refine wpAnyH_take (i := 24) (oi := ?oi24H22) (v := ?v24H22) ?oi0_24H22 (by kernel_rfl) ?ff24H22 ?rr24H22 ?hq24H22 (Or.inl ⟨?hw24H22, ?hy24H22⟩) (by assumption) ?rest24H22
        case oi0_24H22 =>
          conv =>
            lhs
            whnf
            arg 1
            whnf
        case hq24H22 => exact fun _ _ _ h => h
        case ff24H22 => kernel_rfl
        case rr24H22 => kernel_rfl
        case hw24H22 => rfl
        case hy24H22 =>
          intro w hSw
          (try dsimp only at hSw)
          first
          | (go_simp; done)
          | (go_simp; with_reducible rfl)
        try simp only [Act.put, List.setIfInBounds_toArray, List.set_cons_zero, List.set_cons_succ]
        refine wpAnyH_take (i := 25) (oi := ?oi25H22) (v := ?v25H22) ?oi0_25H22 (by kernel_rfl) ?ff25H22 ?rr25H22 ?hq25H22 (Or.inl ⟨?hw25H22, ?hy25H22⟩) (by assumption) ?rest25H22
        case oi0_25H22 =>
          conv =>
            lhs
            whnf
            arg 1
            whnf
        case hq25H22 => exact fun _ _ _ h => h
        case ff25H22 => kernel_rfl
        case rr25H22 => kernel_rfl
        case hw25H22 => rfl
        case hy25H22 =>
          intro w hSw
          (try dsimp only at hSw)
          first
          | (go_simp; done)
          | (go_simp; with_reducible rfl)
        try simp only [Act.put, List.setIfInBounds_toArray, List.set_cons_zero, List.set_cons_succ]
        refine wpAnyH_take (i := 26) (oi := ?oi26H22) (v := ?v26H22) ?oi0_26H22 (by kernel_rfl) ?ff26H22 ?rr26H22 ?hq26H22 (Or.inl ⟨?hw26H22, ?hy26H22⟩) (by assumption) ?rest26H22
        case oi0_26H22 =>
          conv =>
            lhs
            whnf
            arg 1
            whnf
        case hq26H22 => exact fun _ _ _ h => h
        case ff26H22 => kernel_rfl
        case rr26H22 => kernel_rfl
        case hw26H22 => rfl
        case hy26H22 =>
          intro w hSw
          (try dsimp only at hSw)
          first
          | (go_simp; done)
          | (go_simp; with_reducible rfl)
        try simp only [Act.put, List.setIfInBounds_toArray, List.set_cons_zero, List.set_cons_succ]
        refine wpAnyH_take (i := 27) (oi := ?oi27H22) (v := ?v27H22) ?oi0_27H22 (by kernel_rfl) ?ff27H22 ?rr27H22 ?hq27H22 (Or.inl ⟨?hw27H22, ?hy27H22⟩) (by assumption) ?rest27H22
        case oi0_27H22 =>
          conv =>
            lhs
            whnf
            arg 1
            whnf
        case hq27H22 => exact fun _ _ _ h => h
        case ff27H22 => kernel_rfl
        case rr27H22 => kernel_rfl
        case hw27H22 => rfl
        case hy27H22 =>
          intro w hSw
          (try dsimp only at hSw)
          first
          | (go_simp; done)
          | (go_simp; with_reducible rfl)
        try simp only [Act.put, List.setIfInBounds_toArray, List.set_cons_zero, List.set_cons_succ]
        refine wpAnyH_take (i := 28) (oi := ?oi28H22) (v := ?v28H22) ?oi0_28H22 (by kernel_rfl) ?ff28H22 ?rr28H22 ?hq28H22 (Or.inl ⟨?hw28H22, ?hy28H22⟩) (by assumption) ?rest28H22
        case oi0_28H22 =>
          conv =>
            lhs
            whnf
            arg 1
            whnf
        case hq28H22 => exact fun _ _ _ h => h
        case ff28H22 => kernel_rfl
        case rr28H22 => kernel_rfl
        case hw28H22 => rfl
        case hy28H22 =>
          intro w hSw
          (try dsimp only at hSw)
          first
          | (go_simp; done)
          | (go_simp; with_reducible rfl)
        try simp only [Act.put, List.setIfInBounds_toArray, List.set_cons_zero, List.set_cons_succ]
        refine wpAnyH_take (i := 29) (oi := ?oi29H22) (v := ?v29H22) ?oi0_29H22 (by kernel_rfl) ?ff29H22 ?rr29H22 ?hq29H22 (Or.inl ⟨?hw29H22, ?hy29H22⟩) (by assumption) ?rest29H22
        case oi0_29H22 =>
          conv =>
            lhs
            whnf
            arg 1
            whnf
        case hq29H22 => exact fun _ _ _ h => h
        case ff29H22 => kernel_rfl
        case rr29H22 => kernel_rfl
        case hw29H22 => rfl
        case hy29H22 =>
          intro w hSw
          (try dsimp only at hSw)
          first
          | (go_simp; done)
          | (go_simp; with_reducible rfl)
        try simp only [Act.put, List.setIfInBounds_toArray, List.set_cons_zero, List.set_cons_succ]
        refine wpAnyH_take (i := 30) (oi := ?oi30H22) (v := ?v30H22) ?oi0_30H22 (by kernel_rfl) ?ff30H22 ?rr30H22 ?hq30H22 (Or.inl ⟨?hw30H22, ?hy30H22⟩) (by assumption) ?rest30H22
        case oi0_30H22 =>
          conv =>
            lhs
            whnf
            arg 1
            whnf
        case hq30H22 => exact fun _ _ _ h => h
        case ff30H22 => kernel_rfl
        case rr30H22 => kernel_rfl
        case hw30H22 => rfl
        case hy30H22 =>
          intro w hSw
          (try dsimp only at hSw)
          first
          | (go_simp; done)
          | (go_simp; with_reducible rfl)
        try simp only [Act.put, List.setIfInBounds_toArray, List.set_cons_zero, List.set_cons_succ]
        refine wpAnyH_take (i := 31) (oi := ?oi31H22) (v := ?v31H22) ?oi0_31H22 (by kernel_rfl) ?ff31H22 ?rr31H22 ?hq31H22 (Or.inl ⟨?hw31H22, ?hy31H22⟩) (by assumption) ?rest31H22
        case oi0_31H22 =>
          conv =>
            lhs
            whnf
            arg 1
            whnf
        case hq31H22 => exact fun _ _ _ h => h
        case ff31H22 => kernel_rfl
        case rr31H22 => kernel_rfl
        case hw31H22 => rfl
        case hy31H22 =>
          intro w hSw
          (try dsimp only at hSw)
          first
          | (go_simp; done)
          | (go_simp; with_reducible rfl)
        try simp only [Act.put, List.setIfInBounds_toArray, List.set_cons_zero, List.set_cons_succ]
        refine wpAnyH_take (i := 32) (oi := ?oi32H22) (v := ?v32H22) ?oi0_32H22 (by kernel_rfl) ?ff32H22 ?rr32H22 ?hq32H22 (Or.inl ⟨?hw32H22, ?hy32H22⟩) (by assumption) ?rest32H22
        case oi0_32H22 =>
          conv =>
            lhs
            whnf
            arg 1
            whnf
        case hq32H22 => exact fun _ _ _ h => h
        case ff32H22 => kernel_rfl
        case rr32H22 => kernel_rfl
        case hw32H22 => rfl
        case hy32H22 =>
          intro w hSw
          (try dsimp only at hSw)
          first
          | (go_simp; done)
          | (go_simp; with_reducible rfl)
        try simp only [Act.put, List.setIfInBounds_toArray, List.set_cons_zero, List.set_cons_succ]
        refine wpAnyH_take (i := 33) (oi := ?oi33H22) (v := ?v33H22) ?oi0_33H22 (by kernel_rfl) ?ff33H22 ?rr33H22 ?hq33H22 (Or.inl ⟨?hw33H22, ?hy33H22⟩) (by assumption) ?rest33H22
        case oi0_33H22 =>
          conv =>
            lhs
            whnf
            arg 1
            whnf
        case hq33H22 => exact fun _ _ _ h => h
        case ff33H22 => kernel_rfl
        case rr33H22 => kernel_rfl
        case hw33H22 => rfl
        case hy33H22 =>
          intro w hSw
          (try dsimp only at hSw)
          first
          | (go_simp; done)
          | (go_simp; with_reducible rfl)
        try simp only [Act.put, List.setIfInBounds_toArray, List.set_cons_zero, List.set_cons_succ]
        refine wpAnyH_done (by kernel_rfl) ?_ _
        have cx : wD.cell? ⟨lb, lo + k, none⟩ = some (.int .i64 x) := by rw [← hwD]; exact cx
        rw [hwD] at UD ⊢
        clear hwD
        by_cases e1 : x = n
        case pos =>
          have d1 : (x == n) = true := by simp [e1]
          go_wp2_with fail
          go_roundw
          case rel => exact ⟨k + 1, c + 1, by omega, by go_num, rfl, hide (by rw [HS.out]; rw [if_pos (.inl e1)]), UD⟩
          case measure => simp [intOf] <;> omega
        have d1 : (x == n) = false := by simp [e1]
        by_cases e2 : x = rest
        case pos =>
          have d2 : (x == rest) = true := by simp [e2]
          go_wp2_with fail
          go_roundw
          case rel => exact ⟨k + 1, c + 1, by omega, by go_num, rfl, hide (by rw [HS.out]; rw [if_pos (.inr e2)]), UD⟩
          case measure => simp [intOf] <;> omega
        have d2 : (x == rest) = false := by simp [e2]
        go_wp2_with fail
        go_roundw
        case rel => exact ⟨k + 1, c, by omega, by go_num, rfl, hide (by rw [HS.out]; rw [if_neg (fun h => h.elim e1 e2), Int.add_zero]), UD⟩
        case measure => simp [intOf] <;> omega
      have hk0i : (0 : Int) < k := by omega
      have hk0d : decide ((0 : Int) < k) = true := decide_eq_true hk0i
      obtain ⟨q, hq⟩ : ∃ q, q + 1 = k := ⟨k - 1, by omega⟩
      obtain ⟨y, hy⟩ : ∃ y, L[q]? = some y := ⟨_, List.getElem?_eq_getElem (by omega)⟩
      have hqi : (q : Int) < L.length := by omega
      have hqn : q < L.length := by omega
      have hyx : y < x := asc_lt (by rw [← HL.out]; exact lengthsS_asc i) hy hx (by omega)
      have hyx2 : ¬ x ≤ y := by omega
      have hyx3 : decide (x ≤ y) = false := decide_eq_false hyx2
      have hwq : IntKind.i64.wrap ((k : Int) - 1) = (q : Int) := (Go.IntWalk.i64_in _ (by omega)).trans (by omega)
      have cy := RO.2 q y hy
      go_wp2_with fail
      obtain ⟨wD, hwD⟩ : ∃ y, wo.drew = y := ⟨_, rfl⟩
      refine wp_region_held_drew (S := (fun w' => w'.cell? ⟨w3.heap.size, 2, none⟩ = some (.int .i64 i.len) ∧ w'.cell? ⟨lb, lo + k, none⟩ = some (.int .i64 x) ∧ w'.cell? ⟨lb, lo + j, none⟩ = some (.int .i64 z) ∧ w'.cell? ⟨lb, lo + q, none⟩ = some (.int .i64 y))) (by kernel_rfl) (by exact ⟨o2, cx, cz, cy⟩) (fun hHeld => ?_)
      refine wpAnyH_take (i := 0) (oi := ?oi0H23) (v := ?v0H23) ?oi0_0H23 (by kernel_rfl) ?ff0H23 ?rr0H23 ?hq0H23 (Or.inl ⟨?hw0H23, ?hy0H23⟩) (by assumption) ?rest0H23
      case oi0_0H23 =>
        conv =>
          lhs
          whnf
          arg 1
          whnf
      case hq0H23 => exact fun _ _ _ h => h
      case ff0H23 => kernel_rfl
      case rr0H23 => kernel_rfl
      case hw0H23 => rfl
      case hy0H23 =>
        intro w hSw
        (try dsimp only at hSw)
        first
        | (go_simp; done)
        | (go_simp; with_reducible rfl)
      try simp only [Act.put, List.setIfInBounds_toArray, List.set_cons_zero, List.set_cons_succ]
      refine wpAnyH_take (i := 1) (oi := ?oi1H23) (v := ?v1H23) ?oi0_1H23 (by kernel_rfl) ?ff1H23 ?rr1H23 ?hq1H23 (Or.inl ⟨?hw1H23, ?hy1H23⟩) (by assumption) ?rest1H23
      case oi0_1H23 =>
        conv =>
          lhs
          whnf
          arg 1
          whnf
      case hq1H23 => exact fun _ _ _ h => h
      case ff1H23 => kernel_rfl
      case rr1H23 => kernel_rfl
      case hw1H23 => rfl
      case hy1H23 =>
        intro w hSw
        (try dsimp only at hSw)
        first
        | (go_simp; done)
        | (go_simp; with_reducible rfl)
      try simp only [Act.put, List.setIfInBounds_toArray, List.set_cons_zero, List.set_cons_succ]
      refine wpAnyH_take (i := 2) (oi := ?oi2H23) (v := ?v2H23) ?oi0_2H23 (by kernel_rfl) ?ff2H23 ?rr2H23 ?hq2H23 (Or.inl ⟨?hw2H23, ?hy2H23⟩) (by assumption) ?rest2H23
      case oi0_2H23 =>
        conv =>
          lhs
          whnf
          arg 1
          whnf
      case hq2H23 => exact fun _ _ _ h => h
      case ff2H23 => kernel_rfl
      case rr2H23 => kernel_rfl
      case hw2H23 => rfl
      case hy2H23 =>
        intro w hSw
        (try dsimp only at hSw)
        first
        | (go_simp; done)
        | (go_simp; with_reducible rfl)
      try simp only [Act.put, List.setIfInBounds_toArray, List.set_cons_zero, List.set_cons_succ]
      refine wpAnyH_take (i := 3) (oi := ?oi3H23) (v := ?v3H23) ?oi0_3H23 (by kernel_rfl) ?ff3H23 ?rr3H23 ?hq3H23 (Or.inl ⟨?hw3H23, ?hy3H23⟩) (by assumption) ?rest3H23
      case oi0_3H23 =>
        conv =>
          lhs
          whnf
          arg 1
          whnf
      case hq3H23 => exact fun _ _ _ h => h
      case ff3H23 => kernel_rfl
      case rr3H23 => kernel_rfl
      case hw3H23 => rfl
      case hy3H23 =>
        intro w hSw
        (try dsimp only at hSw)
        first
        | (go_simp; done)
        | (go_simp; with_reducible rfl)
      try simp only [Act.put, List.setIfInBounds_toArray, List.set_cons_zero, List.set_cons_succ]
      refine wpAnyH_take (i := 4) (oi := ?oi4H23) (v := ?v4H23) ?oi0_4H23 (by kernel_rfl) ?ff4H23 ?rr4H23 ?hq4H23 (Or.inl ⟨?hw4H23, ?hy4H23⟩) (by assumption) ?rest4H23
      case oi0_4H23 =>
        conv =>
          lhs
          whnf
          arg 1
          whnf
      case hq4H23 => exact fun _ _ _ h => h
      case ff4H23 => kernel_rfl
      case rr4H23 => kernel_rfl
      case hw4H23 => rfl
      case hy4H23 =>
        intro w hSw
        (try dsimp only at hSw)
        first
        | (go_simp; done)
        | (go_simp; with_reducible rfl)
      try simp only [Act.put, List.setIfInBounds_toArray, List.set_cons_zero, List.set_cons_succ]
      refine wpAnyH_take (i := 5) (oi := ?oi5H23) (v := ?v5H23) ?oi0_5H23 (by kernel_rfl) ?ff5H23 ?rr5H23 ?hq5H23 (Or.inl ⟨?hw5H23, ?hy5H23⟩) (by assumption) ?rest5H23
      case oi0_5H23 =>
        conv =>
          lhs
          whnf
          arg 1
          whnf
      case hq5H23 => exact fun _ _ _ h => h
      case ff5H23 => kernel_rfl
      case rr5H23 => kernel_rfl
      case hw5H23 => rfl
      case hy5H23 =>
        intro w hSw
        (try dsimp only at hSw)
        first
        | (go_simp; done)
        | (go_simp; with_reducible rfl)
      try simp only [Act.put, List.setIfInBounds_toArray, List.set_cons_zero, List.set_cons_succ]
      refine wpAnyH_take (i := 6) (oi := ?oi6H23) (v := ?v6H23) ?oi0_6H23 (by kernel_rfl) ?ff6H23 ?rr6H23 ?hq6H23 (Or.inl ⟨?hw6H23, ?hy6H23⟩) (by assumption) ?rest6H23
      case oi0_6H23 =>
        conv =>
          lhs
          whnf
          arg 1
          whnf
      case hq6H23 => exact fun _ _ _ h => h
      case ff6H23 => kernel_rfl
      case rr6H23 => kernel_rfl
      case hw6H23 => rfl
      case hy6H23 =>
        intro w hSw
        (try dsimp only at hSw)
        first
        | (go_simp; done)
        | (go_simp; with_reducible rfl)
      try simp only [Act.put, List.setIfInBounds_toArray, List.set_cons_zero, List.set_cons_succ]
      refine wpAnyH_take (i := 7) (oi := ?oi7H23) (v := ?v7H23) ?oi0_7H23 (by kernel_rfl) ?ff7H23 ?rr7H23 ?hq7H23 (Or.inl ⟨?hw7H23, ?hy7H23⟩) (by assumption) ?rest7H23
      case oi0_7H23 =>
        conv =>
          lhs
          whnf
          arg 1
          whnf
      case hq7H23 => exact fun _ _ _ h => h
      case ff7H23 => kernel_rfl
      case rr7H23 => kernel_rfl
      case hw7H23 => rfl
      case hy7H23 =>
        intro w hSw
        (try dsimp only at hSw)
        first
        | (go_simp; done)
        | (go_simp; with_reducible rfl)
      try simp only [Act.put, List.setIfInBounds_toArray, List.set_cons_zero, List.set_cons_succ]
      refine wpAnyH_take (i := 8) (oi := ?oi8H23) (v := ?v8H23) ?oi0_8H23 (by kernel_rfl) ?ff8H23 ?rr8H23 ?hq8H23 (Or.inl ⟨?hw8H23, ?hy8H23⟩) (by assumption) ?rest8H23
      case oi0_8H23 =>
        conv =>
          lhs
          whnf
          arg 1
          whnf
      case hq8H23 => exact fun _ _ _ h => h
      case ff8H23 => kernel_rfl
      case rr8H23 => kernel_rfl
      case hw8H23 => rfl
      case hy8H23 =>
        intro w hSw
        (try dsimp only at hSw)
        first
        | (go_simp; done)
        | (go_simp; with_reducible rfl)
      try simp only [Act.put, List.setIfInBounds_toArray, List.set_cons_zero, List.set_cons_succ]
      refine wpAnyH_take (i := 9) (oi := ?oi9H23) (v := ?v9H23) ?oi0_9H23 (by kernel_rfl) ?ff9H23 ?rr9H23 ?hq9H23 (Or.inl ⟨?hw9H23, ?hy9H23⟩) (by assumption) ?rest9H23
      case oi0_9H23 =>
        conv =>
          lhs
          whnf
          arg 1
          whnf
      case hq9H23 => exact fun _ _ _ h => h
      case ff9H23 => kernel_rfl
      case rr9H23 => kernel_rfl
      case hw9H23 => rfl
      case hy9H23 =>
        intro w hSw
        (try dsimp only at hSw)
        first
        | (go_simp; done)
        | (go_simp; with_reducible rfl)
      try simp only [Act.put, List.setIfInBounds_toArray, List.set_cons_zero, List.set_cons_succ]
      refine wpAnyH_take (i := 10) (oi := ?oi10H23) (v := ?v10H23) ?oi0_10H23 (by kernel_rfl) ?ff10H23 ?rr10H23 ?hq10H23 (Or.inl ⟨?hw10H23, ?hy10H23⟩) (by assumption) ?rest10H23
      case oi0_10H23 =>
        conv =>
          lhs
          whnf
          arg 1
          whnf
      case hq10H23 => exact fun _ _ _ h => h
      case ff10H23 => kernel_rfl
      case rr10H23 => kernel_rfl
      case hw10H23 => rfl
      case hy10H23 =>
        intro w hSw
        (try dsimp only at hSw)
        first
        | (go_simp; done)
        | (go_simp; with_reducible rfl)
      try simp only [Act.put, List.setIfInBounds_toArray, List.set_cons_zero, List.set_cons_succ]
      refine wpAnyH_take (i := 11) (oi := ?oi11H23) (v := ?v11H23) ?oi0_11H23 (by kernel_rfl) ?ff11H23 ?rr11H23 ?hq11H23 (Or.inl ⟨?hw11H23, ?hy11H23⟩) (by assumption) ?rest11H23
      case oi0_11H23 =>
        conv =>
          lhs
          whnf
          arg 1
          whnf
      case hq11H23 => exact fun _ _ _ h => h
      case ff11H23 => kernel_rfl
      case rr11H23 => kernel_rfl
      case hw11H23 => rfl
      case hy11H23 =>
        intro w hSw
        (try dsimp only at hSw)
        first
        | (go_simp; done)
        | (go_simp; with_reducible rfl)
      try simp only [Act.put, List.setIfInBounds_toArray, List.set_cons_zero, List.set_cons_succ]
      refine wpAnyH_take (i := 12) (oi := ?oi12H23) (v := ?v12H23) ?oi0_12H23 (by kernel_rfl) ?ff12H23 ?rr12H23 ?hq12H23 (Or.inl ⟨?hw12H23, ?hy12H23⟩) (by assumption) ?rest12H23
      case oi0_12H23 =>
        conv =>
          lhs
          whnf
          arg 1
          whnf
      case hq12H23 => exact fun _ _ _ h => h
      case ff12H23 => kernel_rfl
      case rr12H23 => kernel_rfl
      case hw12H23 => rfl
      case hy12H23 =>
        intro w hSw
        (try dsimp only at hSw)
        first
        | (go_simp; done)
        | (go_simp; with_reducible rfl)
      try simp only [Act.put, List.setIfInBounds_toArray, List.set_cons_zero, List.set_cons_succ]
      refine wpAnyH_take (i := 13) (oi := ?oi13H23) (v := ?v13H23) ?oi0_13H23 (by kernel_rfl) ?ff13H23 ?rr13H23 ?hq13H23 (Or.inl ⟨?hw13H23, ?hy13H23⟩) (by assumption) ?rest13H23
      case oi0_13H23 =>
        conv =>
          lhs
          whnf
          arg 1
          whnf
      case hq13H23 => exact fun _ _ _ h => h
      case ff13H23 => kernel_rfl
      case rr13H23 => kernel_rfl
      case hw13H23 => rfl
      case hy13H23 =>
        intro w hSw
        (try dsimp only at hSw)
        first
        | (go_simp; done)
        | (go_simp; with_reducible rfl)
      try simp only [Act.put, List.setIfInBounds_toArray, List.set_cons_zero, List.set_cons_succ]
      refine wpAnyH_take (i := 14) (oi := ?oi14H23) (v := ?v14H23) ?oi0_14H23 (by kernel_rfl) ?ff14H23 ?rr14H23 ?hq14H23 (Or.inl ⟨?hw14H23, ?hy14H23⟩) (by assumption) ?rest14H23
      case oi0_14H23 =>
        conv =>
          lhs
          whnf
          arg 1
          whnf
      case hq14H23 => exact fun _ _ _ h => h
      case ff14H23 => kernel_rfl
      case rr14H23 => kernel_rfl
      case hw14H23 => rfl
      case hy14H23 =>
        intro w hSw
        (try dsimp only at hSw)
        first
        | (go_simp; done)
        | (go_simp; with_reducible rfl)
      try simp only [Act.put, List.setIfInBounds_toArray, List.set_cons_zero, List.set_cons_succ]
      refine wpAnyH_take (i := 15) (oi := ?oi15H23) (v := ?v15H23) ?oi0_15H23 (by kernel_rfl) ?ff15H23 ?rr15H23 ?hq15H23 (Or.inl ⟨?hw15H23, ?hy15H23⟩) (by assumption) ?rest15H23
      case oi0_15H23 =>
        conv =>
          lhs
          whnf
          arg 1
          whnf
      case hq15H23 => exact fun _ _ _ h => h
      case ff15H23 => kernel_rfl
      case rr15H23 => kernel_rfl
      case hw15H23 => rfl
      case hy15H23 =>
        intro w hSw
        (try dsimp only at hSw)
        first
        | (go_simp; done)
        | (go_simp; with_reducible rfl)
      try simp only [Act.put, List.setIfInBounds_toArray, List.set_cons_zero, List.set_cons_succ]
      refine wpAnyH_take (i := 16) (oi := ?oi16H23) (v := ?v16H23) ?oi0_16H23 (by kernel_rfl) ?ff16H23 ?rr16H23 ?hq16H23 (Or.inl ⟨?hw16H23, ?hy16H23⟩) (by assumption) ?rest16H23
      case oi0_16H23 =>
        conv =>
          lhs
          whnf
          arg 1
          whnf
      case hq16H23 => exact fun _ _ _ h => h
      case ff16H23 => kernel_rfl
      case rr16H23 => kernel_rfl
      case hw16H23 => rfl
      case hy16H23 =>
        intro w hSw
        (try dsimp only at hSw)
        first
        | (go_simp; done)
        | (go_simp; with_reducible rfl)
      try simp only [Act.put, List.setIfInBounds_toArray, List.set_cons_zero, List.set_cons_succ]
      refine wpAnyH_take (i := 17) (oi := ?oi17H23) (v := ?v17H23) ?oi0_17H23 (by kernel_rfl) ?ff17H23 ?rr17H23 ?hq17H23 (Or.inl ⟨?hw17H23, ?hy17H23⟩) (by assumption) ?rest17H23
      case oi0_17H23 =>
        conv =>
          lhs
          whnf
          arg 1
          whnf
      case hq17H23 => exact fun _ _ _ h => h
      case ff17H23 => kernel_rfl
      case rr17H23 => kernel_rfl
      case hw17H23 => rfl
      case hy17H23 =>
        intro w hSw
        (try dsimp only at hSw)
        first
        | (go_simp; done)
        | (go_simp; with_reducible rfl)
      try simp only [Act.put, List.setIfInBounds_toArray, List.set_cons_zero, List.set_cons_succ]
      refine wpAnyH_take (i := 18) (oi := ?oi18H23) (v := ?v18H23) ?oi0_18H23 (by kernel_rfl) ?ff18H23 ?rr18H23 ?hq18H23 (Or.inl ⟨?hw18H23, ?hy18H23⟩) (by assumption) ?rest18H23
      case oi0_18H23 =>
        conv =>
          lhs
          whnf
          arg 1
          whnf
      case hq18H23 => exact fun _ _ _ h => h
      case ff18H23 => kernel_rfl
      case rr18H23 => kernel_rfl
      case hw18H23 => rfl
      case hy18H23 =>
        intro w hSw
        (try dsimp only at hSw)
        first
        | (go_simp; done)
        | (go_simp; with_reducible rfl)
      try simp only [Act.put, List.setIfInBounds_toArray, List.set_cons_zero, List.set_cons_succ]
      refine wpAnyH_take (i := 19) (oi := ?oi19H23) (v := ?v19H23) ?oi0_19H23 (by kernel_rfl) ?ff19H23 ?rr19H23 ?hq19H23 (Or.inl ⟨?hw19H23, ?hy19H23⟩) (by assumption) ?rest19H23
      case oi0_19H23 =>
        conv =>
          lhs
          whnf
          arg 1
          whnf
      case hq19H23 => exact fun _ _ _ h => h
      case ff19H23 => kernel_rfl
      case rr19H23 => kernel_rfl
      case hw19H23 => rfl
      case hy19H23 =>
        intro w hSw
        (try dsimp only at hSw)
        first
        | (go_simp; done)
        | (go_simp; with_reducible rfl)
      try simp only [Act.put, List.setIfInBounds_toArray, List.set_cons_zero, List.set_cons_succ]
      refine wpAnyH_take (i := 20) (oi := ?oi20H23) (v := ?v20H23) ?oi0_20H23 (by kernel_rfl) ?ff20H23 ?rr20H23 ?hq20H23 (Or.inl ⟨?hw20H23, ?hy20H23⟩) (by assumption) ?rest20H23
      case oi0_20H23 =>
        conv =>
          lhs
          whnf
          arg 1
          whnf
      case hq20H23 => exact fun _ _ _ h => h
      case ff20H23 => kernel_rfl
      case rr20H23 => kernel_rfl
      case hw20H23 => rfl
      case hy20H23 =>
        intro w hSw
        (try dsimp only at hSw)
        first
        | (go_simp; done)
        | (go_simp; with_reducible rfl)
      try simp only [Act.put, List.setIfInBounds_toArray, List.set_cons_zero, List.set_cons_succ]
      refine wpAnyH_take (i := 21) (oi := ?oi21H23) (v := ?v21H23) ?oi0_21H23 (by kernel_rfl) ?ff21H23 ?rr21H23 ?hq21H23 (Or.inl ⟨?hw21H23, ?hy21H23⟩) (by assumption) ?rest21H23
      case oi0_21H23 =>
        conv =>
          lhs
          whnf
          arg 1
          whnf
      case hq21H23 => exact fun _ _ _ h => h
      case ff21H23 => kernel_rfl
      case rr21H23 => kernel_rfl
      case hw21H23 => rfl
      case hy21H23 =>
        intro w hSw
        (try dsimp only at hSw)
        first
        | (go_simp; done)
        | (go_simp; with_reducible rfl)
      try simp only [Act.put, List.setIfInBounds_toArray, List.set_cons_zero, List.set_cons_succ]
      refine wpAnyH_take (i := 22) (oi := ?oi22H23) (v := ?v22H23) ?oi0_22H23 (by kernel_rfl) ?ff22H23 ?rr22H23 ?hq22H23 (Or.inl ⟨?hw22H23, ?hy22H23⟩) (by assumption) ?rest22H23
      case oi0_22H23 =>
        conv =>
          lhs
          whnf
          arg 1
          whnf
      case hq22H23 => exact fun _ _ _ h => h
      case ff22H23 => kernel_rfl
      case rr22H23 => kernel_rfl
      case hw22H23 => rfl
      case hy22H23 =>
        intro w hSw
        (try dsimp only at hSw)
        first
        | (go_simp; done)
        | (go_simp; with_reducible rfl)
      try simp only [Act.put, List.setIfInBounds_toArray, List.set_cons_zero, List.set_cons_succ]
      refine wpAnyH_take (i := 23) (oi := ?oi23H23) (v := ?v23H23) ?oi0_23H23 (by kernel_rfl) ?ff23H23 ?rr23H23 ?hq23H23 (Or.inl ⟨?hw23H23, ?hy23H23⟩) (by assumption) ?rest23H23
      case oi0_23H23 =>
        conv =>
          lhs
          whnf
          arg 1
          whnf
      case hq23H23 => exact fun _ _ _ h => h
      case ff23H23 => kernel_rfl
      case rr23H23 => kernel_rfl
      case hw23H23 => rfl
      case hy23H23 =>
        intro w hSw
        (try dsimp only at hSw)
        first
        | (go_simp; done)
        | (go_simp; with_reducible rfl)
      try simp only [Act.put, List.setIfInBounds_toArray, List.set_cons_zero, List.set_cons_succ]
      refine wpAnyH_take (i := 24) (oi := ?oi24H23) (v := ?v24H23) ?oi0_24H23 (by kernel_rfl) ?ff24H23 ?rr24H23 ?hq24H23 (Or.inl ⟨?hw24H23, ?hy24H23⟩) (by assumption) ?rest24H23
      case oi0_24H23 =>
        conv =>
          lhs
          whnf
          arg 1
          whnf
      case hq24H23 => exact fun _ _ _ h => h
      case ff24H23 => kernel_rfl
      case rr24H23 => kernel_rfl
      case hw24H23 => rfl
      case hy24H23 =>
        intro w hSw
        (try dsimp only at hSw)
        first
        | (go_simp; done)
        | (go_simp; with_reducible rfl)
      try simp only [Act.put, List.setIfInBounds_toArray, List.set_cons_zero, List.set_cons_succ]
      refine wpAnyH_take (i := 25) (oi := ?oi25H23) (v := ?v25H23) ?oi0_25H23 (by kernel_rfl) ?ff25H23 ?rr25H23 ?hq25H23 (Or.inl ⟨?hw25H23, ?hy25H23⟩) (by assumption) ?rest25H23
      case oi0_25H23 =>
        conv =>
          lhs
          whnf
          arg 1
          whnf
      case hq25H23 => exact fun _ _ _ h => h
      case ff25H23 => kernel_rfl
      case rr25H23 => kernel_rfl
      case hw25H23 => rfl
      case hy25H23 =>
        intro w hSw
        (try dsimp only at hSw)
        first
        | (go_simp; done)
        | (go_simp; with_reducible rfl)
      try simp only [Act.put, List.setIfInBounds_toArray, List.set_cons_zero, List.set_cons_succ]
      refine wpAnyH_take (i := 26) (oi := ?oi26H23) (v := ?v26H23) ?oi0_26H23 (by kernel_rfl) ?ff26H23 ?rr26H23 ?hq26H23 (Or.inl ⟨?hw26H23, ?hy26H23⟩) (by assumption) ?rest26H23
      case oi0_26H23 =>
        conv =>
          lhs
          whnf
          arg 1
          whnf
      case hq26H23 => exact fun _ _ _ h => h
      case ff26H23 => kernel_rfl
      case rr26H23 => kernel_rfl
      case hw26H23 => rfl
      case hy26H23 =>
        intro w hSw
        (try dsimp only at hSw)
        first
        | (go_simp; done)
        | (go_simp; with_reducible rfl)
      try simp only [Act.put, List.setIfInBounds_toArray, List.set_cons_zero, List.set_cons_succ]
      refine wpAnyH_take (i := 27) (oi := ?oi27H23) (v := ?v27H23) ?oi0_27H23 (by kernel_rfl) ?ff27H23 ?rr27H23 ?hq27H23 (Or.inl ⟨?hw27H23, ?hy27H23⟩) (by assumption) ?rest27H23
      case oi0_27H23 =>
        conv =>
          lhs
          whnf
          arg 1
          whnf
      case hq27H23 => exact fun _ _ _ h => h
      case ff27H23 => kernel_rfl
      case rr27H23 => kernel_rfl
      case hw27H23 => rfl
      case hy27H23 =>
        intro w hSw
        (try dsimp only at hSw)
        first
        | (go_simp; done)
        | (go_simp; with_reducible rfl)
      try simp only [Act.put, List.setIfInBounds_toArray, List.set_cons_zero, List.set_cons_succ]
      refine wpAnyH_take (i := 28) (oi := ?oi28H23) (v := ?v28H23) ?oi0_28H23 (by kernel_rfl) ?ff28H23 ?rr28H23 ?hq28H23 (Or.inl ⟨?hw28H23, ?hy28H23⟩) (by assumption) ?rest28H23
      case oi0_28H23 =>
        conv =>
          lhs
          whnf
          arg 1
          whnf
      case hq28H23 => exact fun _ _ _ h => h
      case ff28H23 => kernel_rfl
      case rr28H23 => kernel_rfl
      case hw28H23 => rfl
      case hy28H23 =>
        intro w hSw
        (try dsimp only at hSw)
        first
        | (go_simp; done)
        | (go_simp; with_reducible rfl)
      try simp only [Act.put, List.setIfInBounds_toArray, List.set_cons_zero, List.set_cons_succ]
      refine wpAnyH_take (i := 29) (oi := ?oi29H23) (v := ?v29H23) ?oi0_29H23 (by kernel_rfl) ?ff29H23 ?rr29H23 ?hq29H23 (Or.inl ⟨?hw29H23, ?hy29H23⟩) (by assumption) ?rest29H23
      case oi0_29H23 =>
        conv =>
          lhs
          whnf
          arg 1
          whnf
      case hq29H23 => exact fun _ _ _ h => h
      case ff29H23 => kernel_rfl
      case rr29H23 => kernel_rfl
      case hw29H23 => rfl
      case hy29H23 =>
        intro w hSw
        (try dsimp only at hSw)
        first
        | (go_simp; done)
        | (go_simp; with_reducible rfl)
      try simp only [Act.put, List.setIfInBounds_toArray, List.set_cons_zero, List.set_cons_succ]
      refine wpAnyH_take (i := 30) (oi := ?oi30H23) (v := ?v30H23) ?oi0_30H23 (by kernel_rfl) ?ff30H23 ?rr30H23 ?hq30H23 (Or.inl ⟨?hw30H23, ?hy30H23⟩) (by assumption) ?rest30H23
      case oi0_30H23 =>
        conv =>
          lhs
          whnf
          arg 1
          whnf
      case hq30H23 => exact fun _ _ _ h => h
      case ff30H23 => kernel_rfl
      case rr30H23 => kernel_rfl
      case hw30H23 => rfl
      case hy30H23 =>
        intro w hSw
        (try dsimp only at hSw)
        first
        | (go_simp; done)
        | (go_simp; with_reducible rfl)
      try simp only [Act.put, List.setIfInBounds_toArray, List.set_cons_zero, List.set_cons_succ]
      refine wpAnyH_take (i := 31) (oi := ?oi31H23) (v := ?v31H23) ?oi0_31H23 (by kernel_rfl) ?ff31H23 ?rr31H23 ?hq31H23 (Or.inl ⟨?hw31H23, ?hy31H23⟩) (by assumption) ?rest31H23
      case oi0_31H23 =>
        conv =>
          lhs
          whnf
          arg 1
          whnf
      case hq31H23 => exact fun _ _ _ h => h
      case ff31H23 => kernel_rfl
      case rr31H23 => kernel_rfl
      case hw31H23 => rfl
      case hy31H23 =>
        intro w hSw
        (try dsimp only at hSw)
        first
        | (go_simp; done)
        | (go_simp; with_reducible rfl)
      try simp only [Act.put, List.setIfInBounds_toArray, List.set_cons_zero, List.set_cons_succ]
      refine wpAnyH_take (i := 32) (oi := ?oi32H23) (v := ?v32H23) ?oi0_32H23 (by kernel_rfl) ?ff32H23 ?rr32H23 ?hq32H23 (Or.inl ⟨?hw32H23, ?hy32H23⟩) (by assumption) ?rest32H23
      case oi0_32H23 =>
        conv =>
          lhs
          whnf
          arg 1
          whnf
      case hq32H23 => exact fun _ _ _ h => h
      case ff32H23 => kernel_rfl
      case rr32H23 => kernel_rfl
      case hw32H23 => rfl
      case hy32H23 =>
        intro w hSw
        (try dsimp only at hSw)
        first
        | (go_simp; done)
        | (go_simp; with_reducible rfl)
      try simp only [Act.put, List.setIfInBounds_toArray, List.set_cons_zero, List.set_cons_succ]
      refine wpAnyH_take (i := 33) (oi := ?oi33H23) (v := ?v33H23) ?oi0_33H23 (by kernel_rfl) ?ff33H23 ?rr33H23 ?hq33H23 (Or.inl ⟨?hw33H23, ?hy33H23⟩) (by assumption) ?rest33H23
      case oi0_33H23 =>
        conv =>
          lhs
          whnf
          arg 1
          whnf
      case hq33H23 => exact fun _ _ _ h => h
      case ff33H23 => kernel_rfl
      case rr33H23 => kernel_rfl
      case hw33H23 => rfl
      case hy33H23 =>
        intro w hSw
        (try dsimp only at hSw)
        first
        | (go_simp; done)
        | (go_simp; with_reducible rfl)
      try simp only [Act.put, List.setIfInBounds_toArray, List.set_cons_zero, List.set_cons_succ]
      refine wpAnyH_done (by kernel_rfl) ?_ _
      have cx : wD.cell? ⟨lb, lo + k, none⟩ = some (.int .i64 x) := by rw [← hwD]; exact cx
      rw [hwD] at UD ⊢
      clear hwD
      by_cases e1 : x = n
      case pos =>
        have d1 : (x == n) = true := by simp [e1]
        go_wp2_with fail
        go_roundw
        case rel => exact ⟨k + 1, c + 1, by omega, by go_num, rfl, hide (by rw [HS.out]; rw [if_pos (.inl e1)]), UD⟩
        case measure => simp [intOf] <;> omega
      have d1 : (x == n) = false := by simp [e1]
      by_cases e2 : x = rest
      case pos =>
        have d2 : (x == rest) = true := by simp [e2]
        go_wp2_with fail
        go_roundw
        case rel => exact ⟨k + 1, c + 1, by omega, by go_num, rfl, hide (by rw [HS.out]; rw [if_pos (.inr e2)]), UD⟩
        case measure => simp [intOf] <;> omega
      have d2 : (x == rest) = false := by simp [e2]
      go_wp2_with fail
      go_roundw
      case rel => exact ⟨k + 1, c, by omega, by go_num, rfl, hide (by rw [HS.out]; rw [if_neg (fun h => h.elim e1 e2), Int.add_zero]), UD⟩
      case measure => simp [intOf] <;> omega
end Go.Proofs.Ytpkeimdlcafcnaa
