/-
  aircheckref07.Bent: a recording with something changed.
-/
import Derived.Test.YtpkeimdlcafcnaaIMade2
namespace Go.Proofs.Ytpkeimdlcafcnaa
open Go.RowKit Go.Shelf
set_option maxRecDepth 100000
set_option maxHeartbeats 40000000

theorem own_emptyS (base : Nat) (w : World) (hb : base ≤ w.heap.size) : (w.alloc (.cells #[] 53)).ownsRow base 53 2 (.slice (some ⟨w.heap.size, 0, none⟩) 0 0) 0 [] :=
  ⟨rfl, .inr ⟨w.heap.size, 0, #[], rfl, hb, heap_alloc_new w _, Nat.le_refl _, by decide, rfl, rfl⟩⟩
theorem sp_ones (l : List Sp) : ∀ u ∈ spCells l, u.oneCell' = true := by
  intro u hu
  obtain ⟨s, _, h⟩ := List.mem_flatMap.1 hu
  simp at h
  rcases h with rfl | rfl <;> rfl
theorem sps_src {n₀ : Nat} {w : World} {a : Option Addr} {l : List Sp} (h : SpsAt n₀ w a l) : (a = none ∧ l.length = 0) ∨ ∃ ad, a = some ad ∧ ∀ j u, (spCells l)[j]? = some u → w.cell? (ad.add j) = some u := by
  cases a with
  | none =>
    refine .inl ⟨rfl, ?_⟩
    cases l with
    | nil => rfl
    | cons s l => obtain ⟨_, _, e, _⟩ := h 0 s rfl; simp at e
  | some ad =>
    refine .inr ⟨ad, rfl, fun j u hj => ?_⟩
    have hl := (List.getElem?_eq_some_iff.1 hj).1
    rw [spCells_length] at hl
    obtain ⟨s, hs⟩ : ∃ s, l[j / 2]? = some s := ⟨_, List.getElem?_eq_getElem (by omega)⟩
    obtain ⟨b, o, e, _, c0, c1⟩ := h (j / 2) s hs
    obtain rfl := Option.some.inj e
    obtain ⟨g0, g1⟩ := spCells_at hs
    rw [plain_add rfl]
    rcases Nat.mod_two_eq_zero_or_one j with e | e
    · rw [show j / 2 * 2 = j by omega] at g0 c0
      rw [g0] at hj
      obtain rfl := Option.some.inj hj
      exact c0
    · rw [show j / 2 * 2 + 1 = j by omega] at g1
      rw [Nat.add_assoc, show j / 2 * 2 + 1 = j by omega] at c1
      rw [g1] at hj
      obtain rfl := Option.some.inj hj
      exact c1
def setFr (l : List Sp) (j : Nat) (n : Int) : List Sp := l.set j ⟨n, (l[j]?.getD ⟨0, 0⟩).to_⟩
def setTo (l : List Sp) (j : Nat) (n : Int) : List Sp := l.set j ⟨(l[j]?.getD ⟨0, 0⟩).fr, n⟩
theorem spCells_setFr : ∀ (l : List Sp) (j : Nat) (n : Int), (spCells l).set (j * 2) (.int .i64 n) = spCells (setFr l j n)
  | [], _, _ => rfl
  | s :: l, 0, n => rfl
  | s :: l, j + 1, n => by
    have e : ∀ (s : Sp) (l : List Sp), spCells (s :: l) = .int .i64 s.fr :: .int .i64 s.to_ :: spCells l := fun _ _ => rfl
    have h : setFr (s :: l) (j + 1) n = s :: setFr l j n := by unfold setFr; simp
    rw [h, e, e, ← spCells_setFr l j n, show (j + 1) * 2 = j * 2 + 1 + 1 by omega]
    rfl
theorem spCells_setTo : ∀ (l : List Sp) (j : Nat) (n : Int), (spCells l).set (j * 2 + 1) (.int .i64 n) = spCells (setTo l j n)
  | [], _, _ => rfl
  | s :: l, 0, n => rfl
  | s :: l, j + 1, n => by
    have e : ∀ (s : Sp) (l : List Sp), spCells (s :: l) = .int .i64 s.fr :: .int .i64 s.to_ :: spCells l := fun _ _ => rfl
    have h : setTo (s :: l) (j + 1) n = s :: setTo l j n := by unfold setTo; simp
    rw [h, e, e, ← spCells_setTo l j n, show (j + 1) * 2 + 1 = j * 2 + 1 + 1 + 1 by omega]
    rfl
def bentS (i : It) (how n at_ : Int) : It :=
  if pickS how 10 = 0 then { i with id := n } else if pickS how 10 = 1 then { i with kind := n } else if pickS how 10 = 2 then { i with len := n }
  else if pickS how 10 = 3 then { i with artist := n } else if pickS how 10 = 4 then { i with tempo := n } else if pickS how 10 = 5 then { i with lang := n }
  else if pickS how 10 = 6 then { i with trims := setFr i.trims (pickS at_ i.trims.length).toNat n }
  else if pickS how 10 = 7 then { i with trims := setTo i.trims (pickS at_ i.trims.length).toNat n }
  else if pickS how 10 = 8 then { i with talks := setTo i.talks (pickS at_ i.talks.length).toNat n }
  else { i with trims := i.trims ++ [⟨n, IntKind.i64.wrap (n + 1)⟩] }
theorem bent_end {w w6 w7 wf : World} {b3 b4 : Nat} {A3 A4 : Option Addr} {c3 c4 n3 n4 t1 t2 : Nat} {l3 l4 : List Sp} {cs ds : List Value} (u6 : Upd [] w w6) (u7 : Upd [w.heap.size] w6 w7) (uf : Upd [w.heap.size + 1] w7 wf)
    (hB : Blk w6 w.heap.size 24 cs) (hR : Blk w6 (w.heap.size + 1) 24 ds) (h3 : w6.ownsRow b3 53 2 (.slice A3 n3 c3) n3 (spCells l3)) (h4 : w6.ownsRow b4 53 2 (.slice A4 n4 c4) n4 (spCells l4)) (_ : t1 = t2) :
    Upd [] w wf ∧ SpsAt wf.heap.size wf A3 l3 ∧ SpsAt wf.heap.size wf A4 l4 := by
  have u : Upd [w.heap.size, w.heap.size + 1] w6 wf := (u7.mono (by simp)).trans uf (by simp)
  have key : ∀ {b n c : Nat} {A : Option Addr} {l : List Sp}, w6.ownsRow b 53 2 (.slice A n c) n (spCells l) → SpsAt wf.heap.size wf A l := fun h =>
    own_sps (own_kept h u (fun q hq hm => by
      rcases List.mem_cons.1 hm with e | hm
      · exact own_blk_ne h hB (by decide) q hq e
      · exact own_blk_ne h hR (by decide) q hq (by simpa using hm)))
  exact ⟨u6.trans u (fun x hx => .inr (by simp at hx; omega)), key h3, key h4⟩
theorem refBent (i : It) (ta : Option Addr) (tc : Nat) (ka : Option Addr) (kc : Nat) (how n at_ : Int) (w : World) (it : ItAt w i ta ka) (ht4 : i.trims.length ≤ 4) (hk4 : i.talks.length ≤ 4) (hhow : Fits64 how) (hn : Fits64 n) (hat : Fits64 at_) :
    Calls Try.prog 11 #[.agg #[.int .i64 i.id, .int .i64 i.kind, .int .i64 i.len, .slice ta i.trims.length tc, .slice ka i.talks.length kc, .int .i64 i.artist, .int .i64 i.tempo, .int .i64 i.lang], .int .i64 how, .int .i64 n, .int .i64 at_] w fun e w' => ∃ ta' tc' ka' kc', e = .returned (.agg #[.int .i64 (bentS i how n at_).id, .int .i64 (bentS i how n at_).kind, .int .i64 (bentS i how n at_).len, .slice ta' (bentS i how n at_).trims.length tc', .slice ka' (bentS i how n at_).talks.length kc', .int .i64 (bentS i how n at_).artist, .int .i64 (bentS i how n at_).tempo, .int .i64 (bentS i how n at_).lang]) ∧ ItAt w' (bentS i how n at_) ta' ka' ∧ Upd [] w w' := by
  go_enter Try.func11, Try.ntmps11
  go_upto_region 1 with fail
  obtain ⟨w1, hw1⟩ : ∃ x, w.alloc (.cells #[.int .i64 i.id, .int .i64 i.kind, .int .i64 i.len, .slice ta i.trims.length tc, .slice ka i.talks.length kc, .int .i64 i.artist, .int .i64 i.tempo, .int .i64 i.lang] 24) = x := ⟨_, rfl⟩
  have B1 : Blk w1 w.heap.size 24 [.int .i64 i.id, .int .i64 i.kind, .int .i64 i.len, .slice ta i.trims.length tc, .slice ka i.talks.length kc, .int .i64 i.artist, .int .i64 i.tempo, .int .i64 i.lang] := by rw [← hw1]; exact Blk.new w _ _
  have u1 : Upd [] w w1 := by rw [← hw1]; exact (Upd.refl [] _).alloc _
  have hz1 : w1.heap.size = w.heap.size + 1 := by rw [← hw1, World.size_alloc]
  rw [hw1]
  obtain ⟨w2, hw2⟩ : ∃ x, w1.alloc (.cells #[.int .i64 0, .int .i64 0, .int .i64 0, .slice none 0 0, .slice none 0 0, .int .i64 0, .int .i64 0, .int .i64 0] 24) = x := ⟨_, rfl⟩
  have B2 := hide (show Blk w2 w.heap.size 24 [.int .i64 i.id, .int .i64 i.kind, .int .i64 i.len, .slice ta i.trims.length tc, .slice ka i.talks.length kc, .int .i64 i.artist, .int .i64 i.tempo, .int .i64 i.lang] by rw [← hw2]; exact B1.alloc _)
  have R2 := hide (show Blk w2 (w.heap.size + 1) 24 [.int .i64 0, .int .i64 0, .int .i64 0, .slice none 0 0, .slice none 0 0, .int .i64 0, .int .i64 0, .int .i64 0] by rw [← hw2, ← hz1]; exact Blk.new w1 _ _)
  have UU2 := hide (show Upd [] w w2 by rw [← hw2]; exact u1.alloc _)
  have HZ2 := hide (show w2.heap.size = w.heap.size + 2 by rw [← hw2, World.size_alloc, hz1])
  rw [hw2]
  clear hw1 hw2 B1 u1 hz1
  have IT2 := hide (it.upd UU2.out)
  have B2a := hide (B2.out.alloc (.cells #[] 53))
  have O1 := hide (own_emptyS w2.heap.size w2 (Nat.le_refl _))
  have O2 := hide (sps_src ((IT2.out.upd ((Upd.refl [] w2).alloc (.cells #[] 53))).trims))
  have O5 := hide (show (spCells i.trims).length = i.trims.length * 2 from spCells_length _)
  have O6 := hide (sp_ones i.trims)
  have O3 := hide (show 0 + i.trims.length ≤ maxLen by unfold maxLen; omega)
  have O4 := hide (show (0 + i.trims.length) * 16 ≤ 140737488355328 by omega)
  have OB := hide (show w2.heap.size ≤ (w2.alloc (.cells #[] 53)).heap.size by rw [World.size_alloc]; omega)
  have hne : w.heap.size ∉ [w2.heap.size] := by have := HZ2.out; simp; omega
  have HNE := hide hne
  clear hne
  have m3 := B2a.out.cell 3
  go_upto_region 2 with (at_builtin; refine wpList_append_src rfl (.tmp 9) (.tmp 11) _ rfl w2.heap.size 53 _ 2 16 Try.underlying22 it_info_spell rfl (by decide) (some ⟨w2.heap.size, 0, none⟩) 0 0 [] rfl O1.out ta i.trims.length tc (spCells i.trims) rfl O5.out O2.out O6.out O3.out O4.out OB.out ?_; intro A3 c3 w3 h7 u7 a7; have H7 := hide h7; have U7 := hide u7; have Q7 := hide (B2a.out.upd u7 (by simpa using HNE.out)); have e3 := Q7.out.cell 3; have e4 := Q7.out.frozen 3; clear h7 u7 a7)
  have h7 := H7.out
  simp only [Nat.zero_add, List.nil_append] at h7
  have u7 := U7.out
  have us : Upd [] w2 w3 := ((Upd.refl [] w2).alloc (.cells #[] 53)).trans u7 (fun x hx => .inr (by simp at hx; omega))
  have b9 := Q7.out.set_ 3 (.slice A3 i.trims.length c3)
  have us9 : Upd [w.heap.size] w2 (w3.setCell ⟨w.heap.size, 3, none⟩ (.slice A3 i.trims.length c3)) := (us.mono (by simp)).setCell (p := ⟨w.heap.size, 3, none⟩) (.inl (by simp)) _
  have row9 : (w3.setCell ⟨w.heap.size, 3, none⟩ (.slice A3 i.trims.length c3)).ownsRow w2.heap.size 53 2 (.slice A3 i.trims.length c3) i.trims.length (spCells i.trims) := own_kept h7 ((Upd.refl [w.heap.size] w3).setCell (p := ⟨w.heap.size, 3, none⟩) (.inl (by simp)) _) (fun q hq hm => own_blk_ne h7 Q7.out (by decide) q hq (by simpa using hm))
  obtain ⟨w4, hw9⟩ : ∃ x, w3.setCell ⟨w.heap.size, 3, none⟩ (.slice A3 i.trims.length c3) = x := ⟨_, rfl⟩
  rw [hw9] at b9 us9 row9 ⊢
  have B4 := hide (show Blk w4 w.heap.size 24 [.int .i64 i.id, .int .i64 i.kind, .int .i64 i.len, .slice A3 i.trims.length c3, .slice ka i.talks.length kc, .int .i64 i.artist, .int .i64 i.tempo, .int .i64 i.lang] from b9)
  have R4 := hide (R2.out.upd us9 (by simp))
  have UU4 := hide (show Upd [] w w4 from UU2.out.trans us9 (by simp))
  have IT4 := hide (it.upd UU4.out)
  have ROW3 := hide (it_own_less row9 (base' := w2.heap.size) (by omega))
  have HZ4 := hide (show w.heap.size + 2 ≤ w4.heap.size by have := us9.size; have := HZ2.out; omega)
  clear O1 O2 O3 O4 O5 O6 OB HNE H7 U7 Q7 h7 u7 us b9 us9 row9 hw9 m3 e3 e4 B2a
  have HLT3 := hide (it_own_lt ROW3.out)
  have B4a := hide (B4.out.alloc (.cells #[] 53))
  have O1 := hide (own_emptyS w4.heap.size w4 (Nat.le_refl _))
  have O2 := hide (sps_src ((IT4.out.upd ((Upd.refl [] w4).alloc (.cells #[] 53))).talks))
  have O5 := hide (show (spCells i.talks).length = i.talks.length * 2 from spCells_length _)
  have O6 := hide (sp_ones i.talks)
  have O3 := hide (show 0 + i.talks.length ≤ maxLen by unfold maxLen; omega)
  have O4 := hide (show (0 + i.talks.length) * 16 ≤ 140737488355328 by omega)
  have OB := hide (show w4.heap.size ≤ (w4.alloc (.cells #[] 53)).heap.size by rw [World.size_alloc]; omega)
  have hne : w.heap.size ∉ [w4.heap.size] := by have := HZ4.out; simp; omega
  have HNE := hide hne
  clear hne
  have m4 := B4a.out.cell 4
  go_upto_region 3 with (at_builtin; refine wpList_append_src rfl (.tmp 14) (.tmp 16) _ rfl w4.heap.size 53 _ 2 16 Try.underlying22 it_info_spell rfl (by decide) (some ⟨w4.heap.size, 0, none⟩) 0 0 [] rfl O1.out ka i.talks.length kc (spCells i.talks) rfl O5.out O2.out O6.out O3.out O4.out OB.out ?_; intro A4 c4 w5 h7 u7 a7; have H7 := hide h7; have U7 := hide u7; have Q7 := hide (B4a.out.upd u7 (by simpa using HNE.out)); have e3 := Q7.out.cell 4; have e4 := Q7.out.frozen 4; clear h7 u7 a7)
  have h7 := H7.out
  simp only [Nat.zero_add, List.nil_append] at h7
  have u7 := U7.out
  have us : Upd [] w4 w5 := ((Upd.refl [] w4).alloc (.cells #[] 53)).trans u7 (fun x hx => .inr (by simp at hx; omega))
  have b9 := Q7.out.set_ 4 (.slice A4 i.talks.length c4)
  have us9 : Upd [w.heap.size] w4 (w5.setCell ⟨w.heap.size, 4, none⟩ (.slice A4 i.talks.length c4)) := (us.mono (by simp)).setCell (p := ⟨w.heap.size, 4, none⟩) (.inl (by simp)) _
  have row9 : (w5.setCell ⟨w.heap.size, 4, none⟩ (.slice A4 i.talks.length c4)).ownsRow w4.heap.size 53 2 (.slice A4 i.talks.length c4) i.talks.length (spCells i.talks) := own_kept h7 ((Upd.refl [w.heap.size] w5).setCell (p := ⟨w.heap.size, 4, none⟩) (.inl (by simp)) _) (fun q hq hm => own_blk_ne h7 Q7.out (by decide) q hq (by simpa using hm))
  obtain ⟨w6, hw9⟩ : ∃ x, w5.setCell ⟨w.heap.size, 4, none⟩ (.slice A4 i.talks.length c4) = x := ⟨_, rfl⟩
  rw [hw9] at b9 us9 row9 ⊢
  have B6 := hide (show Blk w6 w.heap.size 24 [.int .i64 i.id, .int .i64 i.kind, .int .i64 i.len, .slice A3 i.trims.length c3, .slice A4 i.talks.length c4, .int .i64 i.artist, .int .i64 i.tempo, .int .i64 i.lang] from b9)
  have R6 := hide (R4.out.upd us9 (by simp))
  have UU6 := hide (show Upd [] w w6 from UU4.out.trans us9 (by simp))
  have IT6 := hide (it.upd UU6.out)
  have ROW3 := hide (own_kept ROW3.out us9 (fun q hq hm => own_blk_ne ROW3.out B4.out (by decide) q hq (by simpa using hm)))
  have ROW4 := hide (it_own_less row9 (base' := w4.heap.size) (by omega))
  have HZ6 := hide (show w.heap.size + 2 ≤ w6.heap.size by have := us9.size; have := HZ4.out; omega)
  clear O1 O2 O3 O4 O5 O6 OB HNE H7 U7 Q7 h7 u7 us b9 us9 row9 hw9 m4 e3 e4 B4a
  obtain ⟨c, hc⟩ : ∃ c, pickS how 10 = c := ⟨_, rfl⟩
  have hcb := pickS_bounds how 10 (by omega)
  rw [hc] at hcb
  obtain ⟨hc0, hc1⟩ := hcb
  have PK := hide (refPick how 10 w6 hhow.1 hhow.2 (by omega) (by omega))
  rw [hc] at PK
  have HC := hide hc
  clear hc
  have m0 := B6.out.cell 0
  have m1 := B6.out.cell 1
  have m2 := B6.out.cell 2
  have m3 := B6.out.cell 3
  have m4 := B6.out.cell 4
  have m5 := B6.out.cell 5
  have m6 := B6.out.cell 6
  have m7 := B6.out.cell 7
  have f0 := B6.out.frozen 0
  have f1 := B6.out.frozen 1
  have f2 := B6.out.frozen 2
  have f3 := B6.out.frozen 3
  have f4 := B6.out.frozen 4
  have f5 := B6.out.frozen 5
  have f6 := B6.out.frozen 6
  have f7 := B6.out.frozen 7
  have hcases : c = 0 ∨ c = 1 ∨ c = 2 ∨ c = 3 ∨ c = 4 ∨ c = 5 ∨ c = 6 ∨ c = 7 ∨ c = 8 ∨ c = 9 := by omega
  clear hc0 hc1
  go_wp2_with fail
  refine (PK.out).mono ?_
  rintro e w' ⟨rfl, rfl⟩
  clear PK
  rcases hcases with rfl | rfl | rfl | rfl | rfl | rfl | rfl | rfl | rfl | rfl
  · have hcv : True := trivial
    obtain ⟨w7, hw7⟩ : ∃ x, w6.setCell ⟨w.heap.size, 0, none⟩ (.int .i64 n) = x := ⟨_, rfl⟩
    have B7 := hide (show Blk w7 w.heap.size 24 [.int .i64 n, .int .i64 i.kind, .int .i64 i.len, .slice A3 i.trims.length c3, .slice A4 i.talks.length c4, .int .i64 i.artist, .int .i64 i.tempo, .int .i64 i.lang] by rw [← hw7]; exact B6.out.set_ 0 (.int .i64 n))
    have u7 : Upd [w.heap.size] w6 w7 := by rw [← hw7]; exact (Upd.refl _ _).setCell (p := ⟨w.heap.size, 0, none⟩) (.inl (by simp)) _
    have R7 := hide (R6.out.upd u7 (by simp))
    have UW := hide u7
    have HW7 := hide hw7
    clear hw7 u7
    go_upto_region 26 with fail
    rw [HW7.out]
    clear HW7
    clear m0 f0 m1 f1 m2 f2 m3 f3 m4 f4 m5 f5 m6 f6 m7 f7
    have m0 := B7.out.cell 0
    have m1 := B7.out.cell 1
    have m2 := B7.out.cell 2
    have m3 := B7.out.cell 3
    have m4 := B7.out.cell 4
    have m5 := B7.out.cell 5
    have m6 := B7.out.cell 6
    have m7 := B7.out.cell 7
    have f0 := B7.out.frozen 0
    have f1 := B7.out.frozen 1
    have f2 := B7.out.frozen 2
    have f3 := B7.out.frozen 3
    have f4 := B7.out.frozen 4
    have f5 := B7.out.frozen 5
    have f6 := B7.out.frozen 6
    have f7 := B7.out.frozen 7
    have r0 := R7.out.cell 0
    have q0 := R7.out.frozen 0
    have r1 := R7.out.cell 1
    have q1 := R7.out.frozen 1
    have r2 := R7.out.cell 2
    have q2 := R7.out.frozen 2
    have r3 := R7.out.cell 3
    have q3 := R7.out.frozen 3
    have r4 := R7.out.cell 4
    have q4 := R7.out.frozen 4
    have r5 := R7.out.cell 5
    have q5 := R7.out.frozen 5
    have r6 := R7.out.cell 6
    have q6 := R7.out.frozen 6
    have r7 := R7.out.cell 7
    have q7 := R7.out.frozen 7
    go_wp2_with fail
    obtain ⟨wf, hwf⟩ : ∃ x, ((((((((w7.setCell ⟨w.heap.size + 1, 0, none⟩ (.int .i64 n)).setCell ⟨w.heap.size + 1, 1, none⟩ (.int .i64 i.kind)).setCell ⟨w.heap.size + 1, 2, none⟩ (.int .i64 i.len)).setCell ⟨w.heap.size + 1, 3, none⟩ (.slice A3 i.trims.length c3)).setCell ⟨w.heap.size + 1, 4, none⟩ (.slice A4 i.talks.length c4)).setCell ⟨w.heap.size + 1, 5, none⟩ (.int .i64 i.artist)).setCell ⟨w.heap.size + 1, 6, none⟩ (.int .i64 i.tempo)).setCell ⟨w.heap.size + 1, 7, none⟩ (.int .i64 i.lang)) = x := ⟨_, rfl⟩
    have bf : Blk wf (w.heap.size + 1) 24 [.int .i64 n, .int .i64 i.kind, .int .i64 i.len, .slice A3 i.trims.length c3, .slice A4 i.talks.length c4, .int .i64 i.artist, .int .i64 i.tempo, .int .i64 i.lang] := by rw [← hwf]; exact ((((((((R7.out.set_ 0 (.int .i64 n)).set_ 1 (.int .i64 i.kind)).set_ 2 (.int .i64 i.len)).set_ 3 (.slice A3 i.trims.length c3)).set_ 4 (.slice A4 i.talks.length c4)).set_ 5 (.int .i64 i.artist)).set_ 6 (.int .i64 i.tempo)).set_ 7 (.int .i64 i.lang))
    have uf : Upd [w.heap.size + 1] w7 wf := by rw [← hwf]; exact (((((((((Upd.refl [w.heap.size + 1] w7).setCell (p := ⟨w.heap.size + 1, 0, none⟩) (.inl (by simp)) _).setCell (p := ⟨w.heap.size + 1, 1, none⟩) (.inl (by simp)) _).setCell (p := ⟨w.heap.size + 1, 2, none⟩) (.inl (by simp)) _).setCell (p := ⟨w.heap.size + 1, 3, none⟩) (.inl (by simp)) _).setCell (p := ⟨w.heap.size + 1, 4, none⟩) (.inl (by simp)) _).setCell (p := ⟨w.heap.size + 1, 5, none⟩) (.inl (by simp)) _).setCell (p := ⟨w.heap.size + 1, 6, none⟩) (.inl (by simp)) _).setCell (p := ⟨w.heap.size + 1, 7, none⟩) (.inl (by simp)) _)
    rw [hwf]
    clear hwf
    have UF := hide uf
    clear uf
    have v0 := bf.cell 0
    have v1 := bf.cell 1
    have v2 := bf.cell 2
    have v3 := bf.cell 3
    have v4 := bf.cell 4
    have v5 := bf.cell 5
    have v6 := bf.cell 6
    have v7 := bf.cell 7
    refine bodyPost_ret (v := .agg #[.int .i64 n, .int .i64 i.kind, .int .i64 i.len, .slice A3 i.trims.length c3, .slice A4 i.talks.length c4, .int .i64 i.artist, .int .i64 i.tempo, .int .i64 i.lang]) (by simp [results, Try.results11, go_sem, v0, v1, v2, v3, v4, v5, v6, v7]) rfl ?_
    obtain ⟨uc, ut, uk⟩ := bent_end UU6.out UW.out UF.out B6.out R6.out ROW3.out ROW4.out HZ2.out
    have ej : bentS i how n at_ = { i with id := n } := by unfold bentS; simp [HC.out]
    rw [ej]
    exact ⟨A3, c3, A4, c4, rfl, ⟨ut, uk⟩, uc⟩
  · have hcv : True := trivial
    obtain ⟨w7, hw7⟩ : ∃ x, w6.setCell ⟨w.heap.size, 1, none⟩ (.int .i64 n) = x := ⟨_, rfl⟩
    have B7 := hide (show Blk w7 w.heap.size 24 [.int .i64 i.id, .int .i64 n, .int .i64 i.len, .slice A3 i.trims.length c3, .slice A4 i.talks.length c4, .int .i64 i.artist, .int .i64 i.tempo, .int .i64 i.lang] by rw [← hw7]; exact B6.out.set_ 1 (.int .i64 n))
    have u7 : Upd [w.heap.size] w6 w7 := by rw [← hw7]; exact (Upd.refl _ _).setCell (p := ⟨w.heap.size, 1, none⟩) (.inl (by simp)) _
    have R7 := hide (R6.out.upd u7 (by simp))
    have UW := hide u7
    have HW7 := hide hw7
    clear hw7 u7
    go_upto_region 26 with fail
    rw [HW7.out]
    clear HW7
    clear m0 f0 m1 f1 m2 f2 m3 f3 m4 f4 m5 f5 m6 f6 m7 f7
    have m0 := B7.out.cell 0
    have m1 := B7.out.cell 1
    have m2 := B7.out.cell 2
    have m3 := B7.out.cell 3
    have m4 := B7.out.cell 4
    have m5 := B7.out.cell 5
    have m6 := B7.out.cell 6
    have m7 := B7.out.cell 7
    have f0 := B7.out.frozen 0
    have f1 := B7.out.frozen 1
    have f2 := B7.out.frozen 2
    have f3 := B7.out.frozen 3
    have f4 := B7.out.frozen 4
    have f5 := B7.out.frozen 5
    have f6 := B7.out.frozen 6
    have f7 := B7.out.frozen 7
    have r0 := R7.out.cell 0
    have q0 := R7.out.frozen 0
    have r1 := R7.out.cell 1
    have q1 := R7.out.frozen 1
    have r2 := R7.out.cell 2
    have q2 := R7.out.frozen 2
    have r3 := R7.out.cell 3
    have q3 := R7.out.frozen 3
    have r4 := R7.out.cell 4
    have q4 := R7.out.frozen 4
    have r5 := R7.out.cell 5
    have q5 := R7.out.frozen 5
    have r6 := R7.out.cell 6
    have q6 := R7.out.frozen 6
    have r7 := R7.out.cell 7
    have q7 := R7.out.frozen 7
    go_wp2_with fail
    obtain ⟨wf, hwf⟩ : ∃ x, ((((((((w7.setCell ⟨w.heap.size + 1, 0, none⟩ (.int .i64 i.id)).setCell ⟨w.heap.size + 1, 1, none⟩ (.int .i64 n)).setCell ⟨w.heap.size + 1, 2, none⟩ (.int .i64 i.len)).setCell ⟨w.heap.size + 1, 3, none⟩ (.slice A3 i.trims.length c3)).setCell ⟨w.heap.size + 1, 4, none⟩ (.slice A4 i.talks.length c4)).setCell ⟨w.heap.size + 1, 5, none⟩ (.int .i64 i.artist)).setCell ⟨w.heap.size + 1, 6, none⟩ (.int .i64 i.tempo)).setCell ⟨w.heap.size + 1, 7, none⟩ (.int .i64 i.lang)) = x := ⟨_, rfl⟩
    have bf : Blk wf (w.heap.size + 1) 24 [.int .i64 i.id, .int .i64 n, .int .i64 i.len, .slice A3 i.trims.length c3, .slice A4 i.talks.length c4, .int .i64 i.artist, .int .i64 i.tempo, .int .i64 i.lang] := by rw [← hwf]; exact ((((((((R7.out.set_ 0 (.int .i64 i.id)).set_ 1 (.int .i64 n)).set_ 2 (.int .i64 i.len)).set_ 3 (.slice A3 i.trims.length c3)).set_ 4 (.slice A4 i.talks.length c4)).set_ 5 (.int .i64 i.artist)).set_ 6 (.int .i64 i.tempo)).set_ 7 (.int .i64 i.lang))
    have uf : Upd [w.heap.size + 1] w7 wf := by rw [← hwf]; exact (((((((((Upd.refl [w.heap.size + 1] w7).setCell (p := ⟨w.heap.size + 1, 0, none⟩) (.inl (by simp)) _).setCell (p := ⟨w.heap.size + 1, 1, none⟩) (.inl (by simp)) _).setCell (p := ⟨w.heap.size + 1, 2, none⟩) (.inl (by simp)) _).setCell (p := ⟨w.heap.size + 1, 3, none⟩) (.inl (by simp)) _).setCell (p := ⟨w.heap.size + 1, 4, none⟩) (.inl (by simp)) _).setCell (p := ⟨w.heap.size + 1, 5, none⟩) (.inl (by simp)) _).setCell (p := ⟨w.heap.size + 1, 6, none⟩) (.inl (by simp)) _).setCell (p := ⟨w.heap.size + 1, 7, none⟩) (.inl (by simp)) _)
    rw [hwf]
    clear hwf
    have UF := hide uf
    clear uf
    have v0 := bf.cell 0
    have v1 := bf.cell 1
    have v2 := bf.cell 2
    have v3 := bf.cell 3
    have v4 := bf.cell 4
    have v5 := bf.cell 5
    have v6 := bf.cell 6
    have v7 := bf.cell 7
    refine bodyPost_ret (v := .agg #[.int .i64 i.id, .int .i64 n, .int .i64 i.len, .slice A3 i.trims.length c3, .slice A4 i.talks.length c4, .int .i64 i.artist, .int .i64 i.tempo, .int .i64 i.lang]) (by simp [results, Try.results11, go_sem, v0, v1, v2, v3, v4, v5, v6, v7]) rfl ?_
    obtain ⟨uc, ut, uk⟩ := bent_end UU6.out UW.out UF.out B6.out R6.out ROW3.out ROW4.out HZ2.out
    have ej : bentS i how n at_ = { i with kind := n } := by unfold bentS; simp [HC.out]
    rw [ej]
    exact ⟨A3, c3, A4, c4, rfl, ⟨ut, uk⟩, uc⟩
  · have hcv : True := trivial
    obtain ⟨w7, hw7⟩ : ∃ x, w6.setCell ⟨w.heap.size, 2, none⟩ (.int .i64 n) = x := ⟨_, rfl⟩
    have B7 := hide (show Blk w7 w.heap.size 24 [.int .i64 i.id, .int .i64 i.kind, .int .i64 n, .slice A3 i.trims.length c3, .slice A4 i.talks.length c4, .int .i64 i.artist, .int .i64 i.tempo, .int .i64 i.lang] by rw [← hw7]; exact B6.out.set_ 2 (.int .i64 n))
    have u7 : Upd [w.heap.size] w6 w7 := by rw [← hw7]; exact (Upd.refl _ _).setCell (p := ⟨w.heap.size, 2, none⟩) (.inl (by simp)) _
    have R7 := hide (R6.out.upd u7 (by simp))
    have UW := hide u7
    have HW7 := hide hw7
    clear hw7 u7
    go_upto_region 26 with fail
    rw [HW7.out]
    clear HW7
    clear m0 f0 m1 f1 m2 f2 m3 f3 m4 f4 m5 f5 m6 f6 m7 f7
    have m0 := B7.out.cell 0
    have m1 := B7.out.cell 1
    have m2 := B7.out.cell 2
    have m3 := B7.out.cell 3
    have m4 := B7.out.cell 4
    have m5 := B7.out.cell 5
    have m6 := B7.out.cell 6
    have m7 := B7.out.cell 7
    have f0 := B7.out.frozen 0
    have f1 := B7.out.frozen 1
    have f2 := B7.out.frozen 2
    have f3 := B7.out.frozen 3
    have f4 := B7.out.frozen 4
    have f5 := B7.out.frozen 5
    have f6 := B7.out.frozen 6
    have f7 := B7.out.frozen 7
    have r0 := R7.out.cell 0
    have q0 := R7.out.frozen 0
    have r1 := R7.out.cell 1
    have q1 := R7.out.frozen 1
    have r2 := R7.out.cell 2
    have q2 := R7.out.frozen 2
    have r3 := R7.out.cell 3
    have q3 := R7.out.frozen 3
    have r4 := R7.out.cell 4
    have q4 := R7.out.frozen 4
    have r5 := R7.out.cell 5
    have q5 := R7.out.frozen 5
    have r6 := R7.out.cell 6
    have q6 := R7.out.frozen 6
    have r7 := R7.out.cell 7
    have q7 := R7.out.frozen 7
    go_wp2_with fail
    obtain ⟨wf, hwf⟩ : ∃ x, ((((((((w7.setCell ⟨w.heap.size + 1, 0, none⟩ (.int .i64 i.id)).setCell ⟨w.heap.size + 1, 1, none⟩ (.int .i64 i.kind)).setCell ⟨w.heap.size + 1, 2, none⟩ (.int .i64 n)).setCell ⟨w.heap.size + 1, 3, none⟩ (.slice A3 i.trims.length c3)).setCell ⟨w.heap.size + 1, 4, none⟩ (.slice A4 i.talks.length c4)).setCell ⟨w.heap.size + 1, 5, none⟩ (.int .i64 i.artist)).setCell ⟨w.heap.size + 1, 6, none⟩ (.int .i64 i.tempo)).setCell ⟨w.heap.size + 1, 7, none⟩ (.int .i64 i.lang)) = x := ⟨_, rfl⟩
    have bf : Blk wf (w.heap.size + 1) 24 [.int .i64 i.id, .int .i64 i.kind, .int .i64 n, .slice A3 i.trims.length c3, .slice A4 i.talks.length c4, .int .i64 i.artist, .int .i64 i.tempo, .int .i64 i.lang] := by rw [← hwf]; exact ((((((((R7.out.set_ 0 (.int .i64 i.id)).set_ 1 (.int .i64 i.kind)).set_ 2 (.int .i64 n)).set_ 3 (.slice A3 i.trims.length c3)).set_ 4 (.slice A4 i.talks.length c4)).set_ 5 (.int .i64 i.artist)).set_ 6 (.int .i64 i.tempo)).set_ 7 (.int .i64 i.lang))
    have uf : Upd [w.heap.size + 1] w7 wf := by rw [← hwf]; exact (((((((((Upd.refl [w.heap.size + 1] w7).setCell (p := ⟨w.heap.size + 1, 0, none⟩) (.inl (by simp)) _).setCell (p := ⟨w.heap.size + 1, 1, none⟩) (.inl (by simp)) _).setCell (p := ⟨w.heap.size + 1, 2, none⟩) (.inl (by simp)) _).setCell (p := ⟨w.heap.size + 1, 3, none⟩) (.inl (by simp)) _).setCell (p := ⟨w.heap.size + 1, 4, none⟩) (.inl (by simp)) _).setCell (p := ⟨w.heap.size + 1, 5, none⟩) (.inl (by simp)) _).setCell (p := ⟨w.heap.size + 1, 6, none⟩) (.inl (by simp)) _).setCell (p := ⟨w.heap.size + 1, 7, none⟩) (.inl (by simp)) _)
    rw [hwf]
    clear hwf
    have UF := hide uf
    clear uf
    have v0 := bf.cell 0
    have v1 := bf.cell 1
    have v2 := bf.cell 2
    have v3 := bf.cell 3
    have v4 := bf.cell 4
    have v5 := bf.cell 5
    have v6 := bf.cell 6
    have v7 := bf.cell 7
    refine bodyPost_ret (v := .agg #[.int .i64 i.id, .int .i64 i.kind, .int .i64 n, .slice A3 i.trims.length c3, .slice A4 i.talks.length c4, .int .i64 i.artist, .int .i64 i.tempo, .int .i64 i.lang]) (by simp [results, Try.results11, go_sem, v0, v1, v2, v3, v4, v5, v6, v7]) rfl ?_
    obtain ⟨uc, ut, uk⟩ := bent_end UU6.out UW.out UF.out B6.out R6.out ROW3.out ROW4.out HZ2.out
    have ej : bentS i how n at_ = { i with len := n } := by unfold bentS; simp [HC.out]
    rw [ej]
    exact ⟨A3, c3, A4, c4, rfl, ⟨ut, uk⟩, uc⟩
  · have hcv : True := trivial
    obtain ⟨w7, hw7⟩ : ∃ x, w6.setCell ⟨w.heap.size, 5, none⟩ (.int .i64 n) = x := ⟨_, rfl⟩
    have B7 := hide (show Blk w7 w.heap.size 24 [.int .i64 i.id, .int .i64 i.kind, .int .i64 i.len, .slice A3 i.trims.length c3, .slice A4 i.talks.length c4, .int .i64 n, .int .i64 i.tempo, .int .i64 i.lang] by rw [← hw7]; exact B6.out.set_ 5 (.int .i64 n))
    have u7 : Upd [w.heap.size] w6 w7 := by rw [← hw7]; exact (Upd.refl _ _).setCell (p := ⟨w.heap.size, 5, none⟩) (.inl (by simp)) _
    have R7 := hide (R6.out.upd u7 (by simp))
    have UW := hide u7
    have HW7 := hide hw7
    clear hw7 u7
    go_upto_region 26 with fail
    rw [HW7.out]
    clear HW7
    clear m0 f0 m1 f1 m2 f2 m3 f3 m4 f4 m5 f5 m6 f6 m7 f7
    have m0 := B7.out.cell 0
    have m1 := B7.out.cell 1
    have m2 := B7.out.cell 2
    have m3 := B7.out.cell 3
    have m4 := B7.out.cell 4
    have m5 := B7.out.cell 5
    have m6 := B7.out.cell 6
    have m7 := B7.out.cell 7
    have f0 := B7.out.frozen 0
    have f1 := B7.out.frozen 1
    have f2 := B7.out.frozen 2
    have f3 := B7.out.frozen 3
    have f4 := B7.out.frozen 4
    have f5 := B7.out.frozen 5
    have f6 := B7.out.frozen 6
    have f7 := B7.out.frozen 7
    have r0 := R7.out.cell 0
    have q0 := R7.out.frozen 0
    have r1 := R7.out.cell 1
    have q1 := R7.out.frozen 1
    have r2 := R7.out.cell 2
    have q2 := R7.out.frozen 2
    have r3 := R7.out.cell 3
    have q3 := R7.out.frozen 3
    have r4 := R7.out.cell 4
    have q4 := R7.out.frozen 4
    have r5 := R7.out.cell 5
    have q5 := R7.out.frozen 5
    have r6 := R7.out.cell 6
    have q6 := R7.out.frozen 6
    have r7 := R7.out.cell 7
    have q7 := R7.out.frozen 7
    go_wp2_with fail
    obtain ⟨wf, hwf⟩ : ∃ x, ((((((((w7.setCell ⟨w.heap.size + 1, 0, none⟩ (.int .i64 i.id)).setCell ⟨w.heap.size + 1, 1, none⟩ (.int .i64 i.kind)).setCell ⟨w.heap.size + 1, 2, none⟩ (.int .i64 i.len)).setCell ⟨w.heap.size + 1, 3, none⟩ (.slice A3 i.trims.length c3)).setCell ⟨w.heap.size + 1, 4, none⟩ (.slice A4 i.talks.length c4)).setCell ⟨w.heap.size + 1, 5, none⟩ (.int .i64 n)).setCell ⟨w.heap.size + 1, 6, none⟩ (.int .i64 i.tempo)).setCell ⟨w.heap.size + 1, 7, none⟩ (.int .i64 i.lang)) = x := ⟨_, rfl⟩
    have bf : Blk wf (w.heap.size + 1) 24 [.int .i64 i.id, .int .i64 i.kind, .int .i64 i.len, .slice A3 i.trims.length c3, .slice A4 i.talks.length c4, .int .i64 n, .int .i64 i.tempo, .int .i64 i.lang] := by rw [← hwf]; exact ((((((((R7.out.set_ 0 (.int .i64 i.id)).set_ 1 (.int .i64 i.kind)).set_ 2 (.int .i64 i.len)).set_ 3 (.slice A3 i.trims.length c3)).set_ 4 (.slice A4 i.talks.length c4)).set_ 5 (.int .i64 n)).set_ 6 (.int .i64 i.tempo)).set_ 7 (.int .i64 i.lang))
    have uf : Upd [w.heap.size + 1] w7 wf := by rw [← hwf]; exact (((((((((Upd.refl [w.heap.size + 1] w7).setCell (p := ⟨w.heap.size + 1, 0, none⟩) (.inl (by simp)) _).setCell (p := ⟨w.heap.size + 1, 1, none⟩) (.inl (by simp)) _).setCell (p := ⟨w.heap.size + 1, 2, none⟩) (.inl (by simp)) _).setCell (p := ⟨w.heap.size + 1, 3, none⟩) (.inl (by simp)) _).setCell (p := ⟨w.heap.size + 1, 4, none⟩) (.inl (by simp)) _).setCell (p := ⟨w.heap.size + 1, 5, none⟩) (.inl (by simp)) _).setCell (p := ⟨w.heap.size + 1, 6, none⟩) (.inl (by simp)) _).setCell (p := ⟨w.heap.size + 1, 7, none⟩) (.inl (by simp)) _)
    rw [hwf]
    clear hwf
    have UF := hide uf
    clear uf
    have v0 := bf.cell 0
    have v1 := bf.cell 1
    have v2 := bf.cell 2
    have v3 := bf.cell 3
    have v4 := bf.cell 4
    have v5 := bf.cell 5
    have v6 := bf.cell 6
    have v7 := bf.cell 7
    refine bodyPost_ret (v := .agg #[.int .i64 i.id, .int .i64 i.kind, .int .i64 i.len, .slice A3 i.trims.length c3, .slice A4 i.talks.length c4, .int .i64 n, .int .i64 i.tempo, .int .i64 i.lang]) (by simp [results, Try.results11, go_sem, v0, v1, v2, v3, v4, v5, v6, v7]) rfl ?_
    obtain ⟨uc, ut, uk⟩ := bent_end UU6.out UW.out UF.out B6.out R6.out ROW3.out ROW4.out HZ2.out
    have ej : bentS i how n at_ = { i with artist := n } := by unfold bentS; simp [HC.out]
    rw [ej]
    exact ⟨A3, c3, A4, c4, rfl, ⟨ut, uk⟩, uc⟩
  · have hcv : True := trivial
    obtain ⟨w7, hw7⟩ : ∃ x, w6.setCell ⟨w.heap.size, 6, none⟩ (.int .i64 n) = x := ⟨_, rfl⟩
    have B7 := hide (show Blk w7 w.heap.size 24 [.int .i64 i.id, .int .i64 i.kind, .int .i64 i.len, .slice A3 i.trims.length c3, .slice A4 i.talks.length c4, .int .i64 i.artist, .int .i64 n, .int .i64 i.lang] by rw [← hw7]; exact B6.out.set_ 6 (.int .i64 n))
    have u7 : Upd [w.heap.size] w6 w7 := by rw [← hw7]; exact (Upd.refl _ _).setCell (p := ⟨w.heap.size, 6, none⟩) (.inl (by simp)) _
    have R7 := hide (R6.out.upd u7 (by simp))
    have UW := hide u7
    have HW7 := hide hw7
    clear hw7 u7
    go_upto_region 26 with fail
    rw [HW7.out]
    clear HW7
    clear m0 f0 m1 f1 m2 f2 m3 f3 m4 f4 m5 f5 m6 f6 m7 f7
    have m0 := B7.out.cell 0
    have m1 := B7.out.cell 1
    have m2 := B7.out.cell 2
    have m3 := B7.out.cell 3
    have m4 := B7.out.cell 4
    have m5 := B7.out.cell 5
    have m6 := B7.out.cell 6
    have m7 := B7.out.cell 7
    have f0 := B7.out.frozen 0
    have f1 := B7.out.frozen 1
    have f2 := B7.out.frozen 2
    have f3 := B7.out.frozen 3
    have f4 := B7.out.frozen 4
    have f5 := B7.out.frozen 5
    have f6 := B7.out.frozen 6
    have f7 := B7.out.frozen 7
    have r0 := R7.out.cell 0
    have q0 := R7.out.frozen 0
    have r1 := R7.out.cell 1
    have q1 := R7.out.frozen 1
    have r2 := R7.out.cell 2
    have q2 := R7.out.frozen 2
    have r3 := R7.out.cell 3
    have q3 := R7.out.frozen 3
    have r4 := R7.out.cell 4
    have q4 := R7.out.frozen 4
    have r5 := R7.out.cell 5
    have q5 := R7.out.frozen 5
    have r6 := R7.out.cell 6
    have q6 := R7.out.frozen 6
    have r7 := R7.out.cell 7
    have q7 := R7.out.frozen 7
    go_wp2_with fail
    obtain ⟨wf, hwf⟩ : ∃ x, ((((((((w7.setCell ⟨w.heap.size + 1, 0, none⟩ (.int .i64 i.id)).setCell ⟨w.heap.size + 1, 1, none⟩ (.int .i64 i.kind)).setCell ⟨w.heap.size + 1, 2, none⟩ (.int .i64 i.len)).setCell ⟨w.heap.size + 1, 3, none⟩ (.slice A3 i.trims.length c3)).setCell ⟨w.heap.size + 1, 4, none⟩ (.slice A4 i.talks.length c4)).setCell ⟨w.heap.size + 1, 5, none⟩ (.int .i64 i.artist)).setCell ⟨w.heap.size + 1, 6, none⟩ (.int .i64 n)).setCell ⟨w.heap.size + 1, 7, none⟩ (.int .i64 i.lang)) = x := ⟨_, rfl⟩
    have bf : Blk wf (w.heap.size + 1) 24 [.int .i64 i.id, .int .i64 i.kind, .int .i64 i.len, .slice A3 i.trims.length c3, .slice A4 i.talks.length c4, .int .i64 i.artist, .int .i64 n, .int .i64 i.lang] := by rw [← hwf]; exact ((((((((R7.out.set_ 0 (.int .i64 i.id)).set_ 1 (.int .i64 i.kind)).set_ 2 (.int .i64 i.len)).set_ 3 (.slice A3 i.trims.length c3)).set_ 4 (.slice A4 i.talks.length c4)).set_ 5 (.int .i64 i.artist)).set_ 6 (.int .i64 n)).set_ 7 (.int .i64 i.lang))
    have uf : Upd [w.heap.size + 1] w7 wf := by rw [← hwf]; exact (((((((((Upd.refl [w.heap.size + 1] w7).setCell (p := ⟨w.heap.size + 1, 0, none⟩) (.inl (by simp)) _).setCell (p := ⟨w.heap.size + 1, 1, none⟩) (.inl (by simp)) _).setCell (p := ⟨w.heap.size + 1, 2, none⟩) (.inl (by simp)) _).setCell (p := ⟨w.heap.size + 1, 3, none⟩) (.inl (by simp)) _).setCell (p := ⟨w.heap.size + 1, 4, none⟩) (.inl (by simp)) _).setCell (p := ⟨w.heap.size + 1, 5, none⟩) (.inl (by simp)) _).setCell (p := ⟨w.heap.size + 1, 6, none⟩) (.inl (by simp)) _).setCell (p := ⟨w.heap.size + 1, 7, none⟩) (.inl (by simp)) _)
    rw [hwf]
    clear hwf
    have UF := hide uf
    clear uf
    have v0 := bf.cell 0
    have v1 := bf.cell 1
    have v2 := bf.cell 2
    have v3 := bf.cell 3
    have v4 := bf.cell 4
    have v5 := bf.cell 5
    have v6 := bf.cell 6
    have v7 := bf.cell 7
    refine bodyPost_ret (v := .agg #[.int .i64 i.id, .int .i64 i.kind, .int .i64 i.len, .slice A3 i.trims.length c3, .slice A4 i.talks.length c4, .int .i64 i.artist, .int .i64 n, .int .i64 i.lang]) (by simp [results, Try.results11, go_sem, v0, v1, v2, v3, v4, v5, v6, v7]) rfl ?_
    obtain ⟨uc, ut, uk⟩ := bent_end UU6.out UW.out UF.out B6.out R6.out ROW3.out ROW4.out HZ2.out
    have ej : bentS i how n at_ = { i with tempo := n } := by unfold bentS; simp [HC.out]
    rw [ej]
    exact ⟨A3, c3, A4, c4, rfl, ⟨ut, uk⟩, uc⟩
  · have hcv : True := trivial
    obtain ⟨w7, hw7⟩ : ∃ x, w6.setCell ⟨w.heap.size, 7, none⟩ (.int .i64 n) = x := ⟨_, rfl⟩
    have B7 := hide (show Blk w7 w.heap.size 24 [.int .i64 i.id, .int .i64 i.kind, .int .i64 i.len, .slice A3 i.trims.length c3, .slice A4 i.talks.length c4, .int .i64 i.artist, .int .i64 i.tempo, .int .i64 n] by rw [← hw7]; exact B6.out.set_ 7 (.int .i64 n))
    have u7 : Upd [w.heap.size] w6 w7 := by rw [← hw7]; exact (Upd.refl _ _).setCell (p := ⟨w.heap.size, 7, none⟩) (.inl (by simp)) _
    have R7 := hide (R6.out.upd u7 (by simp))
    have UW := hide u7
    have HW7 := hide hw7
    clear hw7 u7
    go_upto_region 26 with fail
    rw [HW7.out]
    clear HW7
    clear m0 f0 m1 f1 m2 f2 m3 f3 m4 f4 m5 f5 m6 f6 m7 f7
    have m0 := B7.out.cell 0
    have m1 := B7.out.cell 1
    have m2 := B7.out.cell 2
    have m3 := B7.out.cell 3
    have m4 := B7.out.cell 4
    have m5 := B7.out.cell 5
    have m6 := B7.out.cell 6
    have m7 := B7.out.cell 7
    have f0 := B7.out.frozen 0
    have f1 := B7.out.frozen 1
    have f2 := B7.out.frozen 2
    have f3 := B7.out.frozen 3
    have f4 := B7.out.frozen 4
    have f5 := B7.out.frozen 5
    have f6 := B7.out.frozen 6
    have f7 := B7.out.frozen 7
    have r0 := R7.out.cell 0
    have q0 := R7.out.frozen 0
    have r1 := R7.out.cell 1
    have q1 := R7.out.frozen 1
    have r2 := R7.out.cell 2
    have q2 := R7.out.frozen 2
    have r3 := R7.out.cell 3
    have q3 := R7.out.frozen 3
    have r4 := R7.out.cell 4
    have q4 := R7.out.frozen 4
    have r5 := R7.out.cell 5
    have q5 := R7.out.frozen 5
    have r6 := R7.out.cell 6
    have q6 := R7.out.frozen 6
    have r7 := R7.out.cell 7
    have q7 := R7.out.frozen 7
    go_wp2_with fail
    obtain ⟨wf, hwf⟩ : ∃ x, ((((((((w7.setCell ⟨w.heap.size + 1, 0, none⟩ (.int .i64 i.id)).setCell ⟨w.heap.size + 1, 1, none⟩ (.int .i64 i.kind)).setCell ⟨w.heap.size + 1, 2, none⟩ (.int .i64 i.len)).setCell ⟨w.heap.size + 1, 3, none⟩ (.slice A3 i.trims.length c3)).setCell ⟨w.heap.size + 1, 4, none⟩ (.slice A4 i.talks.length c4)).setCell ⟨w.heap.size + 1, 5, none⟩ (.int .i64 i.artist)).setCell ⟨w.heap.size + 1, 6, none⟩ (.int .i64 i.tempo)).setCell ⟨w.heap.size + 1, 7, none⟩ (.int .i64 n)) = x := ⟨_, rfl⟩
    have bf : Blk wf (w.heap.size + 1) 24 [.int .i64 i.id, .int .i64 i.kind, .int .i64 i.len, .slice A3 i.trims.length c3, .slice A4 i.talks.length c4, .int .i64 i.artist, .int .i64 i.tempo, .int .i64 n] := by rw [← hwf]; exact ((((((((R7.out.set_ 0 (.int .i64 i.id)).set_ 1 (.int .i64 i.kind)).set_ 2 (.int .i64 i.len)).set_ 3 (.slice A3 i.trims.length c3)).set_ 4 (.slice A4 i.talks.length c4)).set_ 5 (.int .i64 i.artist)).set_ 6 (.int .i64 i.tempo)).set_ 7 (.int .i64 n))
    have uf : Upd [w.heap.size + 1] w7 wf := by rw [← hwf]; exact (((((((((Upd.refl [w.heap.size + 1] w7).setCell (p := ⟨w.heap.size + 1, 0, none⟩) (.inl (by simp)) _).setCell (p := ⟨w.heap.size + 1, 1, none⟩) (.inl (by simp)) _).setCell (p := ⟨w.heap.size + 1, 2, none⟩) (.inl (by simp)) _).setCell (p := ⟨w.heap.size + 1, 3, none⟩) (.inl (by simp)) _).setCell (p := ⟨w.heap.size + 1, 4, none⟩) (.inl (by simp)) _).setCell (p := ⟨w.heap.size + 1, 5, none⟩) (.inl (by simp)) _).setCell (p := ⟨w.heap.size + 1, 6, none⟩) (.inl (by simp)) _).setCell (p := ⟨w.heap.size + 1, 7, none⟩) (.inl (by simp)) _)
    rw [hwf]
    clear hwf
    have UF := hide uf
    clear uf
    have v0 := bf.cell 0
    have v1 := bf.cell 1
    have v2 := bf.cell 2
    have v3 := bf.cell 3
    have v4 := bf.cell 4
    have v5 := bf.cell 5
    have v6 := bf.cell 6
    have v7 := bf.cell 7
    refine bodyPost_ret (v := .agg #[.int .i64 i.id, .int .i64 i.kind, .int .i64 i.len, .slice A3 i.trims.length c3, .slice A4 i.talks.length c4, .int .i64 i.artist, .int .i64 i.tempo, .int .i64 n]) (by simp [results, Try.results11, go_sem, v0, v1, v2, v3, v4, v5, v6, v7]) rfl ?_
    obtain ⟨uc, ut, uk⟩ := bent_end UU6.out UW.out UF.out B6.out R6.out ROW3.out ROW4.out HZ2.out
    have ej : bentS i how n at_ = { i with lang := n } := by unfold bentS; simp [HC.out]
    rw [ej]
    exact ⟨A3, c3, A4, c4, rfl, ⟨ut, uk⟩, uc⟩
  · have hcv : True := trivial
    by_cases h0 : i.trims.length = 0
    case pos =>
      have hgt : ¬ (0 : Int) < (i.trims.length : Int) := by omega
      have hgtd : decide ((0 : Int) < (i.trims.length : Int)) = false := decide_eq_false hgt
      have HL0 := hide (show i.trims = [] from List.eq_nil_of_length_eq_zero h0)
      clear h0
      go_upto_region 26 with fail
      have r0 := R6.out.cell 0
      have q0 := R6.out.frozen 0
      have r1 := R6.out.cell 1
      have q1 := R6.out.frozen 1
      have r2 := R6.out.cell 2
      have q2 := R6.out.frozen 2
      have r3 := R6.out.cell 3
      have q3 := R6.out.frozen 3
      have r4 := R6.out.cell 4
      have q4 := R6.out.frozen 4
      have r5 := R6.out.cell 5
      have q5 := R6.out.frozen 5
      have r6 := R6.out.cell 6
      have q6 := R6.out.frozen 6
      have r7 := R6.out.cell 7
      have q7 := R6.out.frozen 7
      go_wp2_with fail
      obtain ⟨wf, hwf⟩ : ∃ x, ((((((((w6.setCell ⟨w.heap.size + 1, 0, none⟩ (.int .i64 i.id)).setCell ⟨w.heap.size + 1, 1, none⟩ (.int .i64 i.kind)).setCell ⟨w.heap.size + 1, 2, none⟩ (.int .i64 i.len)).setCell ⟨w.heap.size + 1, 3, none⟩ (.slice A3 i.trims.length c3)).setCell ⟨w.heap.size + 1, 4, none⟩ (.slice A4 i.talks.length c4)).setCell ⟨w.heap.size + 1, 5, none⟩ (.int .i64 i.artist)).setCell ⟨w.heap.size + 1, 6, none⟩ (.int .i64 i.tempo)).setCell ⟨w.heap.size + 1, 7, none⟩ (.int .i64 i.lang)) = x := ⟨_, rfl⟩
      have bf : Blk wf (w.heap.size + 1) 24 [.int .i64 i.id, .int .i64 i.kind, .int .i64 i.len, .slice A3 i.trims.length c3, .slice A4 i.talks.length c4, .int .i64 i.artist, .int .i64 i.tempo, .int .i64 i.lang] := by rw [← hwf]; exact ((((((((R6.out.set_ 0 (.int .i64 i.id)).set_ 1 (.int .i64 i.kind)).set_ 2 (.int .i64 i.len)).set_ 3 (.slice A3 i.trims.length c3)).set_ 4 (.slice A4 i.talks.length c4)).set_ 5 (.int .i64 i.artist)).set_ 6 (.int .i64 i.tempo)).set_ 7 (.int .i64 i.lang))
      have uf : Upd [w.heap.size + 1] w6 wf := by rw [← hwf]; exact (((((((((Upd.refl [w.heap.size + 1] w6).setCell (p := ⟨w.heap.size + 1, 0, none⟩) (.inl (by simp)) _).setCell (p := ⟨w.heap.size + 1, 1, none⟩) (.inl (by simp)) _).setCell (p := ⟨w.heap.size + 1, 2, none⟩) (.inl (by simp)) _).setCell (p := ⟨w.heap.size + 1, 3, none⟩) (.inl (by simp)) _).setCell (p := ⟨w.heap.size + 1, 4, none⟩) (.inl (by simp)) _).setCell (p := ⟨w.heap.size + 1, 5, none⟩) (.inl (by simp)) _).setCell (p := ⟨w.heap.size + 1, 6, none⟩) (.inl (by simp)) _).setCell (p := ⟨w.heap.size + 1, 7, none⟩) (.inl (by simp)) _)
      rw [hwf]
      clear hwf
      have UF := hide uf
      clear uf
      have v0 := bf.cell 0
      have v1 := bf.cell 1
      have v2 := bf.cell 2
      have v3 := bf.cell 3
      have v4 := bf.cell 4
      have v5 := bf.cell 5
      have v6 := bf.cell 6
      have v7 := bf.cell 7
      refine bodyPost_ret (v := .agg #[.int .i64 i.id, .int .i64 i.kind, .int .i64 i.len, .slice A3 i.trims.length c3, .slice A4 i.talks.length c4, .int .i64 i.artist, .int .i64 i.tempo, .int .i64 i.lang]) (by simp [results, Try.results11, go_sem, v0, v1, v2, v3, v4, v5, v6, v7]) rfl ?_
      obtain ⟨uc, ut, uk⟩ := bent_end UU6.out (Upd.refl _ _) UF.out B6.out R6.out ROW3.out ROW4.out HZ2.out
      have ej : bentS i how n at_ = { i with trims := setFr i.trims (pickS at_ i.trims.length).toNat n } := by unfold bentS; simp [HC.out]
      rw [ej]
      have ee : setFr i.trims (pickS at_ i.trims.length).toNat n = i.trims := by rw [HL0.out]; rfl
      rw [ee]
      exact ⟨A3, c3, A4, c4, rfl, ⟨ut, uk⟩, uc⟩
    have hgt : (0 : Int) < i.trims.length := by omega
    have hgtn : 0 < i.trims.length := by omega
    obtain ⟨jj, hj⟩ : ∃ a, pickS at_ i.trims.length = a := ⟨_, rfl⟩
    have hjb := pickS_bounds at_ i.trims.length (by omega)
    rw [hj] at hjb
    have PA := fun W => refPick at_ i.trims.length W hat.1 hat.2 (by omega) (by omega)
    obtain ⟨j, rfl⟩ : ∃ j : Nat, jj = (j : Int) := ⟨jj.toNat, by omega⟩
    simp only [hj] at PA
    have HPA := hide PA
    have HJ := hide hj
    clear PA hj
    have hjl : j < i.trims.length := by omega
    have hji : (j : Int) < i.trims.length := by omega
    clear hjb h0
    obtain ⟨g, cur, eA, hgb, hgc⟩ := it_own_some ROW3.out (by omega)
    subst eA
    have BG := hide (show Blk w6 g 53 cur.toList by show w6.heap[g]? = _; rw [hgc])
    clear hgc
    obtain ⟨sp, hsp⟩ : ∃ sp, i.trims[j]? = some sp := ⟨_, List.getElem?_eq_getElem hjl⟩
    obtain ⟨b, o, eb, _, c0, c1⟩ := own_sps ROW3.out j sp hsp
    injection eb with eb
    injection eb with e1 e2
    subst e1 e2
    rw [Nat.zero_add] at c0 c1
    have fz := BG.out.frozen (j * 2)
    have HGB := hide hgb
    clear hsp hgb
    go_upto_region 19 with fail
    have ce' : w6.drew.cell? ⟨g, j * 2, none⟩ = some (.int .i64 sp.fr) := c0
    have fe' : w6.drew.frozen? ⟨g, j * 2, none⟩ = false := fz
    have HNE := hide (show g ≠ w.heap.size from BG.out.ne_ B6.out (by decide))
    have HNR := hide (show g ≠ w.heap.size + 1 from BG.out.ne_ R6.out (by decide))
    refine wp_region_held_drew (S := (fun w' => w'.cell? ⟨w.heap.size, 3, none⟩ = some (.slice (some ⟨g, 0, none⟩) i.trims.length c3))) (by kernel_rfl) (by exact m3) (fun hHeld => ?_)
    refine wpAnyH_take (i := 0) (oi := ?oi0B1) (v := ?v0B1) ?oi0_0B1 (by kernel_rfl) ?ff0B1 ?rr0B1 ?hq0B1 (Or.inl ⟨?hw0B1, ?hy0B1⟩) (by assumption) ?rest0B1
    case oi0_0B1 =>
      conv =>
        lhs
        whnf
        arg 1
        whnf
    case hq0B1 => exact fun _ _ _ h => h
    case ff0B1 => kernel_rfl
    case rr0B1 => kernel_rfl
    case hw0B1 => rfl
    case hy0B1 =>
      intro w hSw
      (try dsimp only at hSw)
      first
      | (go_simp; done)
      | (go_simp; with_reducible rfl)
    try simp only [Act.put, List.setIfInBounds_toArray, List.set_cons_zero, List.set_cons_succ]
    refine wpAnyH_take (i := 1) (oi := ?oi1B1) (v := ?v1B1) ?oi0_1B1 (by kernel_rfl) ?ff1B1 ?rr1B1 ?hq1B1 (Or.inl ⟨?hw1B1, ?hy1B1⟩) (by assumption) ?rest1B1
    case oi0_1B1 =>
      conv =>
        lhs
        whnf
        arg 1
        whnf
    case hq1B1 => exact fun _ _ _ h => h
    case ff1B1 => kernel_rfl
    case rr1B1 => kernel_rfl
    case hw1B1 => rfl
    case hy1B1 =>
      intro w hSw
      (try dsimp only at hSw)
      first
      | (go_simp; done)
      | (go_simp; with_reducible rfl)
    try simp only [Act.put, List.setIfInBounds_toArray, List.set_cons_zero, List.set_cons_succ]
    refine wpAnyH_take (i := 2) (oi := ?oi2B1) (v := ?v2B1) ?oi0_2B1 (by kernel_rfl) ?ff2B1 ?rr2B1 ?hq2B1 (Or.inl ⟨?hw2B1, ?hy2B1⟩) (by assumption) ?rest2B1
    case oi0_2B1 =>
      conv =>
        lhs
        whnf
        arg 1
        whnf
    case hq2B1 => exact fun _ _ _ h => h
    case ff2B1 => kernel_rfl
    case rr2B1 => kernel_rfl
    case hw2B1 => rfl
    case hy2B1 =>
      intro w hSw
      (try dsimp only at hSw)
      first
      | (go_simp; done)
      | (go_simp; with_reducible rfl)
    try simp only [Act.put, List.setIfInBounds_toArray, List.set_cons_zero, List.set_cons_succ]
    refine wpAnyH_take (i := 3) (oi := ?oi3B1) (v := ?v3B1) ?oi0_3B1 (by kernel_rfl) ?ff3B1 ?rr3B1 ?hq3B1 (Or.inl ⟨?hw3B1, ?hy3B1⟩) (by assumption) ?rest3B1
    case oi0_3B1 =>
      conv =>
        lhs
        whnf
        arg 1
        whnf
    case hq3B1 => exact fun _ _ _ h => h
    case ff3B1 => kernel_rfl
    case rr3B1 => kernel_rfl
    case hw3B1 => rfl
    case hy3B1 =>
      intro w hSw
      (try dsimp only at hSw)
      first
      | (go_simp; done)
      | (go_simp; with_reducible rfl)
    try simp only [Act.put, List.setIfInBounds_toArray, List.set_cons_zero, List.set_cons_succ]
    refine wpAnyH_take (i := 4) (oi := ?oi4B1) (v := ?v4B1) ?oi0_4B1 (by kernel_rfl) ?ff4B1 ?rr4B1 ?hq4B1 (Or.inl ⟨?hw4B1, ?hy4B1⟩) (by assumption) ?rest4B1
    case oi0_4B1 =>
      conv =>
        lhs
        whnf
        arg 1
        whnf
    case hq4B1 => exact fun _ _ _ h => h
    case ff4B1 => kernel_rfl
    case rr4B1 => kernel_rfl
    case hw4B1 => rfl
    case hy4B1 =>
      intro w hSw
      (try dsimp only at hSw)
      first
      | (go_simp; done)
      | (go_simp; with_reducible rfl)
    try simp only [Act.put, List.setIfInBounds_toArray, List.set_cons_zero, List.set_cons_succ]
    refine wpAnyH_take (i := 5) (oi := ?oi5B1) (v := ?v5B1) ?oi0_5B1 (by kernel_rfl) ?ff5B1 ?rr5B1 ?hq5B1 (Or.inl ⟨?hw5B1, ?hy5B1⟩) (by assumption) ?rest5B1
    case oi0_5B1 =>
      conv =>
        lhs
        whnf
        arg 1
        whnf
    case hq5B1 => exact fun _ _ _ h => h
    case ff5B1 => kernel_rfl
    case rr5B1 => kernel_rfl
    case hw5B1 => rfl
    case hy5B1 =>
      intro w hSw
      (try dsimp only at hSw)
      first
      | (go_simp; done)
      | (go_simp; with_reducible rfl)
    try simp only [Act.put, List.setIfInBounds_toArray, List.set_cons_zero, List.set_cons_succ]
    refine wpAnyH_take (i := 7) (oi := ?oi7B1) (v := ?v7B1) ?oi0_7B1 (by kernel_rfl) ?ff7B1 ?rr7B1 ?hq7B1 (Or.inl ⟨?hw7B1, ?hy7B1⟩) (by assumption) ?rest7B1
    case oi0_7B1 =>
      conv =>
        lhs
        whnf
        arg 1
        whnf
    case hq7B1 => exact fun _ _ _ h => h
    case ff7B1 => kernel_rfl
    case rr7B1 => kernel_rfl
    case hw7B1 => rfl
    case hy7B1 =>
      intro w hSw
      (try dsimp only at hSw)
      first
      | (go_simp; done)
      | (go_simp; with_reducible rfl)
    try simp only [Act.put, List.setIfInBounds_toArray, List.set_cons_zero, List.set_cons_succ]
    refine wpAnyH_ready (rs := [6]) (by kernel_rfl) (by simp) (AllReadyH.cons (o := ?oi6B1) ?oi0_6B1 (fun K hK => ?_) AllReadyH.nil)
    case oi0_6B1 =>
      conv =>
        lhs
        whnf
        arg 1
        whnf
    go_simp
    refine (HPA.out _).mono ?_
    rintro e1 w' ⟨rfl, rfl⟩
    (try dsimp only)
    refine hK.out _ _ (by assumption) (fun hHeld => ?_)
    clear hK K
    try simp only [Act.put, List.setIfInBounds_toArray, List.set_cons_zero, List.set_cons_succ]
    refine wpAnyH_take (i := 8) (oi := ?oi8B1) (v := ?v8B1) ?oi0_8B1 (by kernel_rfl) ?ff8B1 ?rr8B1 ?hq8B1 (Or.inl ⟨?hw8B1, ?hy8B1⟩) (by assumption) ?rest8B1
    case oi0_8B1 =>
      conv =>
        lhs
        whnf
        arg 1
        whnf
    case hq8B1 => exact fun _ _ _ h => h
    case ff8B1 => kernel_rfl
    case rr8B1 => kernel_rfl
    case hw8B1 => rfl
    case hy8B1 =>
      intro w hSw
      (try dsimp only at hSw)
      first
      | (go_simp; done)
      | (go_simp; with_reducible rfl)
    try simp only [Act.put, List.setIfInBounds_toArray, List.set_cons_zero, List.set_cons_succ]
    refine wpAnyH_take (i := 9) (oi := ?oi9B1) (v := ?v9B1) ?oi0_9B1 (by kernel_rfl) ?ff9B1 ?rr9B1 ?hq9B1 (Or.inl ⟨?hw9B1, ?hy9B1⟩) (by assumption) ?rest9B1
    case oi0_9B1 =>
      conv =>
        lhs
        whnf
        arg 1
        whnf
    case hq9B1 => exact fun _ _ _ h => h
    case ff9B1 => kernel_rfl
    case rr9B1 => kernel_rfl
    case hw9B1 => rfl
    case hy9B1 =>
      intro w hSw
      (try dsimp only at hSw)
      first
      | (go_simp; done)
      | (go_simp; with_reducible rfl)
    try simp only [Act.put, List.setIfInBounds_toArray, List.set_cons_zero, List.set_cons_succ]
    refine wpAnyH_ready (rs := [10]) (by kernel_rfl) (by simp) (AllReadyH.cons (o := ?oi10B1) ?oi0_10B1 (fun K hK => ?_) AllReadyH.nil)
    case oi0_10B1 =>
      conv =>
        lhs
        whnf
        arg 1
        whnf
    go_simp
    (try dsimp only)
    refine hK.out _ _ (by show (w6.setCell ⟨g, j * 2, none⟩ (.int .i64 n)).cell? ⟨w.heap.size, 3, none⟩ = _; rw [World.cell?_setCell_far _ _ _ _ (by show g ≠ w.heap.size; exact HNE.out)]; exact m3) (fun hHeld => ?_)
    clear hK K
    try simp only [Act.put, List.setIfInBounds_toArray, List.set_cons_zero, List.set_cons_succ]
    refine wpAnyH_done (by kernel_rfl) ?_ _
    obtain ⟨w7, hw7⟩ : ∃ x, (w6.setCell ⟨g, j * 2, none⟩ (.int .i64 n)).drew = x := ⟨_, rfl⟩
    have ud : Upd [] w6 w6.drew := (Upd.refl [] _).drew
    have u7 : Upd [g] w6 w7 := by rw [← hw7]; exact ((Upd.refl [g] w6).setCell (p := ⟨g, j * 2, none⟩) (.inl (by simp)) _).drew
    have B7 := hide (B6.out.upd u7 (by simpa using fun e => HNE.out e.symm))
    have R7 := hide (R6.out.upd u7 (by simpa using fun e => HNR.out e.symm))
    have r6 := it_own_set ROW3.out (j * 2) (.int .i64 n)
    rw [spCells_setFr] at r6
    have r7 := own_kept r6 ((Upd.refl [] _).drew) (by simp)
    rw [hw7] at r7
    clear r6
    have ROW37 := hide r7
    have ROW47 := hide (own_kept ROW4.out u7 (fun q hq hm => by obtain rfl : q = g := List.mem_singleton.1 hm; have h1 := it_own_block ROW4.out q hq; have h2 := HLT3.out q rfl; omega))
    have UU7 := hide (show Upd [] w w7 from UU6.out.trans u7 (fun x hx => .inr (by obtain rfl : x = g := List.mem_singleton.1 hx; have h1 := HGB.out; have h2 := HZ2.out; have h3 := HZ4.out; omega)))
    rw [hw7]
    clear hw7 u7 ud r7 ce' fe' fz c0 c1
    clear m0 f0 m1 f1 m2 f2 m3 f3 m4 f4 m5 f5 m6 f6 m7 f7
    have m0 := B7.out.cell 0
    have m1 := B7.out.cell 1
    have m2 := B7.out.cell 2
    have m3 := B7.out.cell 3
    have m4 := B7.out.cell 4
    have m5 := B7.out.cell 5
    have m6 := B7.out.cell 6
    have m7 := B7.out.cell 7
    have f0 := B7.out.frozen 0
    have f1 := B7.out.frozen 1
    have f2 := B7.out.frozen 2
    have f3 := B7.out.frozen 3
    have f4 := B7.out.frozen 4
    have f5 := B7.out.frozen 5
    have f6 := B7.out.frozen 6
    have f7 := B7.out.frozen 7
    have r0 := R7.out.cell 0
    have q0 := R7.out.frozen 0
    have r1 := R7.out.cell 1
    have q1 := R7.out.frozen 1
    have r2 := R7.out.cell 2
    have q2 := R7.out.frozen 2
    have r3 := R7.out.cell 3
    have q3 := R7.out.frozen 3
    have r4 := R7.out.cell 4
    have q4 := R7.out.frozen 4
    have r5 := R7.out.cell 5
    have q5 := R7.out.frozen 5
    have r6 := R7.out.cell 6
    have q6 := R7.out.frozen 6
    have r7 := R7.out.cell 7
    have q7 := R7.out.frozen 7
    go_upto_region 26 with fail
    go_wp2_with fail
    obtain ⟨wf, hwf⟩ : ∃ x, ((((((((w7.setCell ⟨w.heap.size + 1, 0, none⟩ (.int .i64 i.id)).setCell ⟨w.heap.size + 1, 1, none⟩ (.int .i64 i.kind)).setCell ⟨w.heap.size + 1, 2, none⟩ (.int .i64 i.len)).setCell ⟨w.heap.size + 1, 3, none⟩ (.slice (some ⟨g, 0, none⟩) i.trims.length c3)).setCell ⟨w.heap.size + 1, 4, none⟩ (.slice A4 i.talks.length c4)).setCell ⟨w.heap.size + 1, 5, none⟩ (.int .i64 i.artist)).setCell ⟨w.heap.size + 1, 6, none⟩ (.int .i64 i.tempo)).setCell ⟨w.heap.size + 1, 7, none⟩ (.int .i64 i.lang)) = x := ⟨_, rfl⟩
    have bf : Blk wf (w.heap.size + 1) 24 [.int .i64 i.id, .int .i64 i.kind, .int .i64 i.len, .slice (some ⟨g, 0, none⟩) i.trims.length c3, .slice A4 i.talks.length c4, .int .i64 i.artist, .int .i64 i.tempo, .int .i64 i.lang] := by rw [← hwf]; exact ((((((((R7.out.set_ 0 (.int .i64 i.id)).set_ 1 (.int .i64 i.kind)).set_ 2 (.int .i64 i.len)).set_ 3 (.slice (some ⟨g, 0, none⟩) i.trims.length c3)).set_ 4 (.slice A4 i.talks.length c4)).set_ 5 (.int .i64 i.artist)).set_ 6 (.int .i64 i.tempo)).set_ 7 (.int .i64 i.lang))
    have uf : Upd [w.heap.size + 1] w7 wf := by rw [← hwf]; exact (((((((((Upd.refl [w.heap.size + 1] w7).setCell (p := ⟨w.heap.size + 1, 0, none⟩) (.inl (by simp)) _).setCell (p := ⟨w.heap.size + 1, 1, none⟩) (.inl (by simp)) _).setCell (p := ⟨w.heap.size + 1, 2, none⟩) (.inl (by simp)) _).setCell (p := ⟨w.heap.size + 1, 3, none⟩) (.inl (by simp)) _).setCell (p := ⟨w.heap.size + 1, 4, none⟩) (.inl (by simp)) _).setCell (p := ⟨w.heap.size + 1, 5, none⟩) (.inl (by simp)) _).setCell (p := ⟨w.heap.size + 1, 6, none⟩) (.inl (by simp)) _).setCell (p := ⟨w.heap.size + 1, 7, none⟩) (.inl (by simp)) _)
    rw [hwf]
    clear hwf
    have UF := hide uf
    clear uf
    have v0 := bf.cell 0
    have v1 := bf.cell 1
    have v2 := bf.cell 2
    have v3 := bf.cell 3
    have v4 := bf.cell 4
    have v5 := bf.cell 5
    have v6 := bf.cell 6
    have v7 := bf.cell 7
    refine bodyPost_ret (v := .agg #[.int .i64 i.id, .int .i64 i.kind, .int .i64 i.len, .slice (some ⟨g, 0, none⟩) i.trims.length c3, .slice A4 i.talks.length c4, .int .i64 i.artist, .int .i64 i.tempo, .int .i64 i.lang]) (by simp [results, Try.results11, go_sem, v0, v1, v2, v3, v4, v5, v6, v7]) rfl ?_
    obtain ⟨uc, ut, uk⟩ := bent_end UU7.out (Upd.refl _ _) UF.out B7.out R7.out ROW37.out ROW47.out HZ2.out
    have ej : bentS i how n at_ = { i with trims := setFr i.trims (pickS at_ i.trims.length).toNat n } := by unfold bentS; simp [HC.out]
    rw [ej]
    have ee : (setFr i.trims (pickS at_ i.trims.length).toNat n).length = i.trims.length := by unfold setFr; rw [List.length_set]
    have et : (pickS at_ i.trims.length).toNat = j := by rw [HJ.out]; rfl
    rw [et] at ee ⊢
    refine ⟨(some ⟨g, 0, none⟩), c3, A4, c4, by rw [ee], ⟨ut, uk⟩, uc⟩
  · have hcv : True := trivial
    by_cases h0 : i.trims.length = 0
    case pos =>
      have hgt : ¬ (0 : Int) < (i.trims.length : Int) := by omega
      have hgtd : decide ((0 : Int) < (i.trims.length : Int)) = false := decide_eq_false hgt
      have HL0 := hide (show i.trims = [] from List.eq_nil_of_length_eq_zero h0)
      clear h0
      go_upto_region 26 with fail
      have r0 := R6.out.cell 0
      have q0 := R6.out.frozen 0
      have r1 := R6.out.cell 1
      have q1 := R6.out.frozen 1
      have r2 := R6.out.cell 2
      have q2 := R6.out.frozen 2
      have r3 := R6.out.cell 3
      have q3 := R6.out.frozen 3
      have r4 := R6.out.cell 4
      have q4 := R6.out.frozen 4
      have r5 := R6.out.cell 5
      have q5 := R6.out.frozen 5
      have r6 := R6.out.cell 6
      have q6 := R6.out.frozen 6
      have r7 := R6.out.cell 7
      have q7 := R6.out.frozen 7
      go_wp2_with fail
      obtain ⟨wf, hwf⟩ : ∃ x, ((((((((w6.setCell ⟨w.heap.size + 1, 0, none⟩ (.int .i64 i.id)).setCell ⟨w.heap.size + 1, 1, none⟩ (.int .i64 i.kind)).setCell ⟨w.heap.size + 1, 2, none⟩ (.int .i64 i.len)).setCell ⟨w.heap.size + 1, 3, none⟩ (.slice A3 i.trims.length c3)).setCell ⟨w.heap.size + 1, 4, none⟩ (.slice A4 i.talks.length c4)).setCell ⟨w.heap.size + 1, 5, none⟩ (.int .i64 i.artist)).setCell ⟨w.heap.size + 1, 6, none⟩ (.int .i64 i.tempo)).setCell ⟨w.heap.size + 1, 7, none⟩ (.int .i64 i.lang)) = x := ⟨_, rfl⟩
      have bf : Blk wf (w.heap.size + 1) 24 [.int .i64 i.id, .int .i64 i.kind, .int .i64 i.len, .slice A3 i.trims.length c3, .slice A4 i.talks.length c4, .int .i64 i.artist, .int .i64 i.tempo, .int .i64 i.lang] := by rw [← hwf]; exact ((((((((R6.out.set_ 0 (.int .i64 i.id)).set_ 1 (.int .i64 i.kind)).set_ 2 (.int .i64 i.len)).set_ 3 (.slice A3 i.trims.length c3)).set_ 4 (.slice A4 i.talks.length c4)).set_ 5 (.int .i64 i.artist)).set_ 6 (.int .i64 i.tempo)).set_ 7 (.int .i64 i.lang))
      have uf : Upd [w.heap.size + 1] w6 wf := by rw [← hwf]; exact (((((((((Upd.refl [w.heap.size + 1] w6).setCell (p := ⟨w.heap.size + 1, 0, none⟩) (.inl (by simp)) _).setCell (p := ⟨w.heap.size + 1, 1, none⟩) (.inl (by simp)) _).setCell (p := ⟨w.heap.size + 1, 2, none⟩) (.inl (by simp)) _).setCell (p := ⟨w.heap.size + 1, 3, none⟩) (.inl (by simp)) _).setCell (p := ⟨w.heap.size + 1, 4, none⟩) (.inl (by simp)) _).setCell (p := ⟨w.heap.size + 1, 5, none⟩) (.inl (by simp)) _).setCell (p := ⟨w.heap.size + 1, 6, none⟩) (.inl (by simp)) _).setCell (p := ⟨w.heap.size + 1, 7, none⟩) (.inl (by simp)) _)
      rw [hwf]
      clear hwf
      have UF := hide uf
      clear uf
      have v0 := bf.cell 0
      have v1 := bf.cell 1
      have v2 := bf.cell 2
      have v3 := bf.cell 3
      have v4 := bf.cell 4
      have v5 := bf.cell 5
      have v6 := bf.cell 6
      have v7 := bf.cell 7
      refine bodyPost_ret (v := .agg #[.int .i64 i.id, .int .i64 i.kind, .int .i64 i.len, .slice A3 i.trims.length c3, .slice A4 i.talks.length c4, .int .i64 i.artist, .int .i64 i.tempo, .int .i64 i.lang]) (by simp [results, Try.results11, go_sem, v0, v1, v2, v3, v4, v5, v6, v7]) rfl ?_
      obtain ⟨uc, ut, uk⟩ := bent_end UU6.out (Upd.refl _ _) UF.out B6.out R6.out ROW3.out ROW4.out HZ2.out
      have ej : bentS i how n at_ = { i with trims := setTo i.trims (pickS at_ i.trims.length).toNat n } := by unfold bentS; simp [HC.out]
      rw [ej]
      have ee : setTo i.trims (pickS at_ i.trims.length).toNat n = i.trims := by rw [HL0.out]; rfl
      rw [ee]
      exact ⟨A3, c3, A4, c4, rfl, ⟨ut, uk⟩, uc⟩
    have hgt : (0 : Int) < i.trims.length := by omega
    have hgtn : 0 < i.trims.length := by omega
    obtain ⟨jj, hj⟩ : ∃ a, pickS at_ i.trims.length = a := ⟨_, rfl⟩
    have hjb := pickS_bounds at_ i.trims.length (by omega)
    rw [hj] at hjb
    have PA := fun W => refPick at_ i.trims.length W hat.1 hat.2 (by omega) (by omega)
    obtain ⟨j, rfl⟩ : ∃ j : Nat, jj = (j : Int) := ⟨jj.toNat, by omega⟩
    simp only [hj] at PA
    have HPA := hide PA
    have HJ := hide hj
    clear PA hj
    have hjl : j < i.trims.length := by omega
    have hji : (j : Int) < i.trims.length := by omega
    clear hjb h0
    obtain ⟨g, cur, eA, hgb, hgc⟩ := it_own_some ROW3.out (by omega)
    subst eA
    have BG := hide (show Blk w6 g 53 cur.toList by show w6.heap[g]? = _; rw [hgc])
    clear hgc
    obtain ⟨sp, hsp⟩ : ∃ sp, i.trims[j]? = some sp := ⟨_, List.getElem?_eq_getElem hjl⟩
    obtain ⟨b, o, eb, _, c0, c1⟩ := own_sps ROW3.out j sp hsp
    injection eb with eb
    injection eb with e1 e2
    subst e1 e2
    rw [Nat.zero_add] at c0 c1
    have fz := BG.out.frozen (j * 2 + 1)
    have HGB := hide hgb
    clear hsp hgb
    go_upto_region 22 with fail
    have ce' : w6.drew.cell? ⟨g, j * 2 + 1, none⟩ = some (.int .i64 sp.to_) := c1
    have fe' : w6.drew.frozen? ⟨g, j * 2 + 1, none⟩ = false := fz
    have HNE := hide (show g ≠ w.heap.size from BG.out.ne_ B6.out (by decide))
    have HNR := hide (show g ≠ w.heap.size + 1 from BG.out.ne_ R6.out (by decide))
    refine wp_region_held_drew (S := (fun w' => w'.cell? ⟨w.heap.size, 3, none⟩ = some (.slice (some ⟨g, 0, none⟩) i.trims.length c3))) (by kernel_rfl) (by exact m3) (fun hHeld => ?_)
    refine wpAnyH_take (i := 0) (oi := ?oi0B2) (v := ?v0B2) ?oi0_0B2 (by kernel_rfl) ?ff0B2 ?rr0B2 ?hq0B2 (Or.inl ⟨?hw0B2, ?hy0B2⟩) (by assumption) ?rest0B2
    case oi0_0B2 =>
      conv =>
        lhs
        whnf
        arg 1
        whnf
    case hq0B2 => exact fun _ _ _ h => h
    case ff0B2 => kernel_rfl
    case rr0B2 => kernel_rfl
    case hw0B2 => rfl
    case hy0B2 =>
      intro w hSw
      (try dsimp only at hSw)
      first
      | (go_simp; done)
      | (go_simp; with_reducible rfl)
    try simp only [Act.put, List.setIfInBounds_toArray, List.set_cons_zero, List.set_cons_succ]
    refine wpAnyH_take (i := 1) (oi := ?oi1B2) (v := ?v1B2) ?oi0_1B2 (by kernel_rfl) ?ff1B2 ?rr1B2 ?hq1B2 (Or.inl ⟨?hw1B2, ?hy1B2⟩) (by assumption) ?rest1B2
    case oi0_1B2 =>
      conv =>
        lhs
        whnf
        arg 1
        whnf
    case hq1B2 => exact fun _ _ _ h => h
    case ff1B2 => kernel_rfl
    case rr1B2 => kernel_rfl
    case hw1B2 => rfl
    case hy1B2 =>
      intro w hSw
      (try dsimp only at hSw)
      first
      | (go_simp; done)
      | (go_simp; with_reducible rfl)
    try simp only [Act.put, List.setIfInBounds_toArray, List.set_cons_zero, List.set_cons_succ]
    refine wpAnyH_take (i := 2) (oi := ?oi2B2) (v := ?v2B2) ?oi0_2B2 (by kernel_rfl) ?ff2B2 ?rr2B2 ?hq2B2 (Or.inl ⟨?hw2B2, ?hy2B2⟩) (by assumption) ?rest2B2
    case oi0_2B2 =>
      conv =>
        lhs
        whnf
        arg 1
        whnf
    case hq2B2 => exact fun _ _ _ h => h
    case ff2B2 => kernel_rfl
    case rr2B2 => kernel_rfl
    case hw2B2 => rfl
    case hy2B2 =>
      intro w hSw
      (try dsimp only at hSw)
      first
      | (go_simp; done)
      | (go_simp; with_reducible rfl)
    try simp only [Act.put, List.setIfInBounds_toArray, List.set_cons_zero, List.set_cons_succ]
    refine wpAnyH_take (i := 3) (oi := ?oi3B2) (v := ?v3B2) ?oi0_3B2 (by kernel_rfl) ?ff3B2 ?rr3B2 ?hq3B2 (Or.inl ⟨?hw3B2, ?hy3B2⟩) (by assumption) ?rest3B2
    case oi0_3B2 =>
      conv =>
        lhs
        whnf
        arg 1
        whnf
    case hq3B2 => exact fun _ _ _ h => h
    case ff3B2 => kernel_rfl
    case rr3B2 => kernel_rfl
    case hw3B2 => rfl
    case hy3B2 =>
      intro w hSw
      (try dsimp only at hSw)
      first
      | (go_simp; done)
      | (go_simp; with_reducible rfl)
    try simp only [Act.put, List.setIfInBounds_toArray, List.set_cons_zero, List.set_cons_succ]
    refine wpAnyH_take (i := 4) (oi := ?oi4B2) (v := ?v4B2) ?oi0_4B2 (by kernel_rfl) ?ff4B2 ?rr4B2 ?hq4B2 (Or.inl ⟨?hw4B2, ?hy4B2⟩) (by assumption) ?rest4B2
    case oi0_4B2 =>
      conv =>
        lhs
        whnf
        arg 1
        whnf
    case hq4B2 => exact fun _ _ _ h => h
    case ff4B2 => kernel_rfl
    case rr4B2 => kernel_rfl
    case hw4B2 => rfl
    case hy4B2 =>
      intro w hSw
      (try dsimp only at hSw)
      first
      | (go_simp; done)
      | (go_simp; with_reducible rfl)
    try simp only [Act.put, List.setIfInBounds_toArray, List.set_cons_zero, List.set_cons_succ]
    refine wpAnyH_take (i := 5) (oi := ?oi5B2) (v := ?v5B2) ?oi0_5B2 (by kernel_rfl) ?ff5B2 ?rr5B2 ?hq5B2 (Or.inl ⟨?hw5B2, ?hy5B2⟩) (by assumption) ?rest5B2
    case oi0_5B2 =>
      conv =>
        lhs
        whnf
        arg 1
        whnf
    case hq5B2 => exact fun _ _ _ h => h
    case ff5B2 => kernel_rfl
    case rr5B2 => kernel_rfl
    case hw5B2 => rfl
    case hy5B2 =>
      intro w hSw
      (try dsimp only at hSw)
      first
      | (go_simp; done)
      | (go_simp; with_reducible rfl)
    try simp only [Act.put, List.setIfInBounds_toArray, List.set_cons_zero, List.set_cons_succ]
    refine wpAnyH_take (i := 7) (oi := ?oi7B2) (v := ?v7B2) ?oi0_7B2 (by kernel_rfl) ?ff7B2 ?rr7B2 ?hq7B2 (Or.inl ⟨?hw7B2, ?hy7B2⟩) (by assumption) ?rest7B2
    case oi0_7B2 =>
      conv =>
        lhs
        whnf
        arg 1
        whnf
    case hq7B2 => exact fun _ _ _ h => h
    case ff7B2 => kernel_rfl
    case rr7B2 => kernel_rfl
    case hw7B2 => rfl
    case hy7B2 =>
      intro w hSw
      (try dsimp only at hSw)
      first
      | (go_simp; done)
      | (go_simp; with_reducible rfl)
    try simp only [Act.put, List.setIfInBounds_toArray, List.set_cons_zero, List.set_cons_succ]
    refine wpAnyH_ready (rs := [6]) (by kernel_rfl) (by simp) (AllReadyH.cons (o := ?oi6B2) ?oi0_6B2 (fun K hK => ?_) AllReadyH.nil)
    case oi0_6B2 =>
      conv =>
        lhs
        whnf
        arg 1
        whnf
    go_simp
    refine (HPA.out _).mono ?_
    rintro e1 w' ⟨rfl, rfl⟩
    (try dsimp only)
    refine hK.out _ _ (by assumption) (fun hHeld => ?_)
    clear hK K
    try simp only [Act.put, List.setIfInBounds_toArray, List.set_cons_zero, List.set_cons_succ]
    refine wpAnyH_take (i := 8) (oi := ?oi8B2) (v := ?v8B2) ?oi0_8B2 (by kernel_rfl) ?ff8B2 ?rr8B2 ?hq8B2 (Or.inl ⟨?hw8B2, ?hy8B2⟩) (by assumption) ?rest8B2
    case oi0_8B2 =>
      conv =>
        lhs
        whnf
        arg 1
        whnf
    case hq8B2 => exact fun _ _ _ h => h
    case ff8B2 => kernel_rfl
    case rr8B2 => kernel_rfl
    case hw8B2 => rfl
    case hy8B2 =>
      intro w hSw
      (try dsimp only at hSw)
      first
      | (go_simp; done)
      | (go_simp; with_reducible rfl)
    try simp only [Act.put, List.setIfInBounds_toArray, List.set_cons_zero, List.set_cons_succ]
    refine wpAnyH_take (i := 9) (oi := ?oi9B2) (v := ?v9B2) ?oi0_9B2 (by kernel_rfl) ?ff9B2 ?rr9B2 ?hq9B2 (Or.inl ⟨?hw9B2, ?hy9B2⟩) (by assumption) ?rest9B2
    case oi0_9B2 =>
      conv =>
        lhs
        whnf
        arg 1
        whnf
    case hq9B2 => exact fun _ _ _ h => h
    case ff9B2 => kernel_rfl
    case rr9B2 => kernel_rfl
    case hw9B2 => rfl
    case hy9B2 =>
      intro w hSw
      (try dsimp only at hSw)
      first
      | (go_simp; done)
      | (go_simp; with_reducible rfl)
    try simp only [Act.put, List.setIfInBounds_toArray, List.set_cons_zero, List.set_cons_succ]
    refine wpAnyH_ready (rs := [10]) (by kernel_rfl) (by simp) (AllReadyH.cons (o := ?oi10B2) ?oi0_10B2 (fun K hK => ?_) AllReadyH.nil)
    case oi0_10B2 =>
      conv =>
        lhs
        whnf
        arg 1
        whnf
    go_simp
    (try dsimp only)
    refine hK.out _ _ (by show (w6.setCell ⟨g, j * 2 + 1, none⟩ (.int .i64 n)).cell? ⟨w.heap.size, 3, none⟩ = _; rw [World.cell?_setCell_far _ _ _ _ (by show g ≠ w.heap.size; exact HNE.out)]; exact m3) (fun hHeld => ?_)
    clear hK K
    try simp only [Act.put, List.setIfInBounds_toArray, List.set_cons_zero, List.set_cons_succ]
    refine wpAnyH_done (by kernel_rfl) ?_ _
    obtain ⟨w7, hw7⟩ : ∃ x, (w6.setCell ⟨g, j * 2 + 1, none⟩ (.int .i64 n)).drew = x := ⟨_, rfl⟩
    have ud : Upd [] w6 w6.drew := (Upd.refl [] _).drew
    have u7 : Upd [g] w6 w7 := by rw [← hw7]; exact ((Upd.refl [g] w6).setCell (p := ⟨g, j * 2 + 1, none⟩) (.inl (by simp)) _).drew
    have B7 := hide (B6.out.upd u7 (by simpa using fun e => HNE.out e.symm))
    have R7 := hide (R6.out.upd u7 (by simpa using fun e => HNR.out e.symm))
    have r6 := it_own_set ROW3.out (j * 2 + 1) (.int .i64 n)
    rw [spCells_setTo] at r6
    have r7 := own_kept r6 ((Upd.refl [] _).drew) (by simp)
    rw [hw7] at r7
    clear r6
    have ROW37 := hide r7
    have ROW47 := hide (own_kept ROW4.out u7 (fun q hq hm => by obtain rfl : q = g := List.mem_singleton.1 hm; have h1 := it_own_block ROW4.out q hq; have h2 := HLT3.out q rfl; omega))
    have UU7 := hide (show Upd [] w w7 from UU6.out.trans u7 (fun x hx => .inr (by obtain rfl : x = g := List.mem_singleton.1 hx; have h1 := HGB.out; have h2 := HZ2.out; have h3 := HZ4.out; omega)))
    rw [hw7]
    clear hw7 u7 ud r7 ce' fe' fz c0 c1
    clear m0 f0 m1 f1 m2 f2 m3 f3 m4 f4 m5 f5 m6 f6 m7 f7
    have m0 := B7.out.cell 0
    have m1 := B7.out.cell 1
    have m2 := B7.out.cell 2
    have m3 := B7.out.cell 3
    have m4 := B7.out.cell 4
    have m5 := B7.out.cell 5
    have m6 := B7.out.cell 6
    have m7 := B7.out.cell 7
    have f0 := B7.out.frozen 0
    have f1 := B7.out.frozen 1
    have f2 := B7.out.frozen 2
    have f3 := B7.out.frozen 3
    have f4 := B7.out.frozen 4
    have f5 := B7.out.frozen 5
    have f6 := B7.out.frozen 6
    have f7 := B7.out.frozen 7
    have r0 := R7.out.cell 0
    have q0 := R7.out.frozen 0
    have r1 := R7.out.cell 1
    have q1 := R7.out.frozen 1
    have r2 := R7.out.cell 2
    have q2 := R7.out.frozen 2
    have r3 := R7.out.cell 3
    have q3 := R7.out.frozen 3
    have r4 := R7.out.cell 4
    have q4 := R7.out.frozen 4
    have r5 := R7.out.cell 5
    have q5 := R7.out.frozen 5
    have r6 := R7.out.cell 6
    have q6 := R7.out.frozen 6
    have r7 := R7.out.cell 7
    have q7 := R7.out.frozen 7
    go_upto_region 26 with fail
    go_wp2_with fail
    obtain ⟨wf, hwf⟩ : ∃ x, ((((((((w7.setCell ⟨w.heap.size + 1, 0, none⟩ (.int .i64 i.id)).setCell ⟨w.heap.size + 1, 1, none⟩ (.int .i64 i.kind)).setCell ⟨w.heap.size + 1, 2, none⟩ (.int .i64 i.len)).setCell ⟨w.heap.size + 1, 3, none⟩ (.slice (some ⟨g, 0, none⟩) i.trims.length c3)).setCell ⟨w.heap.size + 1, 4, none⟩ (.slice A4 i.talks.length c4)).setCell ⟨w.heap.size + 1, 5, none⟩ (.int .i64 i.artist)).setCell ⟨w.heap.size + 1, 6, none⟩ (.int .i64 i.tempo)).setCell ⟨w.heap.size + 1, 7, none⟩ (.int .i64 i.lang)) = x := ⟨_, rfl⟩
    have bf : Blk wf (w.heap.size + 1) 24 [.int .i64 i.id, .int .i64 i.kind, .int .i64 i.len, .slice (some ⟨g, 0, none⟩) i.trims.length c3, .slice A4 i.talks.length c4, .int .i64 i.artist, .int .i64 i.tempo, .int .i64 i.lang] := by rw [← hwf]; exact ((((((((R7.out.set_ 0 (.int .i64 i.id)).set_ 1 (.int .i64 i.kind)).set_ 2 (.int .i64 i.len)).set_ 3 (.slice (some ⟨g, 0, none⟩) i.trims.length c3)).set_ 4 (.slice A4 i.talks.length c4)).set_ 5 (.int .i64 i.artist)).set_ 6 (.int .i64 i.tempo)).set_ 7 (.int .i64 i.lang))
    have uf : Upd [w.heap.size + 1] w7 wf := by rw [← hwf]; exact (((((((((Upd.refl [w.heap.size + 1] w7).setCell (p := ⟨w.heap.size + 1, 0, none⟩) (.inl (by simp)) _).setCell (p := ⟨w.heap.size + 1, 1, none⟩) (.inl (by simp)) _).setCell (p := ⟨w.heap.size + 1, 2, none⟩) (.inl (by simp)) _).setCell (p := ⟨w.heap.size + 1, 3, none⟩) (.inl (by simp)) _).setCell (p := ⟨w.heap.size + 1, 4, none⟩) (.inl (by simp)) _).setCell (p := ⟨w.heap.size + 1, 5, none⟩) (.inl (by simp)) _).setCell (p := ⟨w.heap.size + 1, 6, none⟩) (.inl (by simp)) _).setCell (p := ⟨w.heap.size + 1, 7, none⟩) (.inl (by simp)) _)
    rw [hwf]
    clear hwf
    have UF := hide uf
    clear uf
    have v0 := bf.cell 0
    have v1 := bf.cell 1
    have v2 := bf.cell 2
    have v3 := bf.cell 3
    have v4 := bf.cell 4
    have v5 := bf.cell 5
    have v6 := bf.cell 6
    have v7 := bf.cell 7
    refine bodyPost_ret (v := .agg #[.int .i64 i.id, .int .i64 i.kind, .int .i64 i.len, .slice (some ⟨g, 0, none⟩) i.trims.length c3, .slice A4 i.talks.length c4, .int .i64 i.artist, .int .i64 i.tempo, .int .i64 i.lang]) (by simp [results, Try.results11, go_sem, v0, v1, v2, v3, v4, v5, v6, v7]) rfl ?_
    obtain ⟨uc, ut, uk⟩ := bent_end UU7.out (Upd.refl _ _) UF.out B7.out R7.out ROW37.out ROW47.out HZ2.out
    have ej : bentS i how n at_ = { i with trims := setTo i.trims (pickS at_ i.trims.length).toNat n } := by unfold bentS; simp [HC.out]
    rw [ej]
    have ee : (setTo i.trims (pickS at_ i.trims.length).toNat n).length = i.trims.length := by unfold setTo; rw [List.length_set]
    have et : (pickS at_ i.trims.length).toNat = j := by rw [HJ.out]; rfl
    rw [et] at ee ⊢
    refine ⟨(some ⟨g, 0, none⟩), c3, A4, c4, by rw [ee], ⟨ut, uk⟩, uc⟩
  · have hcv : True := trivial
    by_cases h0 : i.talks.length = 0
    case pos =>
      have hgt : ¬ (0 : Int) < (i.talks.length : Int) := by omega
      have hgtd : decide ((0 : Int) < (i.talks.length : Int)) = false := decide_eq_false hgt
      have HL0 := hide (show i.talks = [] from List.eq_nil_of_length_eq_zero h0)
      clear h0
      go_upto_region 26 with fail
      have r0 := R6.out.cell 0
      have q0 := R6.out.frozen 0
      have r1 := R6.out.cell 1
      have q1 := R6.out.frozen 1
      have r2 := R6.out.cell 2
      have q2 := R6.out.frozen 2
      have r3 := R6.out.cell 3
      have q3 := R6.out.frozen 3
      have r4 := R6.out.cell 4
      have q4 := R6.out.frozen 4
      have r5 := R6.out.cell 5
      have q5 := R6.out.frozen 5
      have r6 := R6.out.cell 6
      have q6 := R6.out.frozen 6
      have r7 := R6.out.cell 7
      have q7 := R6.out.frozen 7
      go_wp2_with fail
      obtain ⟨wf, hwf⟩ : ∃ x, ((((((((w6.setCell ⟨w.heap.size + 1, 0, none⟩ (.int .i64 i.id)).setCell ⟨w.heap.size + 1, 1, none⟩ (.int .i64 i.kind)).setCell ⟨w.heap.size + 1, 2, none⟩ (.int .i64 i.len)).setCell ⟨w.heap.size + 1, 3, none⟩ (.slice A3 i.trims.length c3)).setCell ⟨w.heap.size + 1, 4, none⟩ (.slice A4 i.talks.length c4)).setCell ⟨w.heap.size + 1, 5, none⟩ (.int .i64 i.artist)).setCell ⟨w.heap.size + 1, 6, none⟩ (.int .i64 i.tempo)).setCell ⟨w.heap.size + 1, 7, none⟩ (.int .i64 i.lang)) = x := ⟨_, rfl⟩
      have bf : Blk wf (w.heap.size + 1) 24 [.int .i64 i.id, .int .i64 i.kind, .int .i64 i.len, .slice A3 i.trims.length c3, .slice A4 i.talks.length c4, .int .i64 i.artist, .int .i64 i.tempo, .int .i64 i.lang] := by rw [← hwf]; exact ((((((((R6.out.set_ 0 (.int .i64 i.id)).set_ 1 (.int .i64 i.kind)).set_ 2 (.int .i64 i.len)).set_ 3 (.slice A3 i.trims.length c3)).set_ 4 (.slice A4 i.talks.length c4)).set_ 5 (.int .i64 i.artist)).set_ 6 (.int .i64 i.tempo)).set_ 7 (.int .i64 i.lang))
      have uf : Upd [w.heap.size + 1] w6 wf := by rw [← hwf]; exact (((((((((Upd.refl [w.heap.size + 1] w6).setCell (p := ⟨w.heap.size + 1, 0, none⟩) (.inl (by simp)) _).setCell (p := ⟨w.heap.size + 1, 1, none⟩) (.inl (by simp)) _).setCell (p := ⟨w.heap.size + 1, 2, none⟩) (.inl (by simp)) _).setCell (p := ⟨w.heap.size + 1, 3, none⟩) (.inl (by simp)) _).setCell (p := ⟨w.heap.size + 1, 4, none⟩) (.inl (by simp)) _).setCell (p := ⟨w.heap.size + 1, 5, none⟩) (.inl (by simp)) _).setCell (p := ⟨w.heap.size + 1, 6, none⟩) (.inl (by simp)) _).setCell (p := ⟨w.heap.size + 1, 7, none⟩) (.inl (by simp)) _)
      rw [hwf]
      clear hwf
      have UF := hide uf
      clear uf
      have v0 := bf.cell 0
      have v1 := bf.cell 1
      have v2 := bf.cell 2
      have v3 := bf.cell 3
      have v4 := bf.cell 4
      have v5 := bf.cell 5
      have v6 := bf.cell 6
      have v7 := bf.cell 7
      refine bodyPost_ret (v := .agg #[.int .i64 i.id, .int .i64 i.kind, .int .i64 i.len, .slice A3 i.trims.length c3, .slice A4 i.talks.length c4, .int .i64 i.artist, .int .i64 i.tempo, .int .i64 i.lang]) (by simp [results, Try.results11, go_sem, v0, v1, v2, v3, v4, v5, v6, v7]) rfl ?_
      obtain ⟨uc, ut, uk⟩ := bent_end UU6.out (Upd.refl _ _) UF.out B6.out R6.out ROW3.out ROW4.out HZ2.out
      have ej : bentS i how n at_ = { i with talks := setTo i.talks (pickS at_ i.talks.length).toNat n } := by unfold bentS; simp [HC.out]
      rw [ej]
      have ee : setTo i.talks (pickS at_ i.talks.length).toNat n = i.talks := by rw [HL0.out]; rfl
      rw [ee]
      exact ⟨A3, c3, A4, c4, rfl, ⟨ut, uk⟩, uc⟩
    have hgt : (0 : Int) < i.talks.length := by omega
    have hgtn : 0 < i.talks.length := by omega
    obtain ⟨jj, hj⟩ : ∃ a, pickS at_ i.talks.length = a := ⟨_, rfl⟩
    have hjb := pickS_bounds at_ i.talks.length (by omega)
    rw [hj] at hjb
    have PA := fun W => refPick at_ i.talks.length W hat.1 hat.2 (by omega) (by omega)
    obtain ⟨j, rfl⟩ : ∃ j : Nat, jj = (j : Int) := ⟨jj.toNat, by omega⟩
    simp only [hj] at PA
    have HPA := hide PA
    have HJ := hide hj
    clear PA hj
    have hjl : j < i.talks.length := by omega
    have hji : (j : Int) < i.talks.length := by omega
    clear hjb h0
    obtain ⟨g, cur, eA, hgb, hgc⟩ := it_own_some ROW4.out (by omega)
    subst eA
    have BG := hide (show Blk w6 g 53 cur.toList by show w6.heap[g]? = _; rw [hgc])
    clear hgc
    obtain ⟨sp, hsp⟩ : ∃ sp, i.talks[j]? = some sp := ⟨_, List.getElem?_eq_getElem hjl⟩
    obtain ⟨b, o, eb, _, c0, c1⟩ := own_sps ROW4.out j sp hsp
    injection eb with eb
    injection eb with e1 e2
    subst e1 e2
    rw [Nat.zero_add] at c0 c1
    have fz := BG.out.frozen (j * 2 + 1)
    have HGB := hide hgb
    clear hsp hgb
    go_upto_region 25 with fail
    have ce' : w6.drew.cell? ⟨g, j * 2 + 1, none⟩ = some (.int .i64 sp.to_) := c1
    have fe' : w6.drew.frozen? ⟨g, j * 2 + 1, none⟩ = false := fz
    have HNE := hide (show g ≠ w.heap.size from BG.out.ne_ B6.out (by decide))
    have HNR := hide (show g ≠ w.heap.size + 1 from BG.out.ne_ R6.out (by decide))
    refine wp_region_held_drew (S := (fun w' => w'.cell? ⟨w.heap.size, 4, none⟩ = some (.slice (some ⟨g, 0, none⟩) i.talks.length c4))) (by kernel_rfl) (by exact m4) (fun hHeld => ?_)
    refine wpAnyH_take (i := 0) (oi := ?oi0B3) (v := ?v0B3) ?oi0_0B3 (by kernel_rfl) ?ff0B3 ?rr0B3 ?hq0B3 (Or.inl ⟨?hw0B3, ?hy0B3⟩) (by assumption) ?rest0B3
    case oi0_0B3 =>
      conv =>
        lhs
        whnf
        arg 1
        whnf
    case hq0B3 => exact fun _ _ _ h => h
    case ff0B3 => kernel_rfl
    case rr0B3 => kernel_rfl
    case hw0B3 => rfl
    case hy0B3 =>
      intro w hSw
      (try dsimp only at hSw)
      first
      | (go_simp; done)
      | (go_simp; with_reducible rfl)
    try simp only [Act.put, List.setIfInBounds_toArray, List.set_cons_zero, List.set_cons_succ]
    refine wpAnyH_take (i := 1) (oi := ?oi1B3) (v := ?v1B3) ?oi0_1B3 (by kernel_rfl) ?ff1B3 ?rr1B3 ?hq1B3 (Or.inl ⟨?hw1B3, ?hy1B3⟩) (by assumption) ?rest1B3
    case oi0_1B3 =>
      conv =>
        lhs
        whnf
        arg 1
        whnf
    case hq1B3 => exact fun _ _ _ h => h
    case ff1B3 => kernel_rfl
    case rr1B3 => kernel_rfl
    case hw1B3 => rfl
    case hy1B3 =>
      intro w hSw
      (try dsimp only at hSw)
      first
      | (go_simp; done)
      | (go_simp; with_reducible rfl)
    try simp only [Act.put, List.setIfInBounds_toArray, List.set_cons_zero, List.set_cons_succ]
    refine wpAnyH_take (i := 2) (oi := ?oi2B3) (v := ?v2B3) ?oi0_2B3 (by kernel_rfl) ?ff2B3 ?rr2B3 ?hq2B3 (Or.inl ⟨?hw2B3, ?hy2B3⟩) (by assumption) ?rest2B3
    case oi0_2B3 =>
      conv =>
        lhs
        whnf
        arg 1
        whnf
    case hq2B3 => exact fun _ _ _ h => h
    case ff2B3 => kernel_rfl
    case rr2B3 => kernel_rfl
    case hw2B3 => rfl
    case hy2B3 =>
      intro w hSw
      (try dsimp only at hSw)
      first
      | (go_simp; done)
      | (go_simp; with_reducible rfl)
    try simp only [Act.put, List.setIfInBounds_toArray, List.set_cons_zero, List.set_cons_succ]
    refine wpAnyH_take (i := 3) (oi := ?oi3B3) (v := ?v3B3) ?oi0_3B3 (by kernel_rfl) ?ff3B3 ?rr3B3 ?hq3B3 (Or.inl ⟨?hw3B3, ?hy3B3⟩) (by assumption) ?rest3B3
    case oi0_3B3 =>
      conv =>
        lhs
        whnf
        arg 1
        whnf
    case hq3B3 => exact fun _ _ _ h => h
    case ff3B3 => kernel_rfl
    case rr3B3 => kernel_rfl
    case hw3B3 => rfl
    case hy3B3 =>
      intro w hSw
      (try dsimp only at hSw)
      first
      | (go_simp; done)
      | (go_simp; with_reducible rfl)
    try simp only [Act.put, List.setIfInBounds_toArray, List.set_cons_zero, List.set_cons_succ]
    refine wpAnyH_take (i := 4) (oi := ?oi4B3) (v := ?v4B3) ?oi0_4B3 (by kernel_rfl) ?ff4B3 ?rr4B3 ?hq4B3 (Or.inl ⟨?hw4B3, ?hy4B3⟩) (by assumption) ?rest4B3
    case oi0_4B3 =>
      conv =>
        lhs
        whnf
        arg 1
        whnf
    case hq4B3 => exact fun _ _ _ h => h
    case ff4B3 => kernel_rfl
    case rr4B3 => kernel_rfl
    case hw4B3 => rfl
    case hy4B3 =>
      intro w hSw
      (try dsimp only at hSw)
      first
      | (go_simp; done)
      | (go_simp; with_reducible rfl)
    try simp only [Act.put, List.setIfInBounds_toArray, List.set_cons_zero, List.set_cons_succ]
    refine wpAnyH_take (i := 5) (oi := ?oi5B3) (v := ?v5B3) ?oi0_5B3 (by kernel_rfl) ?ff5B3 ?rr5B3 ?hq5B3 (Or.inl ⟨?hw5B3, ?hy5B3⟩) (by assumption) ?rest5B3
    case oi0_5B3 =>
      conv =>
        lhs
        whnf
        arg 1
        whnf
    case hq5B3 => exact fun _ _ _ h => h
    case ff5B3 => kernel_rfl
    case rr5B3 => kernel_rfl
    case hw5B3 => rfl
    case hy5B3 =>
      intro w hSw
      (try dsimp only at hSw)
      first
      | (go_simp; done)
      | (go_simp; with_reducible rfl)
    try simp only [Act.put, List.setIfInBounds_toArray, List.set_cons_zero, List.set_cons_succ]
    refine wpAnyH_take (i := 7) (oi := ?oi7B3) (v := ?v7B3) ?oi0_7B3 (by kernel_rfl) ?ff7B3 ?rr7B3 ?hq7B3 (Or.inl ⟨?hw7B3, ?hy7B3⟩) (by assumption) ?rest7B3
    case oi0_7B3 =>
      conv =>
        lhs
        whnf
        arg 1
        whnf
    case hq7B3 => exact fun _ _ _ h => h
    case ff7B3 => kernel_rfl
    case rr7B3 => kernel_rfl
    case hw7B3 => rfl
    case hy7B3 =>
      intro w hSw
      (try dsimp only at hSw)
      first
      | (go_simp; done)
      | (go_simp; with_reducible rfl)
    try simp only [Act.put, List.setIfInBounds_toArray, List.set_cons_zero, List.set_cons_succ]
    refine wpAnyH_ready (rs := [6]) (by kernel_rfl) (by simp) (AllReadyH.cons (o := ?oi6B3) ?oi0_6B3 (fun K hK => ?_) AllReadyH.nil)
    case oi0_6B3 =>
      conv =>
        lhs
        whnf
        arg 1
        whnf
    go_simp
    refine (HPA.out _).mono ?_
    rintro e1 w' ⟨rfl, rfl⟩
    (try dsimp only)
    refine hK.out _ _ (by assumption) (fun hHeld => ?_)
    clear hK K
    try simp only [Act.put, List.setIfInBounds_toArray, List.set_cons_zero, List.set_cons_succ]
    refine wpAnyH_take (i := 8) (oi := ?oi8B3) (v := ?v8B3) ?oi0_8B3 (by kernel_rfl) ?ff8B3 ?rr8B3 ?hq8B3 (Or.inl ⟨?hw8B3, ?hy8B3⟩) (by assumption) ?rest8B3
    case oi0_8B3 =>
      conv =>
        lhs
        whnf
        arg 1
        whnf
    case hq8B3 => exact fun _ _ _ h => h
    case ff8B3 => kernel_rfl
    case rr8B3 => kernel_rfl
    case hw8B3 => rfl
    case hy8B3 =>
      intro w hSw
      (try dsimp only at hSw)
      first
      | (go_simp; done)
      | (go_simp; with_reducible rfl)
    try simp only [Act.put, List.setIfInBounds_toArray, List.set_cons_zero, List.set_cons_succ]
    refine wpAnyH_take (i := 9) (oi := ?oi9B3) (v := ?v9B3) ?oi0_9B3 (by kernel_rfl) ?ff9B3 ?rr9B3 ?hq9B3 (Or.inl ⟨?hw9B3, ?hy9B3⟩) (by assumption) ?rest9B3
    case oi0_9B3 =>
      conv =>
        lhs
        whnf
        arg 1
        whnf
    case hq9B3 => exact fun _ _ _ h => h
    case ff9B3 => kernel_rfl
    case rr9B3 => kernel_rfl
    case hw9B3 => rfl
    case hy9B3 =>
      intro w hSw
      (try dsimp only at hSw)
      first
      | (go_simp; done)
      | (go_simp; with_reducible rfl)
    try simp only [Act.put, List.setIfInBounds_toArray, List.set_cons_zero, List.set_cons_succ]
    refine wpAnyH_ready (rs := [10]) (by kernel_rfl) (by simp) (AllReadyH.cons (o := ?oi10B3) ?oi0_10B3 (fun K hK => ?_) AllReadyH.nil)
    case oi0_10B3 =>
      conv =>
        lhs
        whnf
        arg 1
        whnf
    go_simp
    (try dsimp only)
    refine hK.out _ _ (by show (w6.setCell ⟨g, j * 2 + 1, none⟩ (.int .i64 n)).cell? ⟨w.heap.size, 4, none⟩ = _; rw [World.cell?_setCell_far _ _ _ _ (by show g ≠ w.heap.size; exact HNE.out)]; exact m4) (fun hHeld => ?_)
    clear hK K
    try simp only [Act.put, List.setIfInBounds_toArray, List.set_cons_zero, List.set_cons_succ]
    refine wpAnyH_done (by kernel_rfl) ?_ _
    obtain ⟨w7, hw7⟩ : ∃ x, (w6.setCell ⟨g, j * 2 + 1, none⟩ (.int .i64 n)).drew = x := ⟨_, rfl⟩
    have ud : Upd [] w6 w6.drew := (Upd.refl [] _).drew
    have u7 : Upd [g] w6 w7 := by rw [← hw7]; exact ((Upd.refl [g] w6).setCell (p := ⟨g, j * 2 + 1, none⟩) (.inl (by simp)) _).drew
    have B7 := hide (B6.out.upd u7 (by simpa using fun e => HNE.out e.symm))
    have R7 := hide (R6.out.upd u7 (by simpa using fun e => HNR.out e.symm))
    have r6 := it_own_set ROW4.out (j * 2 + 1) (.int .i64 n)
    rw [spCells_setTo] at r6
    have r7 := own_kept r6 ((Upd.refl [] _).drew) (by simp)
    rw [hw7] at r7
    clear r6
    have ROW47 := hide r7
    have ROW37 := hide (own_kept ROW3.out u7 (fun q hq hm => by obtain rfl : q = g := List.mem_singleton.1 hm; have h1 := HLT3.out q hq; have h2 := HGB.out; omega))
    have UU7 := hide (show Upd [] w w7 from UU6.out.trans u7 (fun x hx => .inr (by obtain rfl : x = g := List.mem_singleton.1 hx; have h1 := HGB.out; have h2 := HZ2.out; have h3 := HZ4.out; omega)))
    rw [hw7]
    clear hw7 u7 ud r7 ce' fe' fz c0 c1
    clear m0 f0 m1 f1 m2 f2 m3 f3 m4 f4 m5 f5 m6 f6 m7 f7
    have m0 := B7.out.cell 0
    have m1 := B7.out.cell 1
    have m2 := B7.out.cell 2
    have m3 := B7.out.cell 3
    have m4 := B7.out.cell 4
    have m5 := B7.out.cell 5
    have m6 := B7.out.cell 6
    have m7 := B7.out.cell 7
    have f0 := B7.out.frozen 0
    have f1 := B7.out.frozen 1
    have f2 := B7.out.frozen 2
    have f3 := B7.out.frozen 3
    have f4 := B7.out.frozen 4
    have f5 := B7.out.frozen 5
    have f6 := B7.out.frozen 6
    have f7 := B7.out.frozen 7
    have r0 := R7.out.cell 0
    have q0 := R7.out.frozen 0
    have r1 := R7.out.cell 1
    have q1 := R7.out.frozen 1
    have r2 := R7.out.cell 2
    have q2 := R7.out.frozen 2
    have r3 := R7.out.cell 3
    have q3 := R7.out.frozen 3
    have r4 := R7.out.cell 4
    have q4 := R7.out.frozen 4
    have r5 := R7.out.cell 5
    have q5 := R7.out.frozen 5
    have r6 := R7.out.cell 6
    have q6 := R7.out.frozen 6
    have r7 := R7.out.cell 7
    have q7 := R7.out.frozen 7
    go_upto_region 26 with fail
    go_wp2_with fail
    obtain ⟨wf, hwf⟩ : ∃ x, ((((((((w7.setCell ⟨w.heap.size + 1, 0, none⟩ (.int .i64 i.id)).setCell ⟨w.heap.size + 1, 1, none⟩ (.int .i64 i.kind)).setCell ⟨w.heap.size + 1, 2, none⟩ (.int .i64 i.len)).setCell ⟨w.heap.size + 1, 3, none⟩ (.slice A3 i.trims.length c3)).setCell ⟨w.heap.size + 1, 4, none⟩ (.slice (some ⟨g, 0, none⟩) i.talks.length c4)).setCell ⟨w.heap.size + 1, 5, none⟩ (.int .i64 i.artist)).setCell ⟨w.heap.size + 1, 6, none⟩ (.int .i64 i.tempo)).setCell ⟨w.heap.size + 1, 7, none⟩ (.int .i64 i.lang)) = x := ⟨_, rfl⟩
    have bf : Blk wf (w.heap.size + 1) 24 [.int .i64 i.id, .int .i64 i.kind, .int .i64 i.len, .slice A3 i.trims.length c3, .slice (some ⟨g, 0, none⟩) i.talks.length c4, .int .i64 i.artist, .int .i64 i.tempo, .int .i64 i.lang] := by rw [← hwf]; exact ((((((((R7.out.set_ 0 (.int .i64 i.id)).set_ 1 (.int .i64 i.kind)).set_ 2 (.int .i64 i.len)).set_ 3 (.slice A3 i.trims.length c3)).set_ 4 (.slice (some ⟨g, 0, none⟩) i.talks.length c4)).set_ 5 (.int .i64 i.artist)).set_ 6 (.int .i64 i.tempo)).set_ 7 (.int .i64 i.lang))
    have uf : Upd [w.heap.size + 1] w7 wf := by rw [← hwf]; exact (((((((((Upd.refl [w.heap.size + 1] w7).setCell (p := ⟨w.heap.size + 1, 0, none⟩) (.inl (by simp)) _).setCell (p := ⟨w.heap.size + 1, 1, none⟩) (.inl (by simp)) _).setCell (p := ⟨w.heap.size + 1, 2, none⟩) (.inl (by simp)) _).setCell (p := ⟨w.heap.size + 1, 3, none⟩) (.inl (by simp)) _).setCell (p := ⟨w.heap.size + 1, 4, none⟩) (.inl (by simp)) _).setCell (p := ⟨w.heap.size + 1, 5, none⟩) (.inl (by simp)) _).setCell (p := ⟨w.heap.size + 1, 6, none⟩) (.inl (by simp)) _).setCell (p := ⟨w.heap.size + 1, 7, none⟩) (.inl (by simp)) _)
    rw [hwf]
    clear hwf
    have UF := hide uf
    clear uf
    have v0 := bf.cell 0
    have v1 := bf.cell 1
    have v2 := bf.cell 2
    have v3 := bf.cell 3
    have v4 := bf.cell 4
    have v5 := bf.cell 5
    have v6 := bf.cell 6
    have v7 := bf.cell 7
    refine bodyPost_ret (v := .agg #[.int .i64 i.id, .int .i64 i.kind, .int .i64 i.len, .slice A3 i.trims.length c3, .slice (some ⟨g, 0, none⟩) i.talks.length c4, .int .i64 i.artist, .int .i64 i.tempo, .int .i64 i.lang]) (by simp [results, Try.results11, go_sem, v0, v1, v2, v3, v4, v5, v6, v7]) rfl ?_
    obtain ⟨uc, ut, uk⟩ := bent_end UU7.out (Upd.refl _ _) UF.out B7.out R7.out ROW37.out ROW47.out HZ2.out
    have ej : bentS i how n at_ = { i with talks := setTo i.talks (pickS at_ i.talks.length).toNat n } := by unfold bentS; simp [HC.out]
    rw [ej]
    have ee : (setTo i.talks (pickS at_ i.talks.length).toNat n).length = i.talks.length := by unfold setTo; rw [List.length_set]
    have et : (pickS at_ i.talks.length).toNat = j := by rw [HJ.out]; rfl
    rw [et] at ee ⊢
    refine ⟨A3, c3, (some ⟨g, 0, none⟩), c4, by rw [ee], ⟨ut, uk⟩, uc⟩
  · have hcv : True := trivial
    obtain ⟨n1, hn1⟩ : ∃ x, IntKind.i64.wrap (n + 1) = x := ⟨_, rfl⟩
    have O1 := hide (show ∀ u ∈ [Value.int .i64 n, Value.int .i64 (n1)], u.oneCell' = true by simp [Value.oneCell'])
    have O3 := hide (show i.trims.length + 1 ≤ maxLen by unfold maxLen; omega)
    have O4 := hide (show (i.trims.length + 1) * 16 ≤ 140737488355328 by omega)
    have OB := hide (ROW3.out.alloc (.cells #[.int .i64 n, .int .i64 (n1)] 53))
    have OS := hide (show w2.heap.size ≤ (w6.alloc (.cells #[.int .i64 n, .int .i64 (n1)] 53)).heap.size by rw [World.size_alloc]; have := HZ2.out; have := HZ6.out; omega)
    have B6a := hide (B6.out.alloc (.cells #[.int .i64 n, .int .i64 (n1)] 53))
    have HNE := hide (show w.heap.size ∉ (A3.map (·.block)).toList from fun hm => own_blk_ne ROW3.out B6.out (by decide) w.heap.size (by rw [ownBlock_slice]; simpa using hm) rfl)
    have HNR := hide (show w.heap.size + 1 ∉ (A3.map (·.block)).toList from fun hm => own_blk_ne ROW3.out R6.out (by decide) (w.heap.size + 1) (by rw [ownBlock_slice]; simpa using hm) rfl)
    have HN4 := hide (show ∀ q, (Value.slice A4 i.talks.length c4).ownBlock = some q → q ∉ (A3.map (·.block)).toList from fun q hq hm => by have h1 := it_own_block ROW4.out q hq; have h2 := HLT3.out q (by rw [ownBlock_slice]; simpa using hm); omega)
    have HN3 := hide (show ∀ q ∈ (A3.map (·.block)).toList, w.heap.size ≤ q from fun q hq => by have h1 := it_own_block ROW3.out q (by rw [ownBlock_slice]; simpa using hq); have h2 := HZ2.out; omega)
    go_upto_region 26 with (at_builtin; refine wpList_append_base rfl (.tmp 22) (.tmp 27) _ rfl w2.heap.size 53 _ 2 16 Try.underlying22 it_info_spell rfl (by decide) A3 i.trims.length c3 _ rfl OB.out ⟨w6.heap.size, 0, none⟩ 1 1 [.int .i64 n, .int .i64 (n1)] rfl rfl (cell_two_new _ _ _ _) O1.out O3.out O4.out OS.out ?_; intro A5 c5 w9 h9 u9 a9; have H9 := hide h9; have U9 := hide u9; have Q9 := hide (B6a.out.upd u9 HNE.out); have e3 := Q9.out.cell 3; have e4 := Q9.out.frozen 3; clear h9 u9 a9)
    have ua : Upd [] w6 (w6.alloc (.cells #[.int .i64 n, .int .i64 (n1)] 53)) := (Upd.refl [] _).alloc _
    have h9 := H9.out
    have u69 : Upd (A3.map (·.block)).toList w6 w9 := (ua.mono (by simp)).trans U9.out (fun x hx => .inl hx)
    have row4 := own_kept ROW4.out u69 HN4.out
    have r9 := R6.out.upd u69 HNR.out
    have uw9 : Upd [] w w9 := UU6.out.trans u69 (fun x hx => .inr (HN3.out x hx))
    have us : Upd [w.heap.size] w9 (w9.setCell ⟨w.heap.size, 3, none⟩ (.slice A5 (i.trims.length + 1) c5)) := (Upd.refl _ _).setCell (p := ⟨w.heap.size, 3, none⟩) (.inl (by simp)) _
    have b7 := Q9.out.set_ 3 (.slice A5 (i.trims.length + 1) c5)
    obtain ⟨w7, hw7⟩ : ∃ x, w9.setCell ⟨w.heap.size, 3, none⟩ (.slice A5 (i.trims.length + 1) c5) = x := ⟨_, rfl⟩
    rw [hw7] at us b7 ⊢
    have row3 := own_kept h9 us (fun q hq hm => own_blk_ne h9 Q9.out (by decide) q hq (by simpa using hm))
    have row42 := own_kept row4 us (fun q hq hm => own_blk_ne row4 Q9.out (by decide) q hq (by simpa using hm))
    have esp : spCells i.trims ++ [.int .i64 n, .int .i64 (n1)] = spCells (i.trims ++ [⟨n, n1⟩]) := by rw [spCells_append]; rfl
    rw [esp] at row3
    have B7 := hide (show Blk w7 w.heap.size 24 [.int .i64 i.id, .int .i64 i.kind, .int .i64 i.len, .slice A5 (i.trims.length + 1) c5, .slice A4 i.talks.length c4, .int .i64 i.artist, .int .i64 i.tempo, .int .i64 i.lang] from b7)
    have R7 := hide (r9.upd us (by simp))
    have UU7 := hide (show Upd [] w w7 from uw9.trans us (by simp))
    have ROW37 := hide row3
    have ROW47 := hide row42
    clear ua h9 u69 row4 r9 uw9 us b7 hw7 row3 row42 esp e3 e4
    clear m0 f0 m1 f1 m2 f2 m3 f3 m4 f4 m5 f5 m6 f6 m7 f7
    have m0 := B7.out.cell 0
    have m1 := B7.out.cell 1
    have m2 := B7.out.cell 2
    have m3 := B7.out.cell 3
    have m4 := B7.out.cell 4
    have m5 := B7.out.cell 5
    have m6 := B7.out.cell 6
    have m7 := B7.out.cell 7
    have f0 := B7.out.frozen 0
    have f1 := B7.out.frozen 1
    have f2 := B7.out.frozen 2
    have f3 := B7.out.frozen 3
    have f4 := B7.out.frozen 4
    have f5 := B7.out.frozen 5
    have f6 := B7.out.frozen 6
    have f7 := B7.out.frozen 7
    have r0 := R7.out.cell 0
    have q0 := R7.out.frozen 0
    have r1 := R7.out.cell 1
    have q1 := R7.out.frozen 1
    have r2 := R7.out.cell 2
    have q2 := R7.out.frozen 2
    have r3 := R7.out.cell 3
    have q3 := R7.out.frozen 3
    have r4 := R7.out.cell 4
    have q4 := R7.out.frozen 4
    have r5 := R7.out.cell 5
    have q5 := R7.out.frozen 5
    have r6 := R7.out.cell 6
    have q6 := R7.out.frozen 6
    have r7 := R7.out.cell 7
    have q7 := R7.out.frozen 7
    go_wp2_with fail
    obtain ⟨wf, hwf⟩ : ∃ x, ((((((((w7.setCell ⟨w.heap.size + 1, 0, none⟩ (.int .i64 i.id)).setCell ⟨w.heap.size + 1, 1, none⟩ (.int .i64 i.kind)).setCell ⟨w.heap.size + 1, 2, none⟩ (.int .i64 i.len)).setCell ⟨w.heap.size + 1, 3, none⟩ (.slice A5 (i.trims.length + 1) c5)).setCell ⟨w.heap.size + 1, 4, none⟩ (.slice A4 i.talks.length c4)).setCell ⟨w.heap.size + 1, 5, none⟩ (.int .i64 i.artist)).setCell ⟨w.heap.size + 1, 6, none⟩ (.int .i64 i.tempo)).setCell ⟨w.heap.size + 1, 7, none⟩ (.int .i64 i.lang)) = x := ⟨_, rfl⟩
    have bf : Blk wf (w.heap.size + 1) 24 [.int .i64 i.id, .int .i64 i.kind, .int .i64 i.len, .slice A5 (i.trims.length + 1) c5, .slice A4 i.talks.length c4, .int .i64 i.artist, .int .i64 i.tempo, .int .i64 i.lang] := by rw [← hwf]; exact ((((((((R7.out.set_ 0 (.int .i64 i.id)).set_ 1 (.int .i64 i.kind)).set_ 2 (.int .i64 i.len)).set_ 3 (.slice A5 (i.trims.length + 1) c5)).set_ 4 (.slice A4 i.talks.length c4)).set_ 5 (.int .i64 i.artist)).set_ 6 (.int .i64 i.tempo)).set_ 7 (.int .i64 i.lang))
    have uf : Upd [w.heap.size + 1] w7 wf := by rw [← hwf]; exact (((((((((Upd.refl [w.heap.size + 1] w7).setCell (p := ⟨w.heap.size + 1, 0, none⟩) (.inl (by simp)) _).setCell (p := ⟨w.heap.size + 1, 1, none⟩) (.inl (by simp)) _).setCell (p := ⟨w.heap.size + 1, 2, none⟩) (.inl (by simp)) _).setCell (p := ⟨w.heap.size + 1, 3, none⟩) (.inl (by simp)) _).setCell (p := ⟨w.heap.size + 1, 4, none⟩) (.inl (by simp)) _).setCell (p := ⟨w.heap.size + 1, 5, none⟩) (.inl (by simp)) _).setCell (p := ⟨w.heap.size + 1, 6, none⟩) (.inl (by simp)) _).setCell (p := ⟨w.heap.size + 1, 7, none⟩) (.inl (by simp)) _)
    rw [hwf]
    clear hwf
    have UF := hide uf
    clear uf
    have v0 := bf.cell 0
    have v1 := bf.cell 1
    have v2 := bf.cell 2
    have v3 := bf.cell 3
    have v4 := bf.cell 4
    have v5 := bf.cell 5
    have v6 := bf.cell 6
    have v7 := bf.cell 7
    refine bodyPost_ret (v := .agg #[.int .i64 i.id, .int .i64 i.kind, .int .i64 i.len, .slice A5 (i.trims.length + 1) c5, .slice A4 i.talks.length c4, .int .i64 i.artist, .int .i64 i.tempo, .int .i64 i.lang]) (by simp [results, Try.results11, go_sem, v0, v1, v2, v3, v4, v5, v6, v7]) rfl ?_
    obtain ⟨uc, ut, uk⟩ := bent_end UU7.out (Upd.refl _ _) UF.out B7.out R7.out ROW37.out ROW47.out HZ2.out
    have ej : bentS i how n at_ = { i with trims := i.trims ++ [⟨n, n1⟩] } := by unfold bentS; rw [HC.out, ← hn1]; simp
    rw [ej]
    refine ⟨A5, c5, A4, c4, by rw [List.length_append]; rfl, ⟨ut, uk⟩, uc⟩
end Go.Proofs.Ytpkeimdlcafcnaa
