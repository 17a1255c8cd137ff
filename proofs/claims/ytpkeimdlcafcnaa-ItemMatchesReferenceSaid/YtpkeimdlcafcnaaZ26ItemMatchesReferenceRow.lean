/-
  The chapter's example: what each function says of it.
  sane: the chapter's examples hold.
  Places of a shortened recording: the plain law.
  Lengths and preferred cuts: the plain laws.
  aircheckref07.out: a second is left out.
  aircheckref07.Before: the order of cuts.
  Talk: the plain laws.
  aircheckref07.In.
  aircheckref07.Cut.
  Small lemmas of several laws.
  Places by counting: the plain laws.
  aircheckref07.Place.
  aircheckref07.Heard.
  Spells that ascend and do not touch are told by their seconds.
  The reference's Talk, second by second: the plain laws.
  aircheckref07.Talk.
-/
import Derived.Test.YtpkeimdlcafcnaaZ14ItemMatchesReferenceRow
import Derived.Test.YtpkeimdlcafcnaaZ23ItemMatchesReferenceRow
import Derived.Test.YtpkeimdlcafcnaaZ25ItemMatchesReferenceRow
import Derived.Test.YtpkeimdlcafcnaaZ19ItemMatchesReferenceRow
import Derived.Deep.CutBlock
import Derived.Test.YtpkeimdlcafcnaaZ16ItemMatchesReferenceRow
import Derived.Test.YtpkeimdlcafcnaaZ13ItemMatchesReferenceRow
import Derived.Test.YtpkeimdlcafcnaaZ10ItemMatchesReferenceRow
import Derived.Test.YtpkeimdlcafcnaaZ17ItemMatchesReferenceRow

namespace Go.Proofs.Ytpkeimdlcafcnaa
open Go.RowKit
set_option maxRecDepth 100000
set_option maxHeartbeats 4000000

def exS : It := ⟨3, 1, 200, [⟨10, 30⟩, ⟨150, 180⟩], [⟨0, 15⟩, ⟨170, 200⟩], 7, 3, 2⟩
theorem exOk : ItOk exS := by decide
theorem ex_lengths : lengthsS exS = [150, 170, 180, 200] := by
  refine asc_ext (lengthsS_asc exS) (by decide) fun x => ?_
  rw [mem_lengthsS, show allLens exS = [200, 180, 170, 150] by decide]
  simp only [List.mem_cons, List.not_mem_nil, or_false]
  omega
theorem ex_best1 : bestOf exS 170 (List.range (2 ^ exS.trims.length)) = some [1] := by decide
theorem ex_best2 : bestOf exS 160 (List.range (2 ^ exS.trims.length)) = none := by decide
theorem putS_len (x : Int) (h0 : 0 ≤ x) (h1 : x < 8192) : (putS x).length = if x < 64 then 1 else 2 := by
  unfold putS
  rw [List.length_map]
  have e : zigS x = (2 * x).toNat := by unfold zigS; rw [if_neg (by omega)]
  rw [e]
  by_cases h : x < 64
  · rw [if_pos h, groupsS_last (by omega)]
    rfl
  · rw [if_neg h, groupsS_more (by omega), groupsS_last (by omega)]
    rfl
theorem ex_enc : (ByteArray.mk (encS exS).toArray).size = 21 := by
  have e : allS exS = [3, 1, 200, 7, 3, 2, 2, 10, 30, 150, 180, 2, 0, 15, 170, 200] := by decide
  have e2 : (ByteArray.mk (encS exS).toArray).size = (encS exS).length := by simp [ByteArray.size]
  rw [e2]
  unfold encS
  rw [e]
  simp only [List.flatMap_cons, List.flatMap_nil, List.length_append, List.length_nil]
  rw [putS_len 3 (by omega) (by omega), putS_len 1 (by omega) (by omega), putS_len 200 (by omega) (by omega), putS_len 7 (by omega) (by omega), putS_len 2 (by omega) (by omega), putS_len 10 (by omega) (by omega), putS_len 30 (by omega) (by omega), putS_len 150 (by omega) (by omega), putS_len 180 (by omega) (by omega), putS_len 0 (by omega) (by omega), putS_len 15 (by omega) (by omega), putS_len 170 (by omega) (by omega)]
  decide
theorem it_lit_ints (w : World) (cs : List Int) (n : Nat) (hn : cs.length = n) : Ints (w.alloc (.cells (cs.map (Value.int .i64)).toArray 3)).heap.size (w.alloc (.cells (cs.map (Value.int .i64)).toArray 3)) (.slice (some ⟨w.heap.size, 0, none⟩) n n) cs := by
  subst hn
  refine .inr ⟨w.heap.size, 0, cs.length, rfl, by simp, fun j hj => ?_⟩
  have := (Blk.new w 3 (cs.map (Value.int .i64))).cell j
  rw [Nat.zero_add, this, List.getElem?_map, List.getElem?_eq_getElem hj]
  rfl
theorem lit_sps (w : World) (l : List Sp) : SpsAt (w.alloc (.cells (spCells l).toArray 53)).heap.size (w.alloc (.cells (spCells l).toArray 53)) (some ⟨w.heap.size, 0, none⟩) l := by
  intro k s hs
  obtain ⟨h1, h2⟩ := spCells_at hs
  have B := Blk.new w 53 (spCells l)
  exact ⟨w.heap.size, 0, rfl, by simp, by rw [Nat.zero_add, B.cell, h1], by rw [Nat.zero_add, B.cell, h2]⟩

/-! Any recording in memory: the functions at it, in whatever world behind. -/
section
variable {W : World} {i : It} {ta ka : Option Addr}
theorem use_valid (h : ItAt W i ta ka) (hok : ItOk i) (tc kc : Nat) : Calls Try.prog 12 #[.agg #[.int .i64 i.id, .int .i64 i.kind, .int .i64 i.len, .slice ta i.trims.length tc, .slice ka i.talks.length kc, .int .i64 i.artist, .int .i64 i.tempo, .int .i64 i.lang]] W fun e w' => e = .returned (.bool true) ∧ Upd [] W w' := by
  have := valid_it i ta tc ka kc W h.trims h.talks (Nat.le_refl _) (by have := hok.2.1.1.2; unfold maxLen; omega) (by have := hok.2.1.2.2; unfold maxLen; omega)
  rwa [decide_eq_true hok] at this
theorem use_length (h : ItAt W i ta ka) (hok : ItOk i) (tc kc : Nat) (ca : Option Addr) (cn cc : Nat) (cut : List Int) (hC : Ints W.heap.size W (.slice ca cn cc) cut) (hc : CutOk i.trims.length cut) (n : Int) (hn : cutLen i cut = n) :
    Calls Try.prog 24 #[.agg #[.int .i64 i.id, .int .i64 i.kind, .int .i64 i.len, .slice ta i.trims.length tc, .slice ka i.talks.length kc, .int .i64 i.artist, .int .i64 i.tempo, .int .i64 i.lang], .slice ca cn cc] W fun e w' => e = .returned (.tuple #[.int .i64 n, .int .i64 0]) ∧ Upd [] W w' := by
  have := itemLength i ta tc ka kc ca cn cc cut W h.trims h.talks (Nat.le_refl _) (by have := hok.2.1.1.2; unfold maxLen; omega) (by have := hok.2.1.2.2; unfold maxLen; omega) hC (Nat.le_refl _) (by have := hC.form.1; have := hc.2; unfold maxLen; omega)
  rwa [if_pos ⟨hok, hc⟩, hn] at this
theorem use_place (h : ItAt W i ta ka) (hok : ItOk i) (tc kc : Nat) (ca : Option Addr) (cn cc : Nat) (cut : List Int) (hC : Ints W.heap.size W (.slice ca cn cc) cut) (hc : CutOk i.trims.length cut) (at_ n : Int) (h0 : 0 ≤ at_) (h1 : at_ < cutLen i cut) (hn : placeS i.trims cut at_ = n) :
    Calls Try.prog 29 #[.agg #[.int .i64 i.id, .int .i64 i.kind, .int .i64 i.len, .slice ta i.trims.length tc, .slice ka i.talks.length kc, .int .i64 i.artist, .int .i64 i.tempo, .int .i64 i.lang], .slice ca cn cc, .int .i64 at_] W fun e w' => e = .returned (.tuple #[.int .i64 n, .int .i64 0]) ∧ Upd [] W w' := by
  have := itemPlace i ta tc ka kc ca cn cc cut at_ W h.trims h.talks (Nat.le_refl _) (by have := hok.2.1.1.2; unfold maxLen; omega) (by have := hok.2.1.2.2; unfold maxLen; omega) hC (Nat.le_refl _) (by have := hC.form.1; have := hc.2; unfold maxLen; omega)
  rwa [if_pos ⟨⟨hok, hc⟩, h0, h1⟩, hn] at this
theorem use_noplace (h : ItAt W i ta ka) (hok : ItOk i) (tc kc : Nat) (ca : Option Addr) (cn cc : Nat) (cut : List Int) (hC : Ints W.heap.size W (.slice ca cn cc) cut) (hcl : cut.length ≤ 4) (at_ : Int) (h1 : cutLen i cut ≤ at_) :
    Calls Try.prog 29 #[.agg #[.int .i64 i.id, .int .i64 i.kind, .int .i64 i.len, .slice ta i.trims.length tc, .slice ka i.talks.length kc, .int .i64 i.artist, .int .i64 i.tempo, .int .i64 i.lang], .slice ca cn cc, .int .i64 at_] W fun e w' => e = .returned (.tuple #[.int .i64 0, .int .i64 70]) ∧ Upd [] W w' := by
  have := itemPlace i ta tc ka kc ca cn cc cut at_ W h.trims h.talks (Nat.le_refl _) (by have := hok.2.1.1.2; unfold maxLen; omega) (by have := hok.2.1.2.2; unfold maxLen; omega) hC (Nat.le_refl _) (by have := hC.form.1; unfold maxLen; omega)
  rwa [if_neg (fun h => by have := h.2.2; omega)] at this
theorem use_heard (h : ItAt W i ta ka) (hok : ItOk i) (tc kc : Nat) (ca : Option Addr) (cn cc : Nat) (cut : List Int) (hC : Ints W.heap.size W (.slice ca cn cc) cut) (hc : CutOk i.trims.length cut) (second n : Int) (h0 : 0 ≤ second) (h1 : second < i.len) (hn : heardS i.trims cut second second = n) :
    Calls Try.prog 31 #[.agg #[.int .i64 i.id, .int .i64 i.kind, .int .i64 i.len, .slice ta i.trims.length tc, .slice ka i.talks.length kc, .int .i64 i.artist, .int .i64 i.tempo, .int .i64 i.lang], .slice ca cn cc, .int .i64 second] W fun e w' => e = .returned (.tuple #[.int .i64 n, .int .i64 0]) ∧ Upd [] W w' := by
  have := itemHeard i ta tc ka kc ca cn cc cut second W h.trims h.talks (Nat.le_refl _) (by have := hok.2.1.1.2; unfold maxLen; omega) (by have := hok.2.1.2.2; unfold maxLen; omega) hC (Nat.le_refl _) (by have := hC.form.1; have := hc.2; unfold maxLen; omega)
  rwa [if_pos ⟨⟨hok, hc⟩, h0, h1⟩, hn] at this
theorem use_talk (h : ItAt W i ta ka) (hok : ItOk i) (tc kc : Nat) (ca : Option Addr) (cn cc : Nat) (cut : List Int) (hC : Ints W.heap.size W (.slice ca cn cc) cut) (hc : CutOk i.trims.length cut) (l : List Sp) (hl : talkS (beforeS i.trims cut) i.talks = l) :
    Calls Try.prog 26 #[.agg #[.int .i64 i.id, .int .i64 i.kind, .int .i64 i.len, .slice ta i.trims.length tc, .slice ka i.talks.length kc, .int .i64 i.artist, .int .i64 i.tempo, .int .i64 i.lang], .slice ca cn cc] W fun e w' => ∃ la lc, e = .returned (.tuple #[.slice la l.length lc, .int .i64 0]) ∧ SpsAt w'.heap.size w' la l ∧ Upd [] W w' := by
  refine (itemTalk i ta tc ka kc ca cn cc cut W h.trims h.talks (Nat.le_refl _) (by have := hok.2.1.1.2; unfold maxLen; omega) (by have := hok.2.1.2.2; unfold maxLen; omega) hC (Nat.le_refl _) (by have := hC.form.1; have := hc.2; unfold maxLen; omega)).mono fun e w' h => ?_
  unfold TalkPost at h
  rw [if_pos ⟨hok, hc⟩, hl] at h
  obtain ⟨v, h1, h2, h3⟩ := h
  obtain ⟨A, c, rfl⟩ := own_form h2
  exact ⟨A, c, h1, own_sps h2, h3⟩
theorem use_lengths (h : ItAt W i ta ka) (hok : ItOk i) (tc kc : Nat) (l : List Int) (hl : lengthsS i = l) :
    Calls Try.prog 14 #[.agg #[.int .i64 i.id, .int .i64 i.kind, .int .i64 i.len, .slice ta i.trims.length tc, .slice ka i.talks.length kc, .int .i64 i.artist, .int .i64 i.tempo, .int .i64 i.lang]] W fun e w' => ∃ la lc, e = .returned (.tuple #[.slice la l.length lc, .int .i64 0]) ∧ Ints w'.heap.size w' (.slice la l.length lc) l ∧ Upd [] W w' := by
  refine (itemLengths i ta tc ka kc W h.trims h.talks (Nat.le_refl _) (by have := hok.2.1.1.2; unfold maxLen; omega) (by have := hok.2.1.2.2; unfold maxLen; omega)).mono fun e w' h => ?_
  unfold LengthsPost at h
  rw [if_pos hok, hl] at h
  obtain ⟨v, h1, h2, h3⟩ := h
  obtain ⟨A, c, rfl⟩ := own_form h2
  exact ⟨A, c, h1, it_own_ints h2, h3⟩
theorem use_cut (h : ItAt W i ta ka) (hok : ItOk i) (tc kc : Nat) (wanted : Int) (c : List Int) (hc : bestOf i wanted (List.range (2 ^ i.trims.length)) = some c) :
    Calls Try.prog 20 #[.agg #[.int .i64 i.id, .int .i64 i.kind, .int .i64 i.len, .slice ta i.trims.length tc, .slice ka i.talks.length kc, .int .i64 i.artist, .int .i64 i.tempo, .int .i64 i.lang], .int .i64 wanted] W fun e w' => ∃ la lc, e = .returned (.tuple #[.slice la c.length lc, .int .i64 0]) ∧ Ints w'.heap.size w' (.slice la c.length lc) c ∧ Upd [] W w' := by
  refine (itemCut i ta tc ka kc wanted W h.trims h.talks (Nat.le_refl _) (by have := hok.2.1.1.2; unfold maxLen; omega) (by have := hok.2.1.2.2; unfold maxLen; omega)).mono fun e w' h => ?_
  unfold CutPost at h
  rw [if_pos hok, hc] at h
  obtain ⟨h3, v, h1, h2⟩ := h
  obtain ⟨A, cc, rfl⟩ := own_form h2
  exact ⟨A, cc, h1, it_own_ints h2, h3⟩
theorem use_nocut (h : ItAt W i ta ka) (hok : ItOk i) (tc kc : Nat) (wanted : Int) (hc : bestOf i wanted (List.range (2 ^ i.trims.length)) = none) :
    Calls Try.prog 20 #[.agg #[.int .i64 i.id, .int .i64 i.kind, .int .i64 i.len, .slice ta i.trims.length tc, .slice ka i.talks.length kc, .int .i64 i.artist, .int .i64 i.tempo, .int .i64 i.lang], .int .i64 wanted] W fun e w' => e = .returned (.tuple #[.slice none 0 0, .int .i64 70]) ∧ Upd [] W w' := by
  refine (itemCut i ta tc ka kc wanted W h.trims h.talks (Nat.le_refl _) (by have := hok.2.1.1.2; unfold maxLen; omega) (by have := hok.2.1.2.2; unfold maxLen; omega)).mono fun e w' h => ?_
  unfold CutPost at h
  rw [if_pos hok, hc] at h
  exact ⟨h.2, h.1⟩
theorem use_encode (h : ItAt W i ta ka) (hok : ItOk i) (tc kc : Nat) :
    Calls Try.prog 16 #[.agg #[.int .i64 i.id, .int .i64 i.kind, .int .i64 i.len, .slice ta i.trims.length tc, .slice ka i.talks.length kc, .int .i64 i.artist, .int .i64 i.tempo, .int .i64 i.lang]] W fun e w' => e = .returned (.tuple #[.string ⟨(encS i).toArray⟩, .int .i64 0]) ∧ Upd [] W w' := by
  refine (itemEncode i ta tc ka kc W h.trims h.talks (Nat.le_refl _) (by have := hok.2.1.1.2; unfold maxLen; omega) (by have := hok.2.1.2.2; unfold maxLen; omega)).mono fun e w' h => ?_
  unfold EncodePost at h
  rwa [if_pos hok] at h
end
end Go.Proofs.Ytpkeimdlcafcnaa

namespace Go.Proofs.Ytpkeimdlcafcnaa
open Go.RowKit
set_option maxRecDepth 100000
set_option maxHeartbeats 40000000

theorem keepI {W W' : World} {v : Value} {zs : List Int} (h : Ints W.heap.size W v zs) (hu : Upd [] W W') : Ints W'.heap.size W' v zs := (ints_upd h hu (Nat.le_refl _) (by simp)).mono hu.size
theorem keepS {W W' : World} {a : Option Addr} {l : List Sp} (h : SpsAt W.heap.size W a l) (hu : Upd [] W W') : SpsAt W'.heap.size W' a l := (h.upd hu (Nat.le_refl _) (by simp)).mono hu.size
theorem example_any (w : World) : Calls Try.prog 38 #[] w fun e w' => ∃ ta ka, e = .returned (.agg #[.int .i64 3, .int .i64 1, .int .i64 200, .slice ta 2 2, .slice ka 2 2, .int .i64 7, .int .i64 3, .int .i64 2]) ∧ ItAt w' exS ta ka ∧ Upd [] w w' := by
  go_enter Try.func38, Try.ntmps38
  go_wp2_with fail
  obtain ⟨wa, hwa⟩ : ∃ x, w.alloc (.cells #[.int .i64 3, .int .i64 1, .int .i64 200, .slice (some ⟨w.heap.size + 1, 0, none⟩) 2 2, .slice (some ⟨w.heap.size + 1 + 1, 0, none⟩) 2 2, .int .i64 7, .int .i64 3, .int .i64 2] 24) = x := ⟨_, rfl⟩
  have B : Blk wa w.heap.size 24 [.int .i64 3, .int .i64 1, .int .i64 200, .slice (some ⟨w.heap.size + 1, 0, none⟩) 2 2, .slice (some ⟨w.heap.size + 1 + 1, 0, none⟩) 2 2, .int .i64 7, .int .i64 3, .int .i64 2] := by rw [← hwa]; exact Blk.new w _ _
  have ua : Upd [] w wa := by rw [← hwa]; exact (Upd.refl [] _).alloc _
  have hza : wa.heap.size = w.heap.size + 1 := by rw [← hwa]; simp
  rw [hwa]
  clear hwa
  obtain ⟨wb, hwb⟩ : ∃ x, wa.alloc (.cells #[.int .i64 10, .int .i64 30, .int .i64 150, .int .i64 180] 53) = x := ⟨_, rfl⟩
  have sb : SpsAt wb.heap.size wb (some ⟨w.heap.size + 1, 0, none⟩) exS.trims := by rw [← hwb, ← hza]; exact lit_sps wa exS.trims
  have ub : Upd [] wa wb := by rw [← hwb]; exact (Upd.refl [] _).alloc _
  have hzb : wb.heap.size = w.heap.size + 1 + 1 := by rw [← hwb, ← hza]; simp
  rw [hwb]
  clear hwb
  obtain ⟨wc, hwc⟩ : ∃ x, wb.alloc (.cells #[.int .i64 0, .int .i64 15, .int .i64 170, .int .i64 200] 53) = x := ⟨_, rfl⟩
  have sc : SpsAt wc.heap.size wc (some ⟨w.heap.size + 1 + 1, 0, none⟩) exS.talks := by rw [← hwc, ← hzb]; exact lit_sps wb exS.talks
  have uc : Upd [] wb wc := by rw [← hwc]; exact (Upd.refl [] _).alloc _
  rw [hwc]
  clear hwc
  have Bc := (B.upd ub (by simp)).upd uc (by simp)
  have v0 := Bc.cell 0
  have v1 := Bc.cell 1
  have v2 := Bc.cell 2
  have v3 := Bc.cell 3
  have v4 := Bc.cell 4
  have v5 := Bc.cell 5
  have v6 := Bc.cell 6
  have v7 := Bc.cell 7
  refine bodyPost_ret (v := .agg #[.int .i64 3, .int .i64 1, .int .i64 200, .slice (some ⟨w.heap.size + 1, 0, none⟩) 2 2, .slice (some ⟨w.heap.size + 1 + 1, 0, none⟩) 2 2, .int .i64 7, .int .i64 3, .int .i64 2]) (by simp [results, Try.results38, go_sem, v0, v1, v2, v3, v4, v5, v6, v7]) rfl ⟨_, _, rfl, ⟨keepS sb uc, sc⟩, (ua.trans ub (by simp)).trans uc (by simp)⟩
theorem sane_any (w0 : World) : Calls Try.prog 9 #[] w0 fun e w' => e = .returned (.bool true) ∧ Upd [] w0 w' := by
  go_enter Try.func9, Try.ntmps9
  -- example
  go_wp2_with fail
  refine (example_any w0).mono ?_
  rintro e w1 ⟨ta, ka, rfl, it, u⟩
  have IT := hide it
  have UU := hide u
  clear it u
  obtain ⟨w2, hw⟩ : ∃ x, w1.alloc (.cells #[.int .i64 3, .int .i64 1, .int .i64 200, .slice ta 2 2, .slice ka 2 2, .int .i64 7, .int .i64 3, .int .i64 2] 24) = x := ⟨_, rfl⟩
  have u : Upd [] w1 w2 := by rw [← hw]; exact (Upd.refl [] _).alloc _
  have BL2 := hide (show Blk w2 w1.heap.size 24 [.int .i64 3, .int .i64 1, .int .i64 200, .slice ta 2 2, .slice ka 2 2, .int .i64 7, .int .i64 3, .int .i64 2] by rw [← hw]; exact Blk.new w1 _ _)
  have IT2 := hide (IT.out.upd u)
  have UU2 := hide (UU.out.trans u (by simp))
  have HW := hide hw
  clear hw u
  have f0 := fun (W : World) => True.intro
  clear f0
  go_upto_region 2 with fail
  rw [HW.out]
  have k0 := BL2.out.cell 0
  have k1 := BL2.out.cell 1
  have k2 := BL2.out.cell 2
  have k3 := BL2.out.cell 3
  have k4 := BL2.out.cell 4
  have k5 := BL2.out.cell 5
  have k6 := BL2.out.cell 6
  have k7 := BL2.out.cell 7
  have hlt := BL2.out.lt
  go_wp2_with fail
  refine (use_lengths (i := exS) IT2.out exOk 2 2 _ ex_lengths).mono ?_
  rintro e w3 ⟨la, lc, rfl, il, u⟩
  have BL3 := hide (BL2.out.upd u (by simp))
  have IT3 := hide (IT2.out.upd u)
  have UU3 := hide (UU2.out.trans u (by simp))
  have L1 := hide il
  clear il
  clear u
  clear k0 k1 k2 k3 k4 k5 k6 k7 hlt
  have k0 := BL3.out.cell 0
  have k1 := BL3.out.cell 1
  have k2 := BL3.out.cell 2
  have k3 := BL3.out.cell 3
  have k4 := BL3.out.cell 4
  have k5 := BL3.out.cell 5
  have k6 := BL3.out.cell 6
  have k7 := BL3.out.cell 7
  have hlt := BL3.out.lt
  go_wp2_with fail
  obtain ⟨w4, hw⟩ : ∃ x, w3.alloc (.cells #[.int .i64 0, .int .i64 1] 3) = x := ⟨_, rfl⟩
  have u : Upd [] w3 w4 := by rw [← hw]; exact (Upd.refl [] _).alloc _
  have J4 := hide (show Ints w4.heap.size w4 (.slice (some ⟨w3.heap.size, 0, none⟩) 2 2) [0, 1] by rw [← hw]; exact it_lit_ints w3 [0, 1] 2 rfl)
  have BL4 := hide (BL3.out.upd u (by simp))
  have IT4 := hide (IT3.out.upd u)
  have UU4 := hide (UU3.out.trans u (by simp))
  have L1 := hide (keepI L1.out u)
  rw [hw]
  clear hw u
  clear k0 k1 k2 k3 k4 k5 k6 k7 hlt
  have k0 := BL4.out.cell 0
  have k1 := BL4.out.cell 1
  have k2 := BL4.out.cell 2
  have k3 := BL4.out.cell 3
  have k4 := BL4.out.cell 4
  have k5 := BL4.out.cell 5
  have k6 := BL4.out.cell 6
  have k7 := BL4.out.cell 7
  have hlt := BL4.out.lt
  refine (use_length (i := exS) IT4.out exOk 2 2 (some ⟨w3.heap.size, 0, none⟩) 2 2 [0, 1] J4.out (by decide) 150 (by decide)).mono ?_
  rintro e w5 ⟨rfl, u⟩
  have BL5 := hide (BL4.out.upd u (by simp))
  have IT5 := hide (IT4.out.upd u)
  have UU5 := hide (UU4.out.trans u (by simp))
  have L1 := hide (keepI L1.out u)
  clear u
  clear k0 k1 k2 k3 k4 k5 k6 k7 hlt
  have k0 := BL5.out.cell 0
  have k1 := BL5.out.cell 1
  have k2 := BL5.out.cell 2
  have k3 := BL5.out.cell 3
  have k4 := BL5.out.cell 4
  have k5 := BL5.out.cell 5
  have k6 := BL5.out.cell 6
  have k7 := BL5.out.cell 7
  have hlt := BL5.out.lt
  go_wp2_with fail
  refine (use_cut (i := exS) IT5.out exOk 2 2 170 [1] ex_best1).mono ?_
  rintro e w6 ⟨ca, cc, rfl, ic, u⟩
  have BL6 := hide (BL5.out.upd u (by simp))
  have IT6 := hide (IT5.out.upd u)
  have UU6 := hide (UU5.out.trans u (by simp))
  have L2 := hide ic
  clear ic
  have L1 := hide (keepI L1.out u)
  clear u
  clear k0 k1 k2 k3 k4 k5 k6 k7 hlt
  have k0 := BL6.out.cell 0
  have k1 := BL6.out.cell 1
  have k2 := BL6.out.cell 2
  have k3 := BL6.out.cell 3
  have k4 := BL6.out.cell 4
  have k5 := BL6.out.cell 5
  have k6 := BL6.out.cell 6
  have k7 := BL6.out.cell 7
  have hlt := BL6.out.lt
  go_wp2_with fail
  refine (use_nocut (i := exS) IT6.out exOk 2 2 160 ex_best2).mono ?_
  rintro e w7 ⟨rfl, u⟩
  have BL7 := hide (BL6.out.upd u (by simp))
  have IT7 := hide (IT6.out.upd u)
  have UU7 := hide (UU6.out.trans u (by simp))
  have L1 := hide (keepI L1.out u)
  have L2 := hide (keepI L2.out u)
  clear u
  clear k0 k1 k2 k3 k4 k5 k6 k7 hlt
  have k0 := BL7.out.cell 0
  have k1 := BL7.out.cell 1
  have k2 := BL7.out.cell 2
  have k3 := BL7.out.cell 3
  have k4 := BL7.out.cell 4
  have k5 := BL7.out.cell 5
  have k6 := BL7.out.cell 6
  have k7 := BL7.out.cell 7
  have hlt := BL7.out.lt
  go_wp2_with fail
  obtain ⟨w8, hw⟩ : ∃ x, w7.alloc (.cells #[.int .i64 0] 3) = x := ⟨_, rfl⟩
  have u : Upd [] w7 w8 := by rw [← hw]; exact (Upd.refl [] _).alloc _
  have J8 := hide (show Ints w8.heap.size w8 (.slice (some ⟨w7.heap.size, 0, none⟩) 1 1) [0] by rw [← hw]; exact it_lit_ints w7 [0] 1 rfl)
  have BL8 := hide (BL7.out.upd u (by simp))
  have IT8 := hide (IT7.out.upd u)
  have UU8 := hide (UU7.out.trans u (by simp))
  have L1 := hide (keepI L1.out u)
  have L2 := hide (keepI L2.out u)
  rw [hw]
  clear hw u
  clear k0 k1 k2 k3 k4 k5 k6 k7 hlt
  have k0 := BL8.out.cell 0
  have k1 := BL8.out.cell 1
  have k2 := BL8.out.cell 2
  have k3 := BL8.out.cell 3
  have k4 := BL8.out.cell 4
  have k5 := BL8.out.cell 5
  have k6 := BL8.out.cell 6
  have k7 := BL8.out.cell 7
  have hlt := BL8.out.lt
  refine (use_place (i := exS) IT8.out exOk 2 2 (some ⟨w7.heap.size, 0, none⟩) 1 1 [0] J8.out (by decide) 9 (9) (by decide) (by decide) (by decide)).mono ?_
  rintro e w9 ⟨rfl, u⟩
  have BL9 := hide (BL8.out.upd u (by simp))
  have IT9 := hide (IT8.out.upd u)
  have UU9 := hide (UU8.out.trans u (by simp))
  have L1 := hide (keepI L1.out u)
  have L2 := hide (keepI L2.out u)
  clear u
  clear k0 k1 k2 k3 k4 k5 k6 k7 hlt
  have k0 := BL9.out.cell 0
  have k1 := BL9.out.cell 1
  have k2 := BL9.out.cell 2
  have k3 := BL9.out.cell 3
  have k4 := BL9.out.cell 4
  have k5 := BL9.out.cell 5
  have k6 := BL9.out.cell 6
  have k7 := BL9.out.cell 7
  have hlt := BL9.out.lt
  go_wp2_with fail
  obtain ⟨w10, hw⟩ : ∃ x, w9.alloc (.cells #[.int .i64 0] 3) = x := ⟨_, rfl⟩
  have u : Upd [] w9 w10 := by rw [← hw]; exact (Upd.refl [] _).alloc _
  have J10 := hide (show Ints w10.heap.size w10 (.slice (some ⟨w9.heap.size, 0, none⟩) 1 1) [0] by rw [← hw]; exact it_lit_ints w9 [0] 1 rfl)
  have BL10 := hide (BL9.out.upd u (by simp))
  have IT10 := hide (IT9.out.upd u)
  have UU10 := hide (UU9.out.trans u (by simp))
  have L1 := hide (keepI L1.out u)
  have L2 := hide (keepI L2.out u)
  rw [hw]
  clear hw u
  clear k0 k1 k2 k3 k4 k5 k6 k7 hlt
  have k0 := BL10.out.cell 0
  have k1 := BL10.out.cell 1
  have k2 := BL10.out.cell 2
  have k3 := BL10.out.cell 3
  have k4 := BL10.out.cell 4
  have k5 := BL10.out.cell 5
  have k6 := BL10.out.cell 6
  have k7 := BL10.out.cell 7
  have hlt := BL10.out.lt
  refine (use_place (i := exS) IT10.out exOk 2 2 (some ⟨w9.heap.size, 0, none⟩) 1 1 [0] J10.out (by decide) 10 (30) (by decide) (by decide) (by decide)).mono ?_
  rintro e w11 ⟨rfl, u⟩
  have BL11 := hide (BL10.out.upd u (by simp))
  have IT11 := hide (IT10.out.upd u)
  have UU11 := hide (UU10.out.trans u (by simp))
  have L1 := hide (keepI L1.out u)
  have L2 := hide (keepI L2.out u)
  clear u
  clear k0 k1 k2 k3 k4 k5 k6 k7 hlt
  have k0 := BL11.out.cell 0
  have k1 := BL11.out.cell 1
  have k2 := BL11.out.cell 2
  have k3 := BL11.out.cell 3
  have k4 := BL11.out.cell 4
  have k5 := BL11.out.cell 5
  have k6 := BL11.out.cell 6
  have k7 := BL11.out.cell 7
  have hlt := BL11.out.lt
  go_wp2_with fail
  obtain ⟨w12, hw⟩ : ∃ x, w11.alloc (.cells #[.int .i64 0] 3) = x := ⟨_, rfl⟩
  have u : Upd [] w11 w12 := by rw [← hw]; exact (Upd.refl [] _).alloc _
  have J12 := hide (show Ints w12.heap.size w12 (.slice (some ⟨w11.heap.size, 0, none⟩) 1 1) [0] by rw [← hw]; exact it_lit_ints w11 [0] 1 rfl)
  have BL12 := hide (BL11.out.upd u (by simp))
  have IT12 := hide (IT11.out.upd u)
  have UU12 := hide (UU11.out.trans u (by simp))
  have L1 := hide (keepI L1.out u)
  have L2 := hide (keepI L2.out u)
  rw [hw]
  clear hw u
  clear k0 k1 k2 k3 k4 k5 k6 k7 hlt
  have k0 := BL12.out.cell 0
  have k1 := BL12.out.cell 1
  have k2 := BL12.out.cell 2
  have k3 := BL12.out.cell 3
  have k4 := BL12.out.cell 4
  have k5 := BL12.out.cell 5
  have k6 := BL12.out.cell 6
  have k7 := BL12.out.cell 7
  have hlt := BL12.out.lt
  refine (use_heard (i := exS) IT12.out exOk 2 2 (some ⟨w11.heap.size, 0, none⟩) 1 1 [0] J12.out (by decide) 15 (-1) (by decide) (by decide) (by decide)).mono ?_
  rintro e w13 ⟨rfl, u⟩
  have BL13 := hide (BL12.out.upd u (by simp))
  have IT13 := hide (IT12.out.upd u)
  have UU13 := hide (UU12.out.trans u (by simp))
  have L1 := hide (keepI L1.out u)
  have L2 := hide (keepI L2.out u)
  clear u
  clear k0 k1 k2 k3 k4 k5 k6 k7 hlt
  have k0 := BL13.out.cell 0
  have k1 := BL13.out.cell 1
  have k2 := BL13.out.cell 2
  have k3 := BL13.out.cell 3
  have k4 := BL13.out.cell 4
  have k5 := BL13.out.cell 5
  have k6 := BL13.out.cell 6
  have k7 := BL13.out.cell 7
  have hlt := BL13.out.lt
  go_wp2_with fail
  obtain ⟨w14, hw⟩ : ∃ x, w13.alloc (.cells #[.int .i64 0] 3) = x := ⟨_, rfl⟩
  have u : Upd [] w13 w14 := by rw [← hw]; exact (Upd.refl [] _).alloc _
  have J14 := hide (show Ints w14.heap.size w14 (.slice (some ⟨w13.heap.size, 0, none⟩) 1 1) [0] by rw [← hw]; exact it_lit_ints w13 [0] 1 rfl)
  have BL14 := hide (BL13.out.upd u (by simp))
  have IT14 := hide (IT13.out.upd u)
  have UU14 := hide (UU13.out.trans u (by simp))
  have L1 := hide (keepI L1.out u)
  have L2 := hide (keepI L2.out u)
  rw [hw]
  clear hw u
  clear k0 k1 k2 k3 k4 k5 k6 k7 hlt
  have k0 := BL14.out.cell 0
  have k1 := BL14.out.cell 1
  have k2 := BL14.out.cell 2
  have k3 := BL14.out.cell 3
  have k4 := BL14.out.cell 4
  have k5 := BL14.out.cell 5
  have k6 := BL14.out.cell 6
  have k7 := BL14.out.cell 7
  have hlt := BL14.out.lt
  refine (use_heard (i := exS) IT14.out exOk 2 2 (some ⟨w13.heap.size, 0, none⟩) 1 1 [0] J14.out (by decide) 30 (10) (by decide) (by decide) (by decide)).mono ?_
  rintro e w15 ⟨rfl, u⟩
  have BL15 := hide (BL14.out.upd u (by simp))
  have IT15 := hide (IT14.out.upd u)
  have UU15 := hide (UU14.out.trans u (by simp))
  have L1 := hide (keepI L1.out u)
  have L2 := hide (keepI L2.out u)
  clear u
  clear k0 k1 k2 k3 k4 k5 k6 k7 hlt
  have k0 := BL15.out.cell 0
  have k1 := BL15.out.cell 1
  have k2 := BL15.out.cell 2
  have k3 := BL15.out.cell 3
  have k4 := BL15.out.cell 4
  have k5 := BL15.out.cell 5
  have k6 := BL15.out.cell 6
  have k7 := BL15.out.cell 7
  have hlt := BL15.out.lt
  go_wp2_with fail
  obtain ⟨w16, hw⟩ : ∃ x, w15.alloc (.cells #[.int .i64 0] 3) = x := ⟨_, rfl⟩
  have u : Upd [] w15 w16 := by rw [← hw]; exact (Upd.refl [] _).alloc _
  have J16 := hide (show Ints w16.heap.size w16 (.slice (some ⟨w15.heap.size, 0, none⟩) 1 1) [0] by rw [← hw]; exact it_lit_ints w15 [0] 1 rfl)
  have BL16 := hide (BL15.out.upd u (by simp))
  have IT16 := hide (IT15.out.upd u)
  have UU16 := hide (UU15.out.trans u (by simp))
  have L1 := hide (keepI L1.out u)
  have L2 := hide (keepI L2.out u)
  rw [hw]
  clear hw u
  clear k0 k1 k2 k3 k4 k5 k6 k7 hlt
  have k0 := BL16.out.cell 0
  have k1 := BL16.out.cell 1
  have k2 := BL16.out.cell 2
  have k3 := BL16.out.cell 3
  have k4 := BL16.out.cell 4
  have k5 := BL16.out.cell 5
  have k6 := BL16.out.cell 6
  have k7 := BL16.out.cell 7
  have hlt := BL16.out.lt
  refine (use_talk (i := exS) IT16.out exOk 2 2 (some ⟨w15.heap.size, 0, none⟩) 1 1 [0] J16.out (by decide) [⟨0, 10⟩, ⟨150, 180⟩] (by decide)).mono ?_
  rintro e w17 ⟨sa, sc, rfl, is, u⟩
  have BL17 := hide (BL16.out.upd u (by simp))
  have IT17 := hide (IT16.out.upd u)
  have UU17 := hide (UU16.out.trans u (by simp))
  have S1 := hide is
  clear is
  have L1 := hide (keepI L1.out u)
  have L2 := hide (keepI L2.out u)
  clear u
  clear k0 k1 k2 k3 k4 k5 k6 k7 hlt
  have k0 := BL17.out.cell 0
  have k1 := BL17.out.cell 1
  have k2 := BL17.out.cell 2
  have k3 := BL17.out.cell 3
  have k4 := BL17.out.cell 4
  have k5 := BL17.out.cell 5
  have k6 := BL17.out.cell 6
  have k7 := BL17.out.cell 7
  have hlt := BL17.out.lt
  go_wp2_with fail
  obtain ⟨w18, hw⟩ : ∃ x, w17.alloc (.cells #[.int .i64 1] 3) = x := ⟨_, rfl⟩
  have u : Upd [] w17 w18 := by rw [← hw]; exact (Upd.refl [] _).alloc _
  have J18 := hide (show Ints w18.heap.size w18 (.slice (some ⟨w17.heap.size, 0, none⟩) 1 1) [1] by rw [← hw]; exact it_lit_ints w17 [1] 1 rfl)
  have BL18 := hide (BL17.out.upd u (by simp))
  have IT18 := hide (IT17.out.upd u)
  have UU18 := hide (UU17.out.trans u (by simp))
  have L1 := hide (keepI L1.out u)
  have L2 := hide (keepI L2.out u)
  have S1 := hide (keepS S1.out u)
  rw [hw]
  clear hw u
  clear k0 k1 k2 k3 k4 k5 k6 k7 hlt
  have k0 := BL18.out.cell 0
  have k1 := BL18.out.cell 1
  have k2 := BL18.out.cell 2
  have k3 := BL18.out.cell 3
  have k4 := BL18.out.cell 4
  have k5 := BL18.out.cell 5
  have k6 := BL18.out.cell 6
  have k7 := BL18.out.cell 7
  have hlt := BL18.out.lt
  refine (use_talk (i := exS) IT18.out exOk 2 2 (some ⟨w17.heap.size, 0, none⟩) 1 1 [1] J18.out (by decide) [⟨0, 15⟩, ⟨150, 170⟩] (by decide)).mono ?_
  rintro e w19 ⟨ra, rc, rfl, is, u⟩
  have BL19 := hide (BL18.out.upd u (by simp))
  have IT19 := hide (IT18.out.upd u)
  have UU19 := hide (UU18.out.trans u (by simp))
  have S2 := hide is
  clear is
  have L1 := hide (keepI L1.out u)
  have L2 := hide (keepI L2.out u)
  have S1 := hide (keepS S1.out u)
  clear u
  clear k0 k1 k2 k3 k4 k5 k6 k7 hlt
  have k0 := BL19.out.cell 0
  have k1 := BL19.out.cell 1
  have k2 := BL19.out.cell 2
  have k3 := BL19.out.cell 3
  have k4 := BL19.out.cell 4
  have k5 := BL19.out.cell 5
  have k6 := BL19.out.cell 6
  have k7 := BL19.out.cell 7
  have hlt := BL19.out.lt
  go_wp2_with fail
  have JN := hide (show Ints w19.heap.size w19 (.slice none 0 0) [] from .inl ⟨none, 0, rfl, rfl⟩)
  refine (use_noplace (i := exS) IT19.out exOk 2 2 none 0 0 [] JN.out (by decide) 200 (by decide)).mono ?_
  rintro e w20 ⟨rfl, u⟩
  have BL20 := hide (BL19.out.upd u (by simp))
  have IT20 := hide (IT19.out.upd u)
  have UU20 := hide (UU19.out.trans u (by simp))
  have L1 := hide (keepI L1.out u)
  have L2 := hide (keepI L2.out u)
  have S1 := hide (keepS S1.out u)
  have S2 := hide (keepS S2.out u)
  clear u
  clear k0 k1 k2 k3 k4 k5 k6 k7 hlt
  have k0 := BL20.out.cell 0
  have k1 := BL20.out.cell 1
  have k2 := BL20.out.cell 2
  have k3 := BL20.out.cell 3
  have k4 := BL20.out.cell 4
  have k5 := BL20.out.cell 5
  have k6 := BL20.out.cell 6
  have k7 := BL20.out.cell 7
  have hlt := BL20.out.lt
  go_wp2_with fail
  have HEN := hide ex_enc
  refine (use_encode (i := exS) IT20.out exOk 2 2 ).mono ?_
  rintro e w21 ⟨rfl, u⟩
  have BL21 := hide (BL20.out.upd u (by simp))
  have IT21 := hide (IT20.out.upd u)
  have UU21 := hide (UU20.out.trans u (by simp))
  have L1 := hide (keepI L1.out u)
  have L2 := hide (keepI L2.out u)
  have S1 := hide (keepS S1.out u)
  have S2 := hide (keepS S2.out u)
  clear u
  clear k0 k1 k2 k3 k4 k5 k6 k7 hlt
  have k0 := BL21.out.cell 0
  have k1 := BL21.out.cell 1
  have k2 := BL21.out.cell 2
  have k3 := BL21.out.cell 3
  have k4 := BL21.out.cell 4
  have k5 := BL21.out.cell 5
  have k6 := BL21.out.cell 6
  have k7 := BL21.out.cell 7
  have hlt := BL21.out.lt
  obtain ⟨en, hen⟩ : ∃ s, ByteArray.mk (encS exS).toArray = s := ⟨_, rfl⟩
  have hes : en.size = 21 := by rw [← hen]; exact HEN.out
  rw [hen]
  clear hen
  go_wp2_with fail
  obtain ⟨w22, hw⟩ : ∃ x, w21.alloc (.cells #[.int .i64 150, .int .i64 170, .int .i64 180, .int .i64 200] 3) = x := ⟨_, rfl⟩
  have u : Upd [] w21 w22 := by rw [← hw]; exact (Upd.refl [] _).alloc _
  have J22 := hide (show Ints w22.heap.size w22 (.slice (some ⟨w21.heap.size, 0, none⟩) 4 4) [150, 170, 180, 200] by rw [← hw]; exact it_lit_ints w21 [150, 170, 180, 200] 4 rfl)
  have BL22 := hide (BL21.out.upd u (by simp))
  have IT22 := hide (IT21.out.upd u)
  have UU22 := hide (UU21.out.trans u (by simp))
  have L1 := hide (keepI L1.out u)
  have L2 := hide (keepI L2.out u)
  have S1 := hide (keepS S1.out u)
  have S2 := hide (keepS S2.out u)
  rw [hw]
  clear hw u
  clear k0 k1 k2 k3 k4 k5 k6 k7 hlt
  have k0 := BL22.out.cell 0
  have k1 := BL22.out.cell 1
  have k2 := BL22.out.cell 2
  have k3 := BL22.out.cell 3
  have k4 := BL22.out.cell 4
  have k5 := BL22.out.cell 5
  have k6 := BL22.out.cell 6
  have k7 := BL22.out.cell 7
  have hlt := BL22.out.lt
  refine (refInts la 4 lc [150, 170, 180, 200] (some ⟨w21.heap.size, 0, none⟩) 4 4 [150, 170, 180, 200] w22 L1.out J22.out (by unfold maxLen; omega) (by unfold maxLen; omega)).mono ?_
  rintro e w23 ⟨he, u⟩
  have BL23 := hide (BL22.out.upd u (by simp))
  have IT23 := hide (IT22.out.upd u)
  have UU23 := hide (UU22.out.trans u (by simp))
  obtain rfl := he
  have L1 := hide (keepI L1.out u)
  have L2 := hide (keepI L2.out u)
  have S1 := hide (keepS S1.out u)
  have S2 := hide (keepS S2.out u)
  clear u
  clear k0 k1 k2 k3 k4 k5 k6 k7 hlt
  have k0 := BL23.out.cell 0
  have k1 := BL23.out.cell 1
  have k2 := BL23.out.cell 2
  have k3 := BL23.out.cell 3
  have k4 := BL23.out.cell 4
  have k5 := BL23.out.cell 5
  have k6 := BL23.out.cell 6
  have k7 := BL23.out.cell 7
  have hlt := BL23.out.lt
  rw [decide_eq_true (show ([150, 170, 180, 200] : List Int) = [150, 170, 180, 200] from rfl)]
  go_wp2_with fail
  obtain ⟨w24, hw⟩ : ∃ x, w23.alloc (.cells #[.int .i64 1] 3) = x := ⟨_, rfl⟩
  have u : Upd [] w23 w24 := by rw [← hw]; exact (Upd.refl [] _).alloc _
  have J24 := hide (show Ints w24.heap.size w24 (.slice (some ⟨w23.heap.size, 0, none⟩) 1 1) [1] by rw [← hw]; exact it_lit_ints w23 [1] 1 rfl)
  have BL24 := hide (BL23.out.upd u (by simp))
  have IT24 := hide (IT23.out.upd u)
  have UU24 := hide (UU23.out.trans u (by simp))
  have L1 := hide (keepI L1.out u)
  have L2 := hide (keepI L2.out u)
  have S1 := hide (keepS S1.out u)
  have S2 := hide (keepS S2.out u)
  rw [hw]
  clear hw u
  clear k0 k1 k2 k3 k4 k5 k6 k7 hlt
  have k0 := BL24.out.cell 0
  have k1 := BL24.out.cell 1
  have k2 := BL24.out.cell 2
  have k3 := BL24.out.cell 3
  have k4 := BL24.out.cell 4
  have k5 := BL24.out.cell 5
  have k6 := BL24.out.cell 6
  have k7 := BL24.out.cell 7
  have hlt := BL24.out.lt
  refine (refInts ca 1 cc [1] (some ⟨w23.heap.size, 0, none⟩) 1 1 [1] w24 L2.out J24.out (by unfold maxLen; omega) (by unfold maxLen; omega)).mono ?_
  rintro e w25 ⟨he, u⟩
  have BL25 := hide (BL24.out.upd u (by simp))
  have IT25 := hide (IT24.out.upd u)
  have UU25 := hide (UU24.out.trans u (by simp))
  obtain rfl := he
  have L1 := hide (keepI L1.out u)
  have L2 := hide (keepI L2.out u)
  have S1 := hide (keepS S1.out u)
  have S2 := hide (keepS S2.out u)
  clear u
  clear k0 k1 k2 k3 k4 k5 k6 k7 hlt
  have k0 := BL25.out.cell 0
  have k1 := BL25.out.cell 1
  have k2 := BL25.out.cell 2
  have k3 := BL25.out.cell 3
  have k4 := BL25.out.cell 4
  have k5 := BL25.out.cell 5
  have k6 := BL25.out.cell 6
  have k7 := BL25.out.cell 7
  have hlt := BL25.out.lt
  rw [decide_eq_true (show ([1] : List Int) = [1] from rfl)]
  go_wp2_with fail
  obtain ⟨w26, hw⟩ : ∃ x, w25.alloc (.cells #[.int .i64 0, .int .i64 10, .int .i64 150, .int .i64 180] 53) = x := ⟨_, rfl⟩
  have u : Upd [] w25 w26 := by rw [← hw]; exact (Upd.refl [] _).alloc _
  have J26 := hide (show SpsAt w26.heap.size w26 (some ⟨w25.heap.size, 0, none⟩) [⟨0, 10⟩, ⟨150, 180⟩] by rw [← hw]; exact lit_sps w25 [⟨0, 10⟩, ⟨150, 180⟩])
  have BL26 := hide (BL25.out.upd u (by simp))
  have IT26 := hide (IT25.out.upd u)
  have UU26 := hide (UU25.out.trans u (by simp))
  have L1 := hide (keepI L1.out u)
  have L2 := hide (keepI L2.out u)
  have S1 := hide (keepS S1.out u)
  have S2 := hide (keepS S2.out u)
  rw [hw]
  clear hw u
  clear k0 k1 k2 k3 k4 k5 k6 k7 hlt
  have k0 := BL26.out.cell 0
  have k1 := BL26.out.cell 1
  have k2 := BL26.out.cell 2
  have k3 := BL26.out.cell 3
  have k4 := BL26.out.cell 4
  have k5 := BL26.out.cell 5
  have k6 := BL26.out.cell 6
  have k7 := BL26.out.cell 7
  have hlt := BL26.out.lt
  refine (refSameSpells sa 2 sc [⟨0, 10⟩, ⟨150, 180⟩] (some ⟨w25.heap.size, 0, none⟩) 2 2 [⟨0, 10⟩, ⟨150, 180⟩] w26 S1.out J26.out rfl rfl (by unfold maxLen; omega) (by unfold maxLen; omega)).mono ?_
  rintro e w27 ⟨he, u⟩
  have BL27 := hide (BL26.out.upd u (by simp))
  have IT27 := hide (IT26.out.upd u)
  have UU27 := hide (UU26.out.trans u (by simp))
  obtain rfl := he
  have L1 := hide (keepI L1.out u)
  have L2 := hide (keepI L2.out u)
  have S1 := hide (keepS S1.out u)
  have S2 := hide (keepS S2.out u)
  clear u
  clear k0 k1 k2 k3 k4 k5 k6 k7 hlt
  have k0 := BL27.out.cell 0
  have k1 := BL27.out.cell 1
  have k2 := BL27.out.cell 2
  have k3 := BL27.out.cell 3
  have k4 := BL27.out.cell 4
  have k5 := BL27.out.cell 5
  have k6 := BL27.out.cell 6
  have k7 := BL27.out.cell 7
  have hlt := BL27.out.lt
  rw [decide_eq_true (show ([⟨0, 10⟩, ⟨150, 180⟩] : List Sp) = [⟨0, 10⟩, ⟨150, 180⟩] from rfl)]
  go_wp2_with fail
  obtain ⟨w28, hw⟩ : ∃ x, w27.alloc (.cells #[.int .i64 0, .int .i64 15, .int .i64 150, .int .i64 170] 53) = x := ⟨_, rfl⟩
  have u : Upd [] w27 w28 := by rw [← hw]; exact (Upd.refl [] _).alloc _
  have J28 := hide (show SpsAt w28.heap.size w28 (some ⟨w27.heap.size, 0, none⟩) [⟨0, 15⟩, ⟨150, 170⟩] by rw [← hw]; exact lit_sps w27 [⟨0, 15⟩, ⟨150, 170⟩])
  have BL28 := hide (BL27.out.upd u (by simp))
  have IT28 := hide (IT27.out.upd u)
  have UU28 := hide (UU27.out.trans u (by simp))
  have L1 := hide (keepI L1.out u)
  have L2 := hide (keepI L2.out u)
  have S1 := hide (keepS S1.out u)
  have S2 := hide (keepS S2.out u)
  rw [hw]
  clear hw u
  clear k0 k1 k2 k3 k4 k5 k6 k7 hlt
  have k0 := BL28.out.cell 0
  have k1 := BL28.out.cell 1
  have k2 := BL28.out.cell 2
  have k3 := BL28.out.cell 3
  have k4 := BL28.out.cell 4
  have k5 := BL28.out.cell 5
  have k6 := BL28.out.cell 6
  have k7 := BL28.out.cell 7
  have hlt := BL28.out.lt
  refine (refSameSpells ra 2 rc [⟨0, 15⟩, ⟨150, 170⟩] (some ⟨w27.heap.size, 0, none⟩) 2 2 [⟨0, 15⟩, ⟨150, 170⟩] w28 S2.out J28.out rfl rfl (by unfold maxLen; omega) (by unfold maxLen; omega)).mono ?_
  rintro e w29 ⟨he, u⟩
  have BL29 := hide (BL28.out.upd u (by simp))
  have IT29 := hide (IT28.out.upd u)
  have UU29 := hide (UU28.out.trans u (by simp))
  obtain rfl := he
  have L1 := hide (keepI L1.out u)
  have L2 := hide (keepI L2.out u)
  have S1 := hide (keepS S1.out u)
  have S2 := hide (keepS S2.out u)
  clear u
  clear k0 k1 k2 k3 k4 k5 k6 k7 hlt
  have k0 := BL29.out.cell 0
  have k1 := BL29.out.cell 1
  have k2 := BL29.out.cell 2
  have k3 := BL29.out.cell 3
  have k4 := BL29.out.cell 4
  have k5 := BL29.out.cell 5
  have k6 := BL29.out.cell 6
  have k7 := BL29.out.cell 7
  have hlt := BL29.out.lt
  rw [decide_eq_true (show ([⟨0, 15⟩, ⟨150, 170⟩] : List Sp) = [⟨0, 15⟩, ⟨150, 170⟩] from rfl)]
  go_wp2_with fail
  refine (use_valid (i := exS) IT29.out exOk 2 2 ).mono ?_
  rintro e w30 ⟨rfl, u⟩
  have BL30 := hide (BL29.out.upd u (by simp))
  have IT30 := hide (IT29.out.upd u)
  have UU30 := hide (UU29.out.trans u (by simp))
  have L1 := hide (keepI L1.out u)
  have L2 := hide (keepI L2.out u)
  have S1 := hide (keepS S1.out u)
  have S2 := hide (keepS S2.out u)
  clear u
  clear k0 k1 k2 k3 k4 k5 k6 k7 hlt
  have k0 := BL30.out.cell 0
  have k1 := BL30.out.cell 1
  have k2 := BL30.out.cell 2
  have k3 := BL30.out.cell 3
  have k4 := BL30.out.cell 4
  have k5 := BL30.out.cell 5
  have k6 := BL30.out.cell 6
  have k7 := BL30.out.cell 7
  have hlt := BL30.out.lt
  go_wp2_with fail
  refine (valid_it (n₀ := 0) ⟨0, 0, 0, [], [], 0, 0, 0⟩ none 0 none 0 w30 (fun i s h => by simp at h) (fun i s h => by simp at h) (Nat.zero_le _) (by decide) (by decide)).mono ?_
  rintro e w31 ⟨he, u⟩
  have BL31 := hide (BL30.out.upd u (by simp))
  have IT31 := hide (IT30.out.upd u)
  have UU31 := hide (UU30.out.trans u (by simp))
  rw [decide_eq_false (by decide)] at he
  obtain rfl := he
  have L1 := hide (keepI L1.out u)
  have L2 := hide (keepI L2.out u)
  have S1 := hide (keepS S1.out u)
  have S2 := hide (keepS S2.out u)
  clear u
  clear k0 k1 k2 k3 k4 k5 k6 k7 hlt
  have k0 := BL31.out.cell 0
  have k1 := BL31.out.cell 1
  have k2 := BL31.out.cell 2
  have k3 := BL31.out.cell 3
  have k4 := BL31.out.cell 4
  have k5 := BL31.out.cell 5
  have k6 := BL31.out.cell 6
  have k7 := BL31.out.cell 7
  have hlt := BL31.out.lt
  go_wp2_with fail
  go_ret
  exact ⟨rfl, UU31.out⟩
end Go.Proofs.Ytpkeimdlcafcnaa

namespace Go.Proofs.Ytpkeimdlcafcnaa

/-- How many seconds of a spell lie before a second. -/
def por (s : Sp) (x : Int) : Int := max 0 (min x s.to_ - s.fr)
def porL (l : List Sp) (x : Int) : Int := l.foldr (fun s n => por s x + n) 0
def placeL : List Sp → Int → Int
  | [], a => a
  | s :: l, a => placeL l (if s.fr ≤ a then a + (s.to_ - s.fr) else a)
def Gone (l : List Sp) (x : Int) : Prop := ∃ s ∈ l, s.fr ≤ x ∧ x < s.to_
instance (l : List Sp) (x : Int) : Decidable (Gone l x) := by unfold Gone; infer_instance
/-- Spells one behind the other, from a second on. -/
def Row : Int → List Sp → Prop
  | _, [] => True
  | b, s :: l => b ≤ s.fr ∧ s.fr < s.to_ ∧ Row s.to_ l
theorem Row.le : ∀ {l : List Sp} {b : Int}, Row b l → ∀ s ∈ l, b ≤ s.fr ∧ s.fr < s.to_
  | s :: l, b, h, t, ht => by
    obtain ⟨h1, h2, h3⟩ := h
    rcases List.mem_cons.1 ht with rfl | ht
    · exact ⟨h1, h2⟩
    · have := h3.le t ht
      omega
theorem Row.weak {l : List Sp} {a b : Int} (h : Row b l) (hab : a ≤ b) : Row a l := by
  cases l with
  | nil => trivial
  | cons s l => obtain ⟨h1, h2, h3⟩ := h; exact ⟨by omega, h2, h3⟩
theorem placeL_before : ∀ {l : List Sp} {a : Int}, (∀ s ∈ l, a < s.fr) → placeL l a = a
  | [], _, _ => rfl
  | s :: l, a, h => by
    rw [placeL, if_neg (by have := h s (by simp); omega)]
    exact placeL_before fun t ht => h t (by simp [ht])
theorem porL_zero : ∀ {l : List Sp} {x : Int}, (∀ s ∈ l, x ≤ s.fr) → porL l x = 0
  | [], _, _ => rfl
  | s :: l, x, h => by
    show por s x + porL l x = 0
    rw [porL_zero fun t ht => h t (by simp [ht])]
    have := h s (by simp)
    unfold por
    omega
theorem placeL_spec : ∀ {l : List Sp} {b : Int}, Row b l → ∀ a, a ≤ placeL l a ∧ ¬ Gone l (placeL l a) ∧ placeL l a - porL l (placeL l a) = a
  | [], _, _, a => ⟨Int.le_refl _, fun ⟨s, hs, _⟩ => by simp at hs, by show a - 0 = a; omega⟩
  | s :: l, b, h, a => by
    obtain ⟨h1, h2, h3⟩ := h
    by_cases hs : s.fr ≤ a
    · rw [placeL, if_pos hs]
      obtain ⟨i1, i2, i3⟩ := placeL_spec h3 (a + (s.to_ - s.fr))
      refine ⟨by omega, ?_, ?_⟩
      · rintro ⟨t, ht, ht1, ht2⟩
        rcases List.mem_cons.1 ht with rfl | ht
        · omega
        · exact i2 ⟨t, ht, ht1, ht2⟩
      · show _ - (por s _ + porL l _) = a
        unfold por
        omega
    · have hb : ∀ t ∈ s :: l, a < t.fr := fun t ht => by
        rcases List.mem_cons.1 ht with rfl | ht
        · omega
        · have := h3.le t ht
          omega
      rw [placeL_before hb]
      refine ⟨Int.le_refl _, ?_, by rw [porL_zero fun t ht => Int.le_of_lt (hb t ht)]; omega⟩
      rintro ⟨t, ht, ht1, ht2⟩
      have := hb t ht
      omega
theorem placeL_skip : ∀ {l : List Sp} {b : Int}, Row b l → ∀ k, b ≤ k → k < placeL l b → Gone l k
  | [], b, _, k, h1, h2 => by
    have : placeL [] b = b := rfl
    omega
  | s :: l, b, h, k, h1, h2 => by
    obtain ⟨g1, g2, g3⟩ := h
    by_cases hs : s.fr ≤ b
    · rw [placeL, if_pos hs] at h2
      rcases Int.lt_or_le k s.to_ with hk | hk
      · exact ⟨s, by simp, by omega, hk⟩
      · rw [show b + (s.to_ - s.fr) = s.to_ by omega] at h2
        obtain ⟨t, ht, hx⟩ := placeL_skip g3 k hk h2
        exact ⟨t, by simp [ht], hx⟩
    · rw [placeL_before fun t ht => by
        rcases List.mem_cons.1 ht with rfl | ht
        · omega
        · have := g3.le t ht
          omega] at h2
      omega
theorem placeL_next : ∀ {l : List Sp} {b : Int}, Row b l → ∀ a, placeL l a < placeL l (a + 1) ∧ ∀ k, placeL l a < k → k < placeL l (a + 1) → Gone l k
  | [], _, _, a => by
    have e1 : placeL [] a = a := rfl
    have e2 : placeL [] (a + 1) = a + 1 := rfl
    exact ⟨by omega, fun k h1 h2 => by omega⟩
  | s :: l, b, h, a => by
    obtain ⟨g1, g2, g3⟩ := h
    by_cases hs : s.fr ≤ a
    · rw [placeL, placeL, if_pos hs, if_pos (by omega), show a + 1 + (s.to_ - s.fr) = a + (s.to_ - s.fr) + 1 by omega]
      obtain ⟨i1, i2⟩ := placeL_next g3 (a + (s.to_ - s.fr))
      exact ⟨i1, fun k h1 h2 => by obtain ⟨t, ht, hx⟩ := i2 k h1 h2; exact ⟨t, by simp [ht], hx⟩⟩
    · have ep : placeL (s :: l) a = a := placeL_before fun t ht => by
        rcases List.mem_cons.1 ht with rfl | ht
        · omega
        · have := g3.le t ht
          omega
      rw [ep]
      have hq := (placeL_spec (show Row b (s :: l) from ⟨g1, g2, g3⟩) (a + 1)).1
      refine ⟨by omega, fun k h1 h2 => ?_⟩
      by_cases hs2 : s.fr ≤ a + 1
      · rcases Int.lt_or_le k s.to_ with hk | hk
        · exact ⟨s, by simp, by omega, hk⟩
        · rw [placeL, if_pos hs2, show a + 1 + (s.to_ - s.fr) = s.to_ by omega] at h2
          obtain ⟨t, ht, hx⟩ := placeL_skip g3 k hk h2
          exact ⟨t, by simp [ht], hx⟩
      · rw [placeL_before fun t ht => by
          rcases List.mem_cons.1 ht with rfl | ht
          · omega
          · have := g3.le t ht
            omega] at h2
        omega
theorem placeL_lt : ∀ {l : List Sp} {b : Int}, Row b l → ∀ a len, a < len - sumSp l → (∀ s ∈ l, s.to_ ≤ len) → placeL l a < len
  | [], _, _, a, len, h, _ => by
    have e1 : placeL [] a = a := rfl
    rw [sumSp_nil] at h
    omega
  | s :: l, b, h, a, len, hl, ht => by
    obtain ⟨g1, g2, g3⟩ := h
    rw [sumSp_cons] at hl
    have hsum : ∀ m : List Sp, (∀ t ∈ m, t.fr < t.to_) → 0 ≤ sumSp m := by
      intro m
      induction m with
      | nil => intro _; rw [sumSp_nil]; omega
      | cons t m ih =>
        intro hm
        rw [sumSp_cons]
        have := ih fun u hu => hm u (by simp [hu])
        have := hm t (by simp)
        omega
    have h0 := hsum l fun t ht => (g3.le t ht).2
    rw [placeL]
    by_cases hs : s.fr ≤ a
    · rw [if_pos hs]
      exact placeL_lt g3 _ len (by omega) fun t h => ht t (by simp [h])
    · rw [if_neg hs]
      exact placeL_lt g3 _ len (by omega) fun t h => ht t (by simp [h])
/-- Kept seconds: monotone. -/
theorem porL_mono : ∀ {l : List Sp} {b : Int}, Row b l → ∀ x y, x ≤ y → 0 ≤ porL l y - porL l x ∧ porL l y - porL l x ≤ max 0 (y - max x b)
  | [], b, _, x, y, h => by
    show 0 ≤ (0 : Int) - 0 ∧ (0 : Int) - 0 ≤ _
    omega
  | s :: l, b, h, x, y, hxy => by
    obtain ⟨g1, g2, g3⟩ := h
    have ih := porL_mono g3 x y hxy
    show 0 ≤ (por s y + porL l y) - (por s x + porL l x) ∧ (por s y + porL l y) - (por s x + porL l x) ≤ _
    unfold por
    omega
theorem porL_all : ∀ {l : List Sp} {b len : Int}, Row b l → (∀ s ∈ l, s.to_ ≤ len) → porL l len = sumSp l
  | [], _, _, _, _ => rfl
  | s :: l, b, len, h, ht => by
    obtain ⟨g1, g2, g3⟩ := h
    show por s len + porL l len = _
    rw [porL_all g3 fun t h => ht t (by simp [h]), sumSp_cons]
    have := ht s (by simp)
    unfold por
    omega
theorem porL_low {l : List Sp} {b : Int} (h : Row b l) (x : Int) (hx : x ≤ b) : porL l x = 0 :=
  porL_zero fun s hs => by have := h.le s hs; omega
theorem porL_step {l : List Sp} {b : Int} (h : Row b l) (x : Int) (hg : ¬ Gone l x) : porL l (x + 1) = porL l x := by
  induction l generalizing b with
  | nil => rfl
  | cons s l ih =>
    obtain ⟨g1, g2, g3⟩ := h
    show por s (x + 1) + porL l (x + 1) = por s x + porL l x
    rw [ih g3 fun ⟨t, ht, hx⟩ => hg ⟨t, by simp [ht], hx⟩]
    have : ¬ (s.fr ≤ x ∧ x < s.to_) := fun h => hg ⟨s, by simp, h⟩
    unfold por
    omega

/-! The spells of a cut. -/
def cutSps (trims : List Sp) (cut : List Int) : List Sp := cut.map (spOf trims)
theorem placeS_eq (trims : List Sp) : ∀ (cut : List Int) (a : Int), placeS trims cut a = placeL (cutSps trims cut) a
  | [], _ => rfl
  | k :: cut, a => by
    show placeS trims cut _ = placeL (spOf trims k :: cutSps trims cut) a
    rw [placeL, ← placeS_eq trims cut]
theorem beforeS_eq (trims : List Sp) (cut : List Int) (x : Int) : beforeS trims cut x = x - porL (cutSps trims cut) x := by
  unfold beforeS
  have : ∀ (cut : List Int) (v : Int), cut.foldl (fun n k => n - max 0 (min x (spOf trims k).to_ - (spOf trims k).fr)) v = v - porL (cutSps trims cut) x := by
    intro cut
    induction cut with
    | nil => intro v; show v = v - 0; omega
    | cons k cut ih =>
      intro v
      rw [List.foldl_cons, ih]
      show _ = v - (por (spOf trims k) x + porL (cutSps trims cut) x)
      unfold por
      omega
  exact this cut x
theorem heardS_eq (trims : List Sp) (x : Int) : ∀ (cut : List Int) (v : Int) (b : Int), Row b (cutSps trims cut) → heardS trims cut x v = if Gone (cutSps trims cut) x then -1 else v - porL (cutSps trims cut) x
  | [], v, _, _ => by
    rw [if_neg (fun ⟨s, hs, _⟩ => by simp [cutSps] at hs)]
    show v = v - 0
    omega
  | k :: cut, v, b, h => by
    obtain ⟨g1, g2, g3⟩ := h
    rw [heardS]
    by_cases hk : (spOf trims k).fr ≤ x ∧ x < (spOf trims k).to_
    · rw [if_pos hk, if_pos ⟨_, List.mem_cons_self, hk⟩]
    · rw [if_neg hk, heardS_eq trims x cut _ _ g3]
      have e : Gone (cutSps trims (k :: cut)) x ↔ Gone (cutSps trims cut) x := by
        constructor
        · rintro ⟨s, hs, hx⟩
          rcases List.mem_cons.1 hs with rfl | hs
          · exact absurd hx hk
          · exact ⟨s, hs, hx⟩
        · rintro ⟨s, hs, hx⟩
          exact ⟨s, List.mem_cons_of_mem _ hs, hx⟩
      by_cases hg : Gone (cutSps trims cut) x
      · rw [if_pos hg, if_pos (e.2 hg)]
      · rw [if_neg hg, if_neg (fun h => hg (e.1 h))]
        show (if _ then _ else _) - _ = v - (por (spOf trims k) x + porL (cutSps trims cut) x)
        unfold por
        by_cases ht : (spOf trims k).to_ ≤ x
        · rw [if_pos ht]
          omega
        · rw [if_neg ht]
          omega
theorem cutLen_eq (i : It) (cut : List Int) : cutLen i cut = i.len - sumSp (cutSps i.trims cut) := by
  unfold cutLen
  have : ∀ (cut : List Int) (v : Int), cut.foldl (fun n k => n - ((spOf i.trims k).to_ - (spOf i.trims k).fr)) v = v - sumSp (cutSps i.trims cut) := by
    intro cut
    induction cut with
    | nil => intro v; show v = v - sumSp []; rw [sumSp_nil]; omega
    | cons k cut ih =>
      intro v
      rw [List.foldl_cons, ih]
      show _ = v - sumSp (spOf i.trims k :: cutSps i.trims cut)
      rw [sumSp_cons]
      omega
  exact this cut i.len
theorem sps_pair {n : Int} {l : List Sp} (h : SpsOk n l) : ∀ (d j : Nat), j + d + 1 < l.length → (spOf l j).to_ ≤ (spOf l ((j + d + 1 : Nat) : Int)).fr := by
  intro d
  induction d with
  | zero =>
    intro j hj
    have := (h.1 (j + 1) hj).2
    rcases this with h0 | h0
    · omega
    · unfold spOf
      simpa using h0
  | succ d ih =>
    intro j hj
    have h1 := ih j (by omega)
    have h2 := (h.1 (j + d + 1 + 1) (by omega)).2
    have h3 := (h.1 (j + d + 1) (by omega)).1
    rcases h2 with h0 | h0
    · omega
    · unfold SpIn at h3
      unfold spOf at *
      simp only [Int.toNat_natCast] at *
      rw [show j + (d + 1) + 1 = j + d + 1 + 1 by omega]
      rw [show j + d + 1 + 1 - 1 = j + d + 1 by omega] at h0
      omega
theorem cut_row {n : Int} {l : List Sp} (h : SpsOk n l) : ∀ (cut : List Int) (b : Int), (∀ k ∈ cut, 0 ≤ k ∧ k < (l.length : Int)) → cut.Pairwise (· < ·) → (∀ k ∈ cut, b ≤ (spOf l k).fr) → Row b (cutSps l cut)
  | [], _, _, _, _ => trivial
  | k :: cut, b, hk, hp, hb => by
    obtain ⟨p1, p2⟩ := List.pairwise_cons.1 hp
    have hk0 := hk k (by simp)
    obtain ⟨kn, rfl⟩ : ∃ kn : Nat, k = (kn : Int) := ⟨k.toNat, by omega⟩
    have hin := (h.1 kn (by omega)).1
    refine ⟨hb _ (by simp), by unfold spOf; rw [Int.toNat_natCast]; exact hin.2.1, cut_row h cut _ (fun j hj => hk j (by simp [hj])) p2 fun j hj => ?_⟩
    have hj0 := hk j (by simp [hj])
    obtain ⟨jn, rfl⟩ : ∃ jn : Nat, j = (jn : Int) := ⟨j.toNat, by omega⟩
    have hlt := p1 _ hj
    have := sps_pair h (jn - kn - 1) kn (by omega)
    rwa [show kn + (jn - kn - 1) + 1 = jn by omega] at this
theorem bitsS_pairwise (set n : Nat) : (bitsS set n).Pairwise (· < ·) := by
  induction n with
  | zero => exact List.Pairwise.nil
  | succ n ih =>
    rw [bitsS]
    split
    · refine List.pairwise_append.2 ⟨ih, by simp, fun a ha b hb => ?_⟩
      obtain rfl := List.mem_singleton.1 hb
      obtain ⟨k, hk, _, rfl⟩ := bitsS_mem.1 ha
      omega
    · exact ih
theorem bitsS_cutOk (set n : Nat) (hn : n ≤ 4) : CutOk n (bitsS set n) := by
  refine ⟨fun k hk => ?_, Nat.le_trans (bitsS_length _ _) hn⟩
  have hm : (bitsS set n)[k]?.getD 0 ∈ bitsS set n := by rw [List.getElem?_eq_getElem hk]; exact List.getElem_mem hk
  obtain ⟨j, hj, _, e⟩ := bitsS_mem.1 hm
  refine ⟨by rw [e]; omega, ?_⟩
  rcases Nat.eq_zero_or_pos k with h | h
  · exact .inl h
  · have := List.pairwise_iff_getElem.1 (bitsS_pairwise set n) (k - 1) k (by omega) hk (by omega)
    rw [List.getElem?_eq_getElem hk, List.getElem?_eq_getElem (by omega)]
    exact .inr this
theorem bits_row {i : It} (h : ItOk i) (set : Nat) : Row 0 (cutSps i.trims (bitsS set i.trims.length)) := by
  refine cut_row h.2.1.1 _ 0 (fun k hk => ?_) (bitsS_pairwise _ _) fun k hk => ?_
  · obtain ⟨j, hj, _, rfl⟩ := bitsS_mem.1 hk
    omega
  · obtain ⟨j, hj, _, rfl⟩ := bitsS_mem.1 hk
    have := (h.2.1.1.1 j hj).1.1
    unfold spOf
    rw [Int.toNat_natCast]
    exact this
theorem bits_to {i : It} (h : ItOk i) (set : Nat) : ∀ s ∈ cutSps i.trims (bitsS set i.trims.length), s.to_ ≤ i.len := by
  intro s hs
  obtain ⟨k, hk, rfl⟩ := List.mem_map.1 hs
  obtain ⟨j, hj, _, rfl⟩ := bitsS_mem.1 hk
  have := (h.2.1.1.1 j hj).1.2.2
  unfold spOf
  rw [Int.toNat_natCast]
  exact this
theorem sumSp_bits {l : List Sp} (h : ∀ j, j < l.length → (l[j]?.getD ⟨0, 0⟩).fr < (l[j]?.getD ⟨0, 0⟩).to_) (set : Nat) : ∀ n, n ≤ l.length → sumSp (cutSps l (bitsS set n)) ≤ sumSp (l.take n) := by
  intro n
  induction n with
  | zero => intro _; exact Int.le_refl _
  | succ n ih =>
    intro hn
    have ih := ih (by omega)
    have hs := h n (by omega)
    rw [List.take_succ_eq_append_getElem (by omega), sumSp_snoc]
    rw [List.getElem?_eq_getElem (by omega)] at hs
    simp only [Option.getD_some] at hs
    rw [bitsS]
    split
    · unfold cutSps
      rw [List.map_append, List.map_cons, List.map_nil, sumSp_snoc]
      have e : spOf l (n : Int) = l[n] := by unfold spOf; rw [Int.toNat_natCast, List.getElem?_eq_getElem (by omega)]; rfl
      rw [e]
      unfold cutSps at ih
      omega
    · omega
theorem cutLen_pos {i : It} (h : ItOk i) (set : Nat) : 1 ≤ cutLen i (bitsS set i.trims.length) := by
  rw [cutLen_eq]
  have := sumSp_bits (l := i.trims) (fun j hj => (h.2.1.1.1 j hj).1.2.1) set i.trims.length (Nat.le_refl _)
  rw [List.take_length] at this
  have := h.2.2.1
  omega
end Go.Proofs.Ytpkeimdlcafcnaa

namespace Go.Proofs.Ytpkeimdlcafcnaa

theorem bitsS_congr (s t : Nat) : ∀ n, (∀ j, j < n → s.testBit j = t.testBit j) → bitsS s n = bitsS t n := by
  intro n
  induction n with
  | zero => intro _; rfl
  | succ n ih =>
    intro h
    rw [bitsS, bitsS, h n (by omega), ih fun j hj => h j (by omega)]
theorem bitsS_low (s n : Nat) : bitsS (s % 2 ^ n) n = bitsS s n :=
  bitsS_congr _ _ n fun j hj => by rw [Nat.testBit_mod_two_pow]; simp [hj]
def bSum (l : List Sp) (s n : Nat) : Int := sumSp (cutSps l (bitsS s n))
theorem bSum_succ (l : List Sp) (s n : Nat) : bSum l s (n + 1) = bSum l s n + if s.testBit n then (spOf l n).to_ - (spOf l n).fr else 0 := by
  unfold bSum cutSps
  rw [bitsS]
  split
  · rw [List.map_append, List.map_cons, List.map_nil, sumSp_snoc]
  · omega
theorem bit_comp : ∀ s : Nat, s < 16 → ∀ j : Nat, j < 4 → (15 - s).testBit j = !s.testBit j := by decide
theorem bit_15 : ∀ j : Nat, j < 4 → (15 : Nat).testBit j = true := by decide
theorem bSum_comp (l : List Sp) (s : Nat) (hs : s < 16) : ∀ n, n ≤ 4 → bSum l s n + bSum l (15 - s) n = bSum l 15 n := by
  intro n
  induction n with
  | zero => intro _; rfl
  | succ n ih =>
    intro hn
    rw [bSum_succ, bSum_succ, bSum_succ, bit_comp s hs n (by omega), bit_15 n (by omega)]
    have := ih (by omega)
    cases s.testBit n <;> simp <;> omega
theorem cutLen_b (i : It) (s : Nat) : cutLen i (bitsS s i.trims.length) = i.len - bSum i.trims s i.trims.length := cutLen_eq _ _
theorem cutLen_comp {i : It} (h : ItOk i) (s : Nat) (hs : s < 16) : cutLen i (bitsS s i.trims.length) + cutLen i (bitsS (15 - s) i.trims.length) = cutLen i (bitsS 15 i.trims.length) + i.len := by
  rw [cutLen_b, cutLen_b, cutLen_b]
  have := bSum_comp i.trims s hs i.trims.length h.2.1.1.2
  omega
theorem mem_lens {i : It} {x : Int} : x ∈ lengthsS i ↔ ∃ s, cutLen i (bitsS s i.trims.length) = x := by
  rw [mem_lengthsS]
  unfold allLens
  simp only [List.mem_map, List.mem_range]
  constructor
  · rintro ⟨s, _, h⟩; exact ⟨s, h⟩
  · rintro ⟨s, h⟩; exact ⟨s % 2 ^ i.trims.length, Nat.mod_lt _ (Nat.two_pow_pos _), by rw [bitsS_low]; exact h⟩
theorem mem_lens16 {i : It} (h : ItOk i) {x : Int} : x ∈ lengthsS i ↔ ∃ s, s < 16 ∧ cutLen i (bitsS s i.trims.length) = x := by
  rw [mem_lens]
  constructor
  · rintro ⟨s, e⟩
    refine ⟨s % 2 ^ i.trims.length, Nat.lt_of_lt_of_le (Nat.mod_lt _ (Nat.two_pow_pos _)) (Nat.pow_le_pow_right (n := 2) (by omega) h.2.1.1.2), by rw [bitsS_low]; exact e⟩
  · rintro ⟨s, _, e⟩; exact ⟨s, e⟩
theorem bSum_nonneg {i : It} (h : ItOk i) (s : Nat) : ∀ n, n ≤ i.trims.length → 0 ≤ bSum i.trims s n := by
  intro n
  induction n with
  | zero => intro _; exact Int.le_refl _
  | succ n ih =>
    intro hn
    rw [bSum_succ]
    have := ih (by omega)
    have h2 := (h.2.1.1.1 n (by omega)).1.2.1
    have e : spOf i.trims n = i.trims[n]?.getD ⟨0, 0⟩ := by unfold spOf; rw [Int.toNat_natCast]
    rw [e]
    split <;> omega
theorem bits_zero (n : Nat) : bitsS 0 n = [] := by
  induction n with
  | zero => rfl
  | succ n ih => rw [bitsS, Nat.zero_testBit, if_neg (by simp), ih]
theorem cutLen_full (i : It) : cutLen i (bitsS 0 i.trims.length) = i.len := by rw [bits_zero]; rfl
theorem lens_bounds {i : It} (h : ItOk i) {x : Int} (hx : x ∈ lengthsS i) : cutLen i (bitsS 15 i.trims.length) ≤ x ∧ x ≤ i.len := by
  obtain ⟨s, hs, rfl⟩ := (mem_lens16 h).1 hx
  have h1 := cutLen_comp h s hs
  have h2 := bSum_nonneg h s i.trims.length (Nat.le_refl _)
  have h3 := bSum_nonneg h (15 - s) i.trims.length (Nat.le_refl _)
  rw [cutLen_b i (15 - s), cutLen_b i s] at h1
  rw [cutLen_b i s]
  omega
theorem lens_sym {i : It} (h : ItOk i) {x : Int} (hx : x ∈ lengthsS i) : cutLen i (bitsS 15 i.trims.length) + i.len - x ∈ lengthsS i := by
  obtain ⟨s, hs, rfl⟩ := (mem_lens16 h).1 hx
  refine mem_lens.2 ⟨15 - s, ?_⟩
  have h1 := cutLen_comp h s hs
  omega
theorem lens_ne (i : It) : lengthsS i ≠ [] := fun e => by
  have : i.len ∈ lengthsS i := mem_lens.2 ⟨0, cutLen_full i⟩
  rw [e] at this
  simp at this
theorem lens_rev {i : It} (h : ItOk i) : (lengthsS i).reverse.map (fun x => cutLen i (bitsS 15 i.trims.length) + i.len - x) = lengthsS i := by
  refine asc_ext ?_ (lengthsS_asc i) fun x => ?_
  · rw [List.map_reverse, List.pairwise_reverse, List.pairwise_map]
    exact (lengthsS_asc i).imp fun hab => by omega
  · rw [List.map_reverse, List.mem_reverse, List.mem_map]
    constructor
    · rintro ⟨y, hy, rfl⟩; exact lens_sym h hy
    · intro hx; exact ⟨_, lens_sym h hx, by omega⟩
theorem lens_pair {i : It} (h : ItOk i) {k : Nat} {x y : Int} (hx : (lengthsS i)[k]? = some x) (hy : (lengthsS i)[(lengthsS i).length - 1 - k]? = some y) : x + y = cutLen i (bitsS 15 i.trims.length) + i.len := by
  have hk := (List.getElem?_eq_some_iff.1 hx).1
  have e := lens_rev h
  have h1 : ((lengthsS i).reverse.map (fun x => cutLen i (bitsS 15 i.trims.length) + i.len - x))[k]? = some x := by rw [e]; exact hx
  rw [List.getElem?_map, List.getElem?_reverse hk, hy] at h1
  simp at h1
  omega
theorem lens_first {i : It} (h : ItOk i) {x : Int} (hx : (lengthsS i)[0]? = some x) : x = cutLen i (bitsS 15 i.trims.length) := by
  have h1 := (lens_bounds h (List.mem_of_getElem? hx)).1
  obtain ⟨k, hk⟩ := List.getElem?_of_mem (mem_lens.2 ⟨15, rfl⟩ : cutLen i (bitsS 15 i.trims.length) ∈ lengthsS i)
  rcases Nat.eq_zero_or_pos k with rfl | hp
  · rw [hx] at hk; exact Option.some.inj hk
  · have h2 := (List.getElem?_eq_some_iff.1 hk)
    have h3 := (List.getElem?_eq_some_iff.1 hx)
    have := List.pairwise_iff_getElem.1 (lengthsS_asc i) 0 k h3.1 h2.1 hp
    rw [h2.2, h3.2] at this
    omega

/-! The order of cuts. -/
theorem cmpI_lt {x y : Int} : Lib.compareInt x y < 0 ↔ x < y := by
  unfold Lib.compareInt
  by_cases h : x < y
  · rw [if_pos h]; omega
  · rw [if_neg h]; split <;> omega
theorem cmpI_eq {x y : Int} : Lib.compareInt x y = 0 ↔ x = y := by
  unfold Lib.compareInt
  by_cases h : x < y
  · rw [if_pos h]; omega
  · rw [if_neg h]; split <;> omega
theorem cmpL_trans : ∀ {a b c : List Int}, cmpL a b < 0 → cmpL b c < 0 → cmpL a c < 0
  | [], [], _, h, _ => by simp [cmpL] at h
  | [], _ :: _, [], _, h => by simp [cmpL] at h
  | [], _ :: _, _ :: _, _, _ => by simp [cmpL]
  | _ :: _, [], _, h, _ => by simp [cmpL] at h
  | _ :: _, _ :: _, [], _, h => by simp [cmpL] at h
  | x :: a, y :: b, z :: c, h1, h2 => by
    rw [cmpL] at *
    by_cases e1 : x = y
    · subst e1
      rw [if_pos (cmpI_eq.2 rfl)] at h1
      by_cases e2 : x = z
      · subst e2
        rw [if_pos (cmpI_eq.2 rfl)] at *
        exact cmpL_trans h1 h2
      · rw [if_neg (fun h => e2 (cmpI_eq.1 h))] at *
        exact h2
    · rw [if_neg (fun h => e1 (cmpI_eq.1 h))] at h1
      have l1 := cmpI_lt.1 h1
      by_cases e2 : y = z
      · subst e2
        rw [if_neg (fun h => e1 (cmpI_eq.1 h))]
        exact h1
      · rw [if_neg (fun h => e2 (cmpI_eq.1 h))] at h2
        have l2 := cmpI_lt.1 h2
        rw [if_neg (fun h => by have := cmpI_eq.1 h; omega)]
        exact cmpI_lt.2 (by omega)
theorem cutCmp_trans {a b c : List Int} (h1 : cutCmp a b < 0) (h2 : cutCmp b c < 0) : cutCmp a c < 0 := by
  unfold cutCmp at *
  by_cases e1 : (a.length : Int) = b.length
  · rw [if_pos (cmpI_eq.2 e1)] at h1
    by_cases e2 : (b.length : Int) = c.length
    · rw [if_pos (cmpI_eq.2 e2)] at h2
      rw [if_pos (cmpI_eq.2 (by omega))]
      exact cmpL_trans h1 h2
    · rw [if_neg (fun h => e2 (cmpI_eq.1 h))] at h2
      rw [if_neg (fun h => e2 (by have := cmpI_eq.1 h; omega)), e1]
      exact h2
  · rw [if_neg (fun h => e1 (cmpI_eq.1 h))] at h1
    have l1 := cmpI_lt.1 h1
    by_cases e2 : (b.length : Int) = c.length
    · rw [if_neg (fun h => e1 (by have := cmpI_eq.1 h; omega)), ← e2]
      exact h1
    · rw [if_neg (fun h => e2 (cmpI_eq.1 h))] at h2
      have l2 := cmpI_lt.1 h2
      rw [if_neg (fun h => by have := cmpI_eq.1 h; omega)]
      exact cmpI_lt.2 (by omega)
theorem cmpL_self : ∀ a : List Int, cmpL a a = 0
  | [] => rfl
  | x :: a => by rw [cmpL, if_pos (cmpI_eq.2 rfl)]; exact cmpL_self a
theorem cutCmp_self (a : List Int) : cutCmp a a = 0 := by unfold cutCmp; rw [if_pos (cmpI_eq.2 rfl)]; exact cmpL_self a
/-- What the search over cuts ends with. -/
theorem bestOf_spec (i : It) (wanted : Int) : ∀ l : List Nat, match bestOf i wanted l with
    | none => ∀ s ∈ l, cutLen i (bitsS s i.trims.length) ≠ wanted
    | some b => (∃ s ∈ l, bitsS s i.trims.length = b) ∧ cutLen i b = wanted ∧ ∀ s ∈ l, cutLen i (bitsS s i.trims.length) = wanted → ¬ cutCmp (bitsS s i.trims.length) b < 0 := by
  intro l
  obtain ⟨m, hm⟩ : ∃ m, m = l.reverse := ⟨_, rfl⟩
  have hl : l = m.reverse := by rw [hm, List.reverse_reverse]
  subst hl
  clear hm
  induction m with
  | nil => intro s hs; simp at hs
  | cons s m ih =>
    rw [List.reverse_cons, bestOf_snoc]
    unfold bestStep
    by_cases hw : cutLen i (bitsS s i.trims.length) = wanted
    · rw [if_pos hw]
      cases hb : bestOf i wanted m.reverse with
      | none =>
        rw [hb] at ih
        refine ⟨⟨s, by simp, rfl⟩, hw, fun t ht hwt => ?_⟩
        rcases List.mem_append.1 ht with ht | ht
        · exact absurd hwt (ih t ht)
        · obtain rfl := List.mem_singleton.1 ht
          rw [cutCmp_self]
          omega
      | some b =>
        rw [hb] at ih
        obtain ⟨⟨r, hr, hrb⟩, i2, i3⟩ := ih
        show match (if cutCmp (bitsS s i.trims.length) b < 0 then some (bitsS s i.trims.length) else some b) with | none => _ | some b => _
        by_cases hc : cutCmp (bitsS s i.trims.length) b < 0
        · rw [if_pos hc]
          refine ⟨⟨s, by simp, rfl⟩, hw, fun t ht hwt hlt => ?_⟩
          rcases List.mem_append.1 ht with ht | ht
          · exact i3 t ht hwt (cutCmp_trans hlt hc)
          · obtain rfl := List.mem_singleton.1 ht
            rw [cutCmp_self] at hlt
            omega
        · rw [if_neg hc]
          refine ⟨⟨r, List.mem_append_left _ hr, hrb⟩, i2, fun t ht hwt => ?_⟩
          rcases List.mem_append.1 ht with ht | ht
          · exact i3 t ht hwt
          · obtain rfl := List.mem_singleton.1 ht
            exact hc
    · rw [if_neg hw]
      cases hb : bestOf i wanted m.reverse with
      | none =>
        rw [hb] at ih
        intro t ht
        rcases List.mem_append.1 ht with ht | ht
        · exact ih t ht
        · obtain rfl := List.mem_singleton.1 ht
          exact hw
      | some b =>
        rw [hb] at ih
        obtain ⟨⟨r, hr, hrb⟩, i2, i3⟩ := ih
        refine ⟨⟨r, List.mem_append_left _ hr, hrb⟩, i2, fun t ht hwt => ?_⟩
        rcases List.mem_append.1 ht with ht | ht
        · exact i3 t ht hwt
        · obtain rfl := List.mem_singleton.1 ht
          exact absurd hwt hw
/-- The preferred cut of a length that some cut has. -/
theorem best_yes {i : It} (wanted : Int) (s : Nat) (hs : cutLen i (bitsS s i.trims.length) = wanted) : ∃ b r, bestOf i wanted (List.range (2 ^ i.trims.length)) = some b ∧ bitsS r i.trims.length = b ∧ cutLen i b = wanted ∧ ∀ t, cutLen i (bitsS t i.trims.length) = wanted → ¬ cutCmp (bitsS t i.trims.length) b < 0 := by
  have h := bestOf_spec i wanted (List.range (2 ^ i.trims.length))
  have hin : ∀ t : Nat, t % 2 ^ i.trims.length ∈ List.range (2 ^ i.trims.length) := fun t => List.mem_range.2 (Nat.mod_lt _ (Nat.two_pow_pos _))
  cases hb : bestOf i wanted (List.range (2 ^ i.trims.length)) with
  | none =>
    rw [hb] at h
    exact absurd (by rw [bitsS_low]; exact hs) (h _ (hin s))
  | some b =>
    rw [hb] at h
    obtain ⟨⟨r, _, hr⟩, h2, h3⟩ := h
    refine ⟨b, r, rfl, hr, h2, fun t ht => ?_⟩
    have := h3 _ (hin t)
    rw [bitsS_low] at this
    exact this ht
theorem best_no {i : It} (wanted : Int) (hs : ∀ s, cutLen i (bitsS s i.trims.length) ≠ wanted) : bestOf i wanted (List.range (2 ^ i.trims.length)) = none := by
  have h := bestOf_spec i wanted (List.range (2 ^ i.trims.length))
  cases hb : bestOf i wanted (List.range (2 ^ i.trims.length)) with
  | none => rfl
  | some b =>
    rw [hb] at h
    obtain ⟨⟨r, _, hr⟩, h2, _⟩ := h
    exact absurd (by rw [hr]; exact h2) (hs r)
end Go.Proofs.Ytpkeimdlcafcnaa

namespace Go.Proofs.Ytpkeimdlcafcnaa
open Go.RowKit
set_option maxRecDepth 100000
set_option maxHeartbeats 40000000

theorem goneCut_succ {trims : List Sp} {xs : List Int} {k xn : Nat} {s : Sp} {x : Int} (hx : xs[k]? = some (xn : Int)) (hs : trims[xn]? = some s) : Gone (cutSps trims (xs.take (k + 1))) x ↔ Gone (cutSps trims (xs.take k)) x ∨ (s.fr ≤ x ∧ x < s.to_) := by
  have e : spOf trims (xn : Int) = s := by unfold spOf; rw [Int.toNat_natCast, hs]; rfl
  rw [List.take_add_one, hx, Option.toList_some]
  unfold cutSps
  rw [List.map_append, List.map_cons, List.map_nil, e]
  constructor
  · rintro ⟨t, ht, h⟩
    rcases List.mem_append.1 ht with ht | ht
    · exact .inl ⟨t, ht, h⟩
    · obtain rfl := List.mem_singleton.1 ht; exact .inr h
  · rintro (⟨t, ht, h⟩ | h)
    · exact ⟨t, List.mem_append_left _ ht, h⟩
    · exact ⟨s, by simp, h⟩
theorem refOut (i : It) (ta : Option Addr) (tc : Nat) (ka : Option Addr) (kc : Nat) (a : Option Addr) (n c : Nat) (xs : List Int) (x : Int) (w : World) (it : ItAt w i ta ka) (_ht4 : i.trims.length ≤ 4) (hco : CutOk i.trims.length xs) (hC : Ints w.heap.size w (.slice a n c) xs) :
    Calls Try.prog 60 #[.agg #[.int .i64 i.id, .int .i64 i.kind, .int .i64 i.len, .slice ta i.trims.length tc, .slice ka i.talks.length kc, .int .i64 i.artist, .int .i64 i.tempo, .int .i64 i.lang], .slice a n c, .int .i64 x] w fun e w' => e = .returned (.bool (decide (Gone (cutSps i.trims xs) x))) ∧ Upd [] w w' := by
  obtain ⟨r, HR⟩ : ∃ r, Hid (decide (Gone (cutSps i.trims xs) x) = r) := ⟨_, rfl⟩
  rw [HR.out]
  have HI := hide it
  have HX := hide hC.form.2
  have HXN := hide hC.form.1
  have HCO := hide hco
  have hn4 : n ≤ 4 := by have := HCO.out.2; have := HXN.out; omega
  clear it hC hco
  go_enter Try.func60, Try.ntmps60
  go_upto_region 1 with fail
  obtain ⟨w1, hw1⟩ : ∃ x, w.alloc (.cells #[.int .i64 i.id, .int .i64 i.kind, .int .i64 i.len, .slice ta i.trims.length tc, .slice ka i.talks.length kc, .int .i64 i.artist, .int .i64 i.tempo, .int .i64 i.lang] 24) = x := ⟨_, rfl⟩
  have B1 := hide (show Blk w1 w.heap.size 24 [.int .i64 i.id, .int .i64 i.kind, .int .i64 i.len, .slice ta i.trims.length tc, .slice ka i.talks.length kc, .int .i64 i.artist, .int .i64 i.tempo, .int .i64 i.lang] by rw [← hw1]; exact Blk.new w _ _)
  have U1 := hide (show Upd [] w w1 by rw [← hw1]; exact (Upd.refl [] _).alloc _)
  rw [hw1]
  clear hw1
  go_wp2_with fail
  go_loopw [7] (fun s7 wr => ∃ k : Nat, k ≤ n ∧ s7 = .int .i64 k ∧ Hid (¬ Gone (cutSps i.trims (xs.take k)) x) ∧ Hid (Upd [] w1 wr)) (fun k _ => n - (intOf k).toNat)
  case atStart => exact ⟨0, Nat.zero_le _, rfl, hide (by rw [List.take_zero]; rintro ⟨_, h, _⟩; simp [cutSps] at h), Upd.refl _ _⟩
  case round =>
    obtain ⟨k, hk, rfl, hg, hu⟩ := hrel
    obtain ⟨wo, rfl⟩ : ∃ wo : World, wo = wr := ⟨_, rfl⟩
    have UO := hide (U1.out.trans hu.out (by simp))
    have V := hide (hu.out.drew)
    have VO := hide (UO.out.drew)
    have m3 := (B1.out.upd hu.out (by simp)).cell 3
    by_cases hkl : k < n
    case neg =>
      obtain rfl : k = n := by omega
      have hki : ¬ (k : Int) < k := by omega
      obtain rfl : r = false := by
        rw [← HR.out]
        have e := hg.out
        rw [List.take_of_length_le (by have := HXN.out; omega)] at e
        exact decide_eq_false e
      go_wp2_with fail
      go_ret
      exact ⟨rfl, UO.out⟩
    have hki : (k : Int) < n := by omega
    obtain ⟨y, hx⟩ : ∃ x, xs[k]? = some x := ⟨_, List.getElem?_eq_getElem (by have := HXN.out; omega)⟩
    have hxi := (HCO.out.1 k (by have := HXN.out; omega)).1
    rw [hx] at hxi
    obtain ⟨xn, rfl⟩ : ∃ xn : Nat, y = (xn : Int) := ⟨y.toNat, by have := hxi.1; simp at this; omega⟩
    have hxt : xn < i.trims.length := by have := hxi.2; simp at this; omega
    obtain ⟨s, hs⟩ : ∃ s, i.trims[xn]? = some s := ⟨_, List.getElem?_eq_getElem hxt⟩
    obtain ⟨sb, so, ea, _, s0, s1⟩ := (HI.out.upd UO.out).trims xn s hs
    subst ea
    obtain ⟨b, o, eb, _, c0⟩ := HX.out k _ hx
    subst eb
    have c0' := keepc _ _ _ _ UO.out c0
    have hxi2 : (xn : Int) < i.trims.length := by omega
    have HST := hide (goneCut_succ (x := x) hx hs)
    have HALL := hide (show Gone (cutSps i.trims (xs.take (k + 1))) x → Gone (cutSps i.trims xs) x from fun ⟨t, ht, h⟩ => ⟨t, by
      obtain ⟨z, hz, e⟩ := List.mem_map.1 ht
      exact List.mem_map.2 ⟨z, List.mem_of_mem_take hz, e⟩, h⟩)
    clear hx hs hxi c0
    by_cases e1 : s.fr ≤ x
    case neg =>
      have d1 : decide (s.fr ≤ x) = false := decide_eq_false e1
      have HN := hide (show ¬ Gone (cutSps i.trims (xs.take (k + 1))) x from fun h => (HST.out.1 h).elim hg.out fun h => e1 h.1)
      go_wp2_with fail
      refine wp_region_held_drew (S := (fun w' => w'.cell? ⟨w.heap.size, 3, none⟩ = some (.slice (some ⟨sb, so, none⟩) i.trims.length tc) ∧ w'.cell? ⟨b, o + k, none⟩ = some (.int .i64 xn) ∧ w'.cell? ⟨sb, so + xn * 2, none⟩ = some (.int .i64 s.fr) ∧ w'.cell? ⟨sb, so + xn * 2 + 1, none⟩ = some (.int .i64 s.to_))) (by kernel_rfl) (by exact ⟨m3, c0', s0, s1⟩) (fun hHeld => ?_)
      refine wpAnyH_take (i := 0) (oi := ?oi0L1) (v := ?v0L1) ?oi0_0L1 (by kernel_rfl) ?ff0L1 ?rr0L1 ?hq0L1 (Or.inl ⟨?hw0L1, ?hy0L1⟩) (by assumption) ?rest0L1
      case oi0_0L1 =>
        conv =>
          lhs
          whnf
          arg 1
          whnf
      case hq0L1 => exact fun _ _ _ h => h
      case ff0L1 => kernel_rfl
      case rr0L1 => kernel_rfl
      case hw0L1 => rfl
      case hy0L1 =>
        intro w hSw
        (try dsimp only at hSw)
        first
        | (go_simp; done)
        | (go_simp; with_reducible rfl)
      try simp only [Act.put, List.setIfInBounds_toArray, List.set_cons_zero, List.set_cons_succ]
      refine wpAnyH_take (i := 1) (oi := ?oi1L1) (v := ?v1L1) ?oi0_1L1 (by kernel_rfl) ?ff1L1 ?rr1L1 ?hq1L1 (Or.inl ⟨?hw1L1, ?hy1L1⟩) (by assumption) ?rest1L1
      case oi0_1L1 =>
        conv =>
          lhs
          whnf
          arg 1
          whnf
      case hq1L1 => exact fun _ _ _ h => h
      case ff1L1 => kernel_rfl
      case rr1L1 => kernel_rfl
      case hw1L1 => rfl
      case hy1L1 =>
        intro w hSw
        (try dsimp only at hSw)
        first
        | (go_simp; done)
        | (go_simp; with_reducible rfl)
      try simp only [Act.put, List.setIfInBounds_toArray, List.set_cons_zero, List.set_cons_succ]
      refine wpAnyH_take (i := 2) (oi := ?oi2L1) (v := ?v2L1) ?oi0_2L1 (by kernel_rfl) ?ff2L1 ?rr2L1 ?hq2L1 (Or.inl ⟨?hw2L1, ?hy2L1⟩) (by assumption) ?rest2L1
      case oi0_2L1 =>
        conv =>
          lhs
          whnf
          arg 1
          whnf
      case hq2L1 => exact fun _ _ _ h => h
      case ff2L1 => kernel_rfl
      case rr2L1 => kernel_rfl
      case hw2L1 => rfl
      case hy2L1 =>
        intro w hSw
        (try dsimp only at hSw)
        first
        | (go_simp; done)
        | (go_simp; with_reducible rfl)
      try simp only [Act.put, List.setIfInBounds_toArray, List.set_cons_zero, List.set_cons_succ]
      refine wpAnyH_take (i := 3) (oi := ?oi3L1) (v := ?v3L1) ?oi0_3L1 (by kernel_rfl) ?ff3L1 ?rr3L1 ?hq3L1 (Or.inl ⟨?hw3L1, ?hy3L1⟩) (by assumption) ?rest3L1
      case oi0_3L1 =>
        conv =>
          lhs
          whnf
          arg 1
          whnf
      case hq3L1 => exact fun _ _ _ h => h
      case ff3L1 => kernel_rfl
      case rr3L1 => kernel_rfl
      case hw3L1 => rfl
      case hy3L1 =>
        intro w hSw
        (try dsimp only at hSw)
        first
        | (go_simp; done)
        | (go_simp; with_reducible rfl)
      try simp only [Act.put, List.setIfInBounds_toArray, List.set_cons_zero, List.set_cons_succ]
      refine wpAnyH_take (i := 4) (oi := ?oi4L1) (v := ?v4L1) ?oi0_4L1 (by kernel_rfl) ?ff4L1 ?rr4L1 ?hq4L1 (Or.inl ⟨?hw4L1, ?hy4L1⟩) (by assumption) ?rest4L1
      case oi0_4L1 =>
        conv =>
          lhs
          whnf
          arg 1
          whnf
      case hq4L1 => exact fun _ _ _ h => h
      case ff4L1 => kernel_rfl
      case rr4L1 => kernel_rfl
      case hw4L1 => rfl
      case hy4L1 =>
        intro w hSw
        (try dsimp only at hSw)
        first
        | (go_simp; done)
        | (go_simp; with_reducible rfl)
      try simp only [Act.put, List.setIfInBounds_toArray, List.set_cons_zero, List.set_cons_succ]
      refine wpAnyH_take (i := 5) (oi := ?oi5L1) (v := ?v5L1) ?oi0_5L1 (by kernel_rfl) ?ff5L1 ?rr5L1 ?hq5L1 (Or.inl ⟨?hw5L1, ?hy5L1⟩) (by assumption) ?rest5L1
      case oi0_5L1 =>
        conv =>
          lhs
          whnf
          arg 1
          whnf
      case hq5L1 => exact fun _ _ _ h => h
      case ff5L1 => kernel_rfl
      case rr5L1 => kernel_rfl
      case hw5L1 => rfl
      case hy5L1 =>
        intro w hSw
        (try dsimp only at hSw)
        first
        | (go_simp; done)
        | (go_simp; with_reducible rfl)
      try simp only [Act.put, List.setIfInBounds_toArray, List.set_cons_zero, List.set_cons_succ]
      refine wpAnyH_take (i := 6) (oi := ?oi6L1) (v := ?v6L1) ?oi0_6L1 (by kernel_rfl) ?ff6L1 ?rr6L1 ?hq6L1 (Or.inl ⟨?hw6L1, ?hy6L1⟩) (by assumption) ?rest6L1
      case oi0_6L1 =>
        conv =>
          lhs
          whnf
          arg 1
          whnf
      case hq6L1 => exact fun _ _ _ h => h
      case ff6L1 => kernel_rfl
      case rr6L1 => kernel_rfl
      case hw6L1 => rfl
      case hy6L1 =>
        intro w hSw
        (try dsimp only at hSw)
        first
        | (go_simp; done)
        | (go_simp; with_reducible rfl)
      try simp only [Act.put, List.setIfInBounds_toArray, List.set_cons_zero, List.set_cons_succ]
      refine wpAnyH_take (i := 7) (oi := ?oi7L1) (v := ?v7L1) ?oi0_7L1 (by kernel_rfl) ?ff7L1 ?rr7L1 ?hq7L1 (Or.inl ⟨?hw7L1, ?hy7L1⟩) (by assumption) ?rest7L1
      case oi0_7L1 =>
        conv =>
          lhs
          whnf
          arg 1
          whnf
      case hq7L1 => exact fun _ _ _ h => h
      case ff7L1 => kernel_rfl
      case rr7L1 => kernel_rfl
      case hw7L1 => rfl
      case hy7L1 =>
        intro w hSw
        (try dsimp only at hSw)
        first
        | (go_simp; done)
        | (go_simp; with_reducible rfl)
      try simp only [Act.put, List.setIfInBounds_toArray, List.set_cons_zero, List.set_cons_succ]
      refine wpAnyH_take (i := 8) (oi := ?oi8L1) (v := ?v8L1) ?oi0_8L1 (by kernel_rfl) ?ff8L1 ?rr8L1 ?hq8L1 (Or.inl ⟨?hw8L1, ?hy8L1⟩) (by assumption) ?rest8L1
      case oi0_8L1 =>
        conv =>
          lhs
          whnf
          arg 1
          whnf
      case hq8L1 => exact fun _ _ _ h => h
      case ff8L1 => kernel_rfl
      case rr8L1 => kernel_rfl
      case hw8L1 => rfl
      case hy8L1 =>
        intro w hSw
        (try dsimp only at hSw)
        first
        | (go_simp; done)
        | (go_simp; with_reducible rfl)
      try simp only [Act.put, List.setIfInBounds_toArray, List.set_cons_zero, List.set_cons_succ]
      refine wpAnyH_take (i := 9) (oi := ?oi9L1) (v := ?v9L1) ?oi0_9L1 (by kernel_rfl) ?ff9L1 ?rr9L1 ?hq9L1 (Or.inl ⟨?hw9L1, ?hy9L1⟩) (by assumption) ?rest9L1
      case oi0_9L1 =>
        conv =>
          lhs
          whnf
          arg 1
          whnf
      case hq9L1 => exact fun _ _ _ h => h
      case ff9L1 => kernel_rfl
      case rr9L1 => kernel_rfl
      case hw9L1 => rfl
      case hy9L1 =>
        intro w hSw
        (try dsimp only at hSw)
        first
        | (go_simp; done)
        | (go_simp; with_reducible rfl)
      try simp only [Act.put, List.setIfInBounds_toArray, List.set_cons_zero, List.set_cons_succ]
      refine wpAnyH_take (i := 10) (oi := ?oi10L1) (v := ?v10L1) ?oi0_10L1 (by kernel_rfl) ?ff10L1 ?rr10L1 ?hq10L1 (Or.inl ⟨?hw10L1, ?hy10L1⟩) (by assumption) ?rest10L1
      case oi0_10L1 =>
        conv =>
          lhs
          whnf
          arg 1
          whnf
      case hq10L1 => exact fun _ _ _ h => h
      case ff10L1 => kernel_rfl
      case rr10L1 => kernel_rfl
      case hw10L1 => rfl
      case hy10L1 =>
        intro w hSw
        (try dsimp only at hSw)
        first
        | (go_simp; done)
        | (go_simp; with_reducible rfl)
      try simp only [Act.put, List.setIfInBounds_toArray, List.set_cons_zero, List.set_cons_succ]
      refine wpAnyH_take (i := 11) (oi := ?oi11L1) (v := ?v11L1) ?oi0_11L1 (by kernel_rfl) ?ff11L1 ?rr11L1 ?hq11L1 (Or.inl ⟨?hw11L1, ?hy11L1⟩) (by assumption) ?rest11L1
      case oi0_11L1 =>
        conv =>
          lhs
          whnf
          arg 1
          whnf
      case hq11L1 => exact fun _ _ _ h => h
      case ff11L1 => kernel_rfl
      case rr11L1 => kernel_rfl
      case hw11L1 => rfl
      case hy11L1 =>
        intro w hSw
        (try dsimp only at hSw)
        first
        | (go_simp; done)
        | (go_simp; with_reducible rfl)
      try simp only [Act.put, List.setIfInBounds_toArray, List.set_cons_zero, List.set_cons_succ]
      refine wpAnyH_take (i := 12) (oi := ?oi12L1) (v := undef) ?oi0_12L1 (by kernel_rfl) ?ff12L1 ?rr12L1 ?hq12L1 (Or.inr ⟨?hw12L1, rfl⟩) (by assumption) ?rest12L1
      case oi0_12L1 =>
        conv =>
          lhs
          whnf
          arg 1
          whnf
      case hq12L1 => exact fun _ _ _ h => h
      case ff12L1 => kernel_rfl
      case rr12L1 => kernel_rfl
      case hw12L1 => rfl
      try simp only [Act.put, List.setIfInBounds_toArray, List.set_cons_zero, List.set_cons_succ]
      refine wpAnyH_take (i := 13) (oi := ?oi13L1) (v := undef) ?oi0_13L1 (by kernel_rfl) ?ff13L1 ?rr13L1 ?hq13L1 (Or.inr ⟨?hw13L1, rfl⟩) (by assumption) ?rest13L1
      case oi0_13L1 =>
        conv =>
          lhs
          whnf
          arg 1
          whnf
      case hq13L1 => exact fun _ _ _ h => h
      case ff13L1 => kernel_rfl
      case rr13L1 => kernel_rfl
      case hw13L1 => rfl
      try simp only [Act.put, List.setIfInBounds_toArray, List.set_cons_zero, List.set_cons_succ]
      refine wpAnyH_take (i := 14) (oi := ?oi14L1) (v := undef) ?oi0_14L1 (by kernel_rfl) ?ff14L1 ?rr14L1 ?hq14L1 (Or.inr ⟨?hw14L1, rfl⟩) (by assumption) ?rest14L1
      case oi0_14L1 =>
        conv =>
          lhs
          whnf
          arg 1
          whnf
      case hq14L1 => exact fun _ _ _ h => h
      case ff14L1 => kernel_rfl
      case rr14L1 => kernel_rfl
      case hw14L1 => rfl
      try simp only [Act.put, List.setIfInBounds_toArray, List.set_cons_zero, List.set_cons_succ]
      refine wpAnyH_take (i := 15) (oi := ?oi15L1) (v := undef) ?oi0_15L1 (by kernel_rfl) ?ff15L1 ?rr15L1 ?hq15L1 (Or.inr ⟨?hw15L1, rfl⟩) (by assumption) ?rest15L1
      case oi0_15L1 =>
        conv =>
          lhs
          whnf
          arg 1
          whnf
      case hq15L1 => exact fun _ _ _ h => h
      case ff15L1 => kernel_rfl
      case rr15L1 => kernel_rfl
      case hw15L1 => rfl
      try simp only [Act.put, List.setIfInBounds_toArray, List.set_cons_zero, List.set_cons_succ]
      refine wpAnyH_take (i := 16) (oi := ?oi16L1) (v := undef) ?oi0_16L1 (by kernel_rfl) ?ff16L1 ?rr16L1 ?hq16L1 (Or.inr ⟨?hw16L1, rfl⟩) (by assumption) ?rest16L1
      case oi0_16L1 =>
        conv =>
          lhs
          whnf
          arg 1
          whnf
      case hq16L1 => exact fun _ _ _ h => h
      case ff16L1 => kernel_rfl
      case rr16L1 => kernel_rfl
      case hw16L1 => rfl
      try simp only [Act.put, List.setIfInBounds_toArray, List.set_cons_zero, List.set_cons_succ]
      refine wpAnyH_take (i := 17) (oi := ?oi17L1) (v := undef) ?oi0_17L1 (by kernel_rfl) ?ff17L1 ?rr17L1 ?hq17L1 (Or.inr ⟨?hw17L1, rfl⟩) (by assumption) ?rest17L1
      case oi0_17L1 =>
        conv =>
          lhs
          whnf
          arg 1
          whnf
      case hq17L1 => exact fun _ _ _ h => h
      case ff17L1 => kernel_rfl
      case rr17L1 => kernel_rfl
      case hw17L1 => rfl
      try simp only [Act.put, List.setIfInBounds_toArray, List.set_cons_zero, List.set_cons_succ]
      refine wpAnyH_take (i := 18) (oi := ?oi18L1) (v := undef) ?oi0_18L1 (by kernel_rfl) ?ff18L1 ?rr18L1 ?hq18L1 (Or.inr ⟨?hw18L1, rfl⟩) (by assumption) ?rest18L1
      case oi0_18L1 =>
        conv =>
          lhs
          whnf
          arg 1
          whnf
      case hq18L1 => exact fun _ _ _ h => h
      case ff18L1 => kernel_rfl
      case rr18L1 => kernel_rfl
      case hw18L1 => rfl
      try simp only [Act.put, List.setIfInBounds_toArray, List.set_cons_zero, List.set_cons_succ]
      refine wpAnyH_take (i := 19) (oi := ?oi19L1) (v := undef) ?oi0_19L1 (by kernel_rfl) ?ff19L1 ?rr19L1 ?hq19L1 (Or.inr ⟨?hw19L1, rfl⟩) (by assumption) ?rest19L1
      case oi0_19L1 =>
        conv =>
          lhs
          whnf
          arg 1
          whnf
      case hq19L1 => exact fun _ _ _ h => h
      case ff19L1 => kernel_rfl
      case rr19L1 => kernel_rfl
      case hw19L1 => rfl
      try simp only [Act.put, List.setIfInBounds_toArray, List.set_cons_zero, List.set_cons_succ]
      refine wpAnyH_take (i := 20) (oi := ?oi20L1) (v := undef) ?oi0_20L1 (by kernel_rfl) ?ff20L1 ?rr20L1 ?hq20L1 (Or.inr ⟨?hw20L1, rfl⟩) (by assumption) ?rest20L1
      case oi0_20L1 =>
        conv =>
          lhs
          whnf
          arg 1
          whnf
      case hq20L1 => exact fun _ _ _ h => h
      case ff20L1 => kernel_rfl
      case rr20L1 => kernel_rfl
      case hw20L1 => rfl
      try simp only [Act.put, List.setIfInBounds_toArray, List.set_cons_zero, List.set_cons_succ]
      refine wpAnyH_take (i := 21) (oi := ?oi21L1) (v := undef) ?oi0_21L1 (by kernel_rfl) ?ff21L1 ?rr21L1 ?hq21L1 (Or.inr ⟨?hw21L1, rfl⟩) (by assumption) ?rest21L1
      case oi0_21L1 =>
        conv =>
          lhs
          whnf
          arg 1
          whnf
      case hq21L1 => exact fun _ _ _ h => h
      case ff21L1 => kernel_rfl
      case rr21L1 => kernel_rfl
      case hw21L1 => rfl
      try simp only [Act.put, List.setIfInBounds_toArray, List.set_cons_zero, List.set_cons_succ]
      refine wpAnyH_take (i := 22) (oi := ?oi22L1) (v := undef) ?oi0_22L1 (by kernel_rfl) ?ff22L1 ?rr22L1 ?hq22L1 (Or.inr ⟨?hw22L1, rfl⟩) (by assumption) ?rest22L1
      case oi0_22L1 =>
        conv =>
          lhs
          whnf
          arg 1
          whnf
      case hq22L1 => exact fun _ _ _ h => h
      case ff22L1 => kernel_rfl
      case rr22L1 => kernel_rfl
      case hw22L1 => rfl
      try simp only [Act.put, List.setIfInBounds_toArray, List.set_cons_zero, List.set_cons_succ]
      refine wpAnyH_take (i := 23) (oi := ?oi23L1) (v := ?v23L1) ?oi0_23L1 (by kernel_rfl) ?ff23L1 ?rr23L1 ?hq23L1 (Or.inl ⟨?hw23L1, ?hy23L1⟩) (by assumption) ?rest23L1
      case oi0_23L1 =>
        conv =>
          lhs
          whnf
          arg 1
          whnf
      case hq23L1 => exact fun _ _ _ h => h
      case ff23L1 => kernel_rfl
      case rr23L1 => kernel_rfl
      case hw23L1 => rfl
      case hy23L1 =>
        intro w hSw
        (try dsimp only at hSw)
        first
        | (go_simp; done)
        | (go_simp; with_reducible rfl)
      try simp only [Act.put, List.setIfInBounds_toArray, List.set_cons_zero, List.set_cons_succ]
      refine wpAnyH_done (by kernel_rfl) ?_ _
      go_wp2_with fail
      go_roundw
      case rel => exact ⟨k + 1, by omega, by go_num, HN, V⟩
      case measure => simp [intOf] <;> omega
    have d1 : decide (s.fr ≤ x) = true := decide_eq_true e1
    by_cases e2 : x < s.to_
    case neg =>
      have d2 : decide (x < s.to_) = false := decide_eq_false e2
      have HN := hide (show ¬ Gone (cutSps i.trims (xs.take (k + 1))) x from fun h => (HST.out.1 h).elim hg.out fun h => e2 h.2)
      go_wp2_with fail
      refine wp_region_held_drew (S := (fun w' => w'.cell? ⟨w.heap.size, 3, none⟩ = some (.slice (some ⟨sb, so, none⟩) i.trims.length tc) ∧ w'.cell? ⟨b, o + k, none⟩ = some (.int .i64 xn) ∧ w'.cell? ⟨sb, so + xn * 2, none⟩ = some (.int .i64 s.fr) ∧ w'.cell? ⟨sb, so + xn * 2 + 1, none⟩ = some (.int .i64 s.to_))) (by kernel_rfl) (by exact ⟨m3, c0', s0, s1⟩) (fun hHeld => ?_)
      refine wpAnyH_take (i := 0) (oi := ?oi0L2) (v := ?v0L2) ?oi0_0L2 (by kernel_rfl) ?ff0L2 ?rr0L2 ?hq0L2 (Or.inl ⟨?hw0L2, ?hy0L2⟩) (by assumption) ?rest0L2
      case oi0_0L2 =>
        conv =>
          lhs
          whnf
          arg 1
          whnf
      case hq0L2 => exact fun _ _ _ h => h
      case ff0L2 => kernel_rfl
      case rr0L2 => kernel_rfl
      case hw0L2 => rfl
      case hy0L2 =>
        intro w hSw
        (try dsimp only at hSw)
        first
        | (go_simp; done)
        | (go_simp; with_reducible rfl)
      try simp only [Act.put, List.setIfInBounds_toArray, List.set_cons_zero, List.set_cons_succ]
      refine wpAnyH_take (i := 1) (oi := ?oi1L2) (v := ?v1L2) ?oi0_1L2 (by kernel_rfl) ?ff1L2 ?rr1L2 ?hq1L2 (Or.inl ⟨?hw1L2, ?hy1L2⟩) (by assumption) ?rest1L2
      case oi0_1L2 =>
        conv =>
          lhs
          whnf
          arg 1
          whnf
      case hq1L2 => exact fun _ _ _ h => h
      case ff1L2 => kernel_rfl
      case rr1L2 => kernel_rfl
      case hw1L2 => rfl
      case hy1L2 =>
        intro w hSw
        (try dsimp only at hSw)
        first
        | (go_simp; done)
        | (go_simp; with_reducible rfl)
      try simp only [Act.put, List.setIfInBounds_toArray, List.set_cons_zero, List.set_cons_succ]
      refine wpAnyH_take (i := 2) (oi := ?oi2L2) (v := ?v2L2) ?oi0_2L2 (by kernel_rfl) ?ff2L2 ?rr2L2 ?hq2L2 (Or.inl ⟨?hw2L2, ?hy2L2⟩) (by assumption) ?rest2L2
      case oi0_2L2 =>
        conv =>
          lhs
          whnf
          arg 1
          whnf
      case hq2L2 => exact fun _ _ _ h => h
      case ff2L2 => kernel_rfl
      case rr2L2 => kernel_rfl
      case hw2L2 => rfl
      case hy2L2 =>
        intro w hSw
        (try dsimp only at hSw)
        first
        | (go_simp; done)
        | (go_simp; with_reducible rfl)
      try simp only [Act.put, List.setIfInBounds_toArray, List.set_cons_zero, List.set_cons_succ]
      refine wpAnyH_take (i := 3) (oi := ?oi3L2) (v := ?v3L2) ?oi0_3L2 (by kernel_rfl) ?ff3L2 ?rr3L2 ?hq3L2 (Or.inl ⟨?hw3L2, ?hy3L2⟩) (by assumption) ?rest3L2
      case oi0_3L2 =>
        conv =>
          lhs
          whnf
          arg 1
          whnf
      case hq3L2 => exact fun _ _ _ h => h
      case ff3L2 => kernel_rfl
      case rr3L2 => kernel_rfl
      case hw3L2 => rfl
      case hy3L2 =>
        intro w hSw
        (try dsimp only at hSw)
        first
        | (go_simp; done)
        | (go_simp; with_reducible rfl)
      try simp only [Act.put, List.setIfInBounds_toArray, List.set_cons_zero, List.set_cons_succ]
      refine wpAnyH_take (i := 4) (oi := ?oi4L2) (v := ?v4L2) ?oi0_4L2 (by kernel_rfl) ?ff4L2 ?rr4L2 ?hq4L2 (Or.inl ⟨?hw4L2, ?hy4L2⟩) (by assumption) ?rest4L2
      case oi0_4L2 =>
        conv =>
          lhs
          whnf
          arg 1
          whnf
      case hq4L2 => exact fun _ _ _ h => h
      case ff4L2 => kernel_rfl
      case rr4L2 => kernel_rfl
      case hw4L2 => rfl
      case hy4L2 =>
        intro w hSw
        (try dsimp only at hSw)
        first
        | (go_simp; done)
        | (go_simp; with_reducible rfl)
      try simp only [Act.put, List.setIfInBounds_toArray, List.set_cons_zero, List.set_cons_succ]
      refine wpAnyH_take (i := 5) (oi := ?oi5L2) (v := ?v5L2) ?oi0_5L2 (by kernel_rfl) ?ff5L2 ?rr5L2 ?hq5L2 (Or.inl ⟨?hw5L2, ?hy5L2⟩) (by assumption) ?rest5L2
      case oi0_5L2 =>
        conv =>
          lhs
          whnf
          arg 1
          whnf
      case hq5L2 => exact fun _ _ _ h => h
      case ff5L2 => kernel_rfl
      case rr5L2 => kernel_rfl
      case hw5L2 => rfl
      case hy5L2 =>
        intro w hSw
        (try dsimp only at hSw)
        first
        | (go_simp; done)
        | (go_simp; with_reducible rfl)
      try simp only [Act.put, List.setIfInBounds_toArray, List.set_cons_zero, List.set_cons_succ]
      refine wpAnyH_take (i := 6) (oi := ?oi6L2) (v := ?v6L2) ?oi0_6L2 (by kernel_rfl) ?ff6L2 ?rr6L2 ?hq6L2 (Or.inl ⟨?hw6L2, ?hy6L2⟩) (by assumption) ?rest6L2
      case oi0_6L2 =>
        conv =>
          lhs
          whnf
          arg 1
          whnf
      case hq6L2 => exact fun _ _ _ h => h
      case ff6L2 => kernel_rfl
      case rr6L2 => kernel_rfl
      case hw6L2 => rfl
      case hy6L2 =>
        intro w hSw
        (try dsimp only at hSw)
        first
        | (go_simp; done)
        | (go_simp; with_reducible rfl)
      try simp only [Act.put, List.setIfInBounds_toArray, List.set_cons_zero, List.set_cons_succ]
      refine wpAnyH_take (i := 7) (oi := ?oi7L2) (v := ?v7L2) ?oi0_7L2 (by kernel_rfl) ?ff7L2 ?rr7L2 ?hq7L2 (Or.inl ⟨?hw7L2, ?hy7L2⟩) (by assumption) ?rest7L2
      case oi0_7L2 =>
        conv =>
          lhs
          whnf
          arg 1
          whnf
      case hq7L2 => exact fun _ _ _ h => h
      case ff7L2 => kernel_rfl
      case rr7L2 => kernel_rfl
      case hw7L2 => rfl
      case hy7L2 =>
        intro w hSw
        (try dsimp only at hSw)
        first
        | (go_simp; done)
        | (go_simp; with_reducible rfl)
      try simp only [Act.put, List.setIfInBounds_toArray, List.set_cons_zero, List.set_cons_succ]
      refine wpAnyH_take (i := 8) (oi := ?oi8L2) (v := ?v8L2) ?oi0_8L2 (by kernel_rfl) ?ff8L2 ?rr8L2 ?hq8L2 (Or.inl ⟨?hw8L2, ?hy8L2⟩) (by assumption) ?rest8L2
      case oi0_8L2 =>
        conv =>
          lhs
          whnf
          arg 1
          whnf
      case hq8L2 => exact fun _ _ _ h => h
      case ff8L2 => kernel_rfl
      case rr8L2 => kernel_rfl
      case hw8L2 => rfl
      case hy8L2 =>
        intro w hSw
        (try dsimp only at hSw)
        first
        | (go_simp; done)
        | (go_simp; with_reducible rfl)
      try simp only [Act.put, List.setIfInBounds_toArray, List.set_cons_zero, List.set_cons_succ]
      refine wpAnyH_take (i := 9) (oi := ?oi9L2) (v := ?v9L2) ?oi0_9L2 (by kernel_rfl) ?ff9L2 ?rr9L2 ?hq9L2 (Or.inl ⟨?hw9L2, ?hy9L2⟩) (by assumption) ?rest9L2
      case oi0_9L2 =>
        conv =>
          lhs
          whnf
          arg 1
          whnf
      case hq9L2 => exact fun _ _ _ h => h
      case ff9L2 => kernel_rfl
      case rr9L2 => kernel_rfl
      case hw9L2 => rfl
      case hy9L2 =>
        intro w hSw
        (try dsimp only at hSw)
        first
        | (go_simp; done)
        | (go_simp; with_reducible rfl)
      try simp only [Act.put, List.setIfInBounds_toArray, List.set_cons_zero, List.set_cons_succ]
      refine wpAnyH_take (i := 10) (oi := ?oi10L2) (v := ?v10L2) ?oi0_10L2 (by kernel_rfl) ?ff10L2 ?rr10L2 ?hq10L2 (Or.inl ⟨?hw10L2, ?hy10L2⟩) (by assumption) ?rest10L2
      case oi0_10L2 =>
        conv =>
          lhs
          whnf
          arg 1
          whnf
      case hq10L2 => exact fun _ _ _ h => h
      case ff10L2 => kernel_rfl
      case rr10L2 => kernel_rfl
      case hw10L2 => rfl
      case hy10L2 =>
        intro w hSw
        (try dsimp only at hSw)
        first
        | (go_simp; done)
        | (go_simp; with_reducible rfl)
      try simp only [Act.put, List.setIfInBounds_toArray, List.set_cons_zero, List.set_cons_succ]
      refine wpAnyH_take (i := 11) (oi := ?oi11L2) (v := ?v11L2) ?oi0_11L2 (by kernel_rfl) ?ff11L2 ?rr11L2 ?hq11L2 (Or.inl ⟨?hw11L2, ?hy11L2⟩) (by assumption) ?rest11L2
      case oi0_11L2 =>
        conv =>
          lhs
          whnf
          arg 1
          whnf
      case hq11L2 => exact fun _ _ _ h => h
      case ff11L2 => kernel_rfl
      case rr11L2 => kernel_rfl
      case hw11L2 => rfl
      case hy11L2 =>
        intro w hSw
        (try dsimp only at hSw)
        first
        | (go_simp; done)
        | (go_simp; with_reducible rfl)
      try simp only [Act.put, List.setIfInBounds_toArray, List.set_cons_zero, List.set_cons_succ]
      refine wpAnyH_take (i := 12) (oi := ?oi12L2) (v := ?v12L2) ?oi0_12L2 (by kernel_rfl) ?ff12L2 ?rr12L2 ?hq12L2 (Or.inl ⟨?hw12L2, ?hy12L2⟩) (by assumption) ?rest12L2
      case oi0_12L2 =>
        conv =>
          lhs
          whnf
          arg 1
          whnf
      case hq12L2 => exact fun _ _ _ h => h
      case ff12L2 => kernel_rfl
      case rr12L2 => kernel_rfl
      case hw12L2 => rfl
      case hy12L2 =>
        intro w hSw
        (try dsimp only at hSw)
        first
        | (go_simp; done)
        | (go_simp; with_reducible rfl)
      try simp only [Act.put, List.setIfInBounds_toArray, List.set_cons_zero, List.set_cons_succ]
      refine wpAnyH_take (i := 13) (oi := ?oi13L2) (v := ?v13L2) ?oi0_13L2 (by kernel_rfl) ?ff13L2 ?rr13L2 ?hq13L2 (Or.inl ⟨?hw13L2, ?hy13L2⟩) (by assumption) ?rest13L2
      case oi0_13L2 =>
        conv =>
          lhs
          whnf
          arg 1
          whnf
      case hq13L2 => exact fun _ _ _ h => h
      case ff13L2 => kernel_rfl
      case rr13L2 => kernel_rfl
      case hw13L2 => rfl
      case hy13L2 =>
        intro w hSw
        (try dsimp only at hSw)
        first
        | (go_simp; done)
        | (go_simp; with_reducible rfl)
      try simp only [Act.put, List.setIfInBounds_toArray, List.set_cons_zero, List.set_cons_succ]
      refine wpAnyH_take (i := 14) (oi := ?oi14L2) (v := ?v14L2) ?oi0_14L2 (by kernel_rfl) ?ff14L2 ?rr14L2 ?hq14L2 (Or.inl ⟨?hw14L2, ?hy14L2⟩) (by assumption) ?rest14L2
      case oi0_14L2 =>
        conv =>
          lhs
          whnf
          arg 1
          whnf
      case hq14L2 => exact fun _ _ _ h => h
      case ff14L2 => kernel_rfl
      case rr14L2 => kernel_rfl
      case hw14L2 => rfl
      case hy14L2 =>
        intro w hSw
        (try dsimp only at hSw)
        first
        | (go_simp; done)
        | (go_simp; with_reducible rfl)
      try simp only [Act.put, List.setIfInBounds_toArray, List.set_cons_zero, List.set_cons_succ]
      refine wpAnyH_take (i := 15) (oi := ?oi15L2) (v := ?v15L2) ?oi0_15L2 (by kernel_rfl) ?ff15L2 ?rr15L2 ?hq15L2 (Or.inl ⟨?hw15L2, ?hy15L2⟩) (by assumption) ?rest15L2
      case oi0_15L2 =>
        conv =>
          lhs
          whnf
          arg 1
          whnf
      case hq15L2 => exact fun _ _ _ h => h
      case ff15L2 => kernel_rfl
      case rr15L2 => kernel_rfl
      case hw15L2 => rfl
      case hy15L2 =>
        intro w hSw
        (try dsimp only at hSw)
        first
        | (go_simp; done)
        | (go_simp; with_reducible rfl)
      try simp only [Act.put, List.setIfInBounds_toArray, List.set_cons_zero, List.set_cons_succ]
      refine wpAnyH_take (i := 16) (oi := ?oi16L2) (v := ?v16L2) ?oi0_16L2 (by kernel_rfl) ?ff16L2 ?rr16L2 ?hq16L2 (Or.inl ⟨?hw16L2, ?hy16L2⟩) (by assumption) ?rest16L2
      case oi0_16L2 =>
        conv =>
          lhs
          whnf
          arg 1
          whnf
      case hq16L2 => exact fun _ _ _ h => h
      case ff16L2 => kernel_rfl
      case rr16L2 => kernel_rfl
      case hw16L2 => rfl
      case hy16L2 =>
        intro w hSw
        (try dsimp only at hSw)
        first
        | (go_simp; done)
        | (go_simp; with_reducible rfl)
      try simp only [Act.put, List.setIfInBounds_toArray, List.set_cons_zero, List.set_cons_succ]
      refine wpAnyH_take (i := 17) (oi := ?oi17L2) (v := ?v17L2) ?oi0_17L2 (by kernel_rfl) ?ff17L2 ?rr17L2 ?hq17L2 (Or.inl ⟨?hw17L2, ?hy17L2⟩) (by assumption) ?rest17L2
      case oi0_17L2 =>
        conv =>
          lhs
          whnf
          arg 1
          whnf
      case hq17L2 => exact fun _ _ _ h => h
      case ff17L2 => kernel_rfl
      case rr17L2 => kernel_rfl
      case hw17L2 => rfl
      case hy17L2 =>
        intro w hSw
        (try dsimp only at hSw)
        first
        | (go_simp; done)
        | (go_simp; with_reducible rfl)
      try simp only [Act.put, List.setIfInBounds_toArray, List.set_cons_zero, List.set_cons_succ]
      refine wpAnyH_take (i := 18) (oi := ?oi18L2) (v := ?v18L2) ?oi0_18L2 (by kernel_rfl) ?ff18L2 ?rr18L2 ?hq18L2 (Or.inl ⟨?hw18L2, ?hy18L2⟩) (by assumption) ?rest18L2
      case oi0_18L2 =>
        conv =>
          lhs
          whnf
          arg 1
          whnf
      case hq18L2 => exact fun _ _ _ h => h
      case ff18L2 => kernel_rfl
      case rr18L2 => kernel_rfl
      case hw18L2 => rfl
      case hy18L2 =>
        intro w hSw
        (try dsimp only at hSw)
        first
        | (go_simp; done)
        | (go_simp; with_reducible rfl)
      try simp only [Act.put, List.setIfInBounds_toArray, List.set_cons_zero, List.set_cons_succ]
      refine wpAnyH_take (i := 19) (oi := ?oi19L2) (v := ?v19L2) ?oi0_19L2 (by kernel_rfl) ?ff19L2 ?rr19L2 ?hq19L2 (Or.inl ⟨?hw19L2, ?hy19L2⟩) (by assumption) ?rest19L2
      case oi0_19L2 =>
        conv =>
          lhs
          whnf
          arg 1
          whnf
      case hq19L2 => exact fun _ _ _ h => h
      case ff19L2 => kernel_rfl
      case rr19L2 => kernel_rfl
      case hw19L2 => rfl
      case hy19L2 =>
        intro w hSw
        (try dsimp only at hSw)
        first
        | (go_simp; done)
        | (go_simp; with_reducible rfl)
      try simp only [Act.put, List.setIfInBounds_toArray, List.set_cons_zero, List.set_cons_succ]
      refine wpAnyH_take (i := 20) (oi := ?oi20L2) (v := ?v20L2) ?oi0_20L2 (by kernel_rfl) ?ff20L2 ?rr20L2 ?hq20L2 (Or.inl ⟨?hw20L2, ?hy20L2⟩) (by assumption) ?rest20L2
      case oi0_20L2 =>
        conv =>
          lhs
          whnf
          arg 1
          whnf
      case hq20L2 => exact fun _ _ _ h => h
      case ff20L2 => kernel_rfl
      case rr20L2 => kernel_rfl
      case hw20L2 => rfl
      case hy20L2 =>
        intro w hSw
        (try dsimp only at hSw)
        first
        | (go_simp; done)
        | (go_simp; with_reducible rfl)
      try simp only [Act.put, List.setIfInBounds_toArray, List.set_cons_zero, List.set_cons_succ]
      refine wpAnyH_take (i := 21) (oi := ?oi21L2) (v := ?v21L2) ?oi0_21L2 (by kernel_rfl) ?ff21L2 ?rr21L2 ?hq21L2 (Or.inl ⟨?hw21L2, ?hy21L2⟩) (by assumption) ?rest21L2
      case oi0_21L2 =>
        conv =>
          lhs
          whnf
          arg 1
          whnf
      case hq21L2 => exact fun _ _ _ h => h
      case ff21L2 => kernel_rfl
      case rr21L2 => kernel_rfl
      case hw21L2 => rfl
      case hy21L2 =>
        intro w hSw
        (try dsimp only at hSw)
        first
        | (go_simp; done)
        | (go_simp; with_reducible rfl)
      try simp only [Act.put, List.setIfInBounds_toArray, List.set_cons_zero, List.set_cons_succ]
      refine wpAnyH_take (i := 22) (oi := ?oi22L2) (v := ?v22L2) ?oi0_22L2 (by kernel_rfl) ?ff22L2 ?rr22L2 ?hq22L2 (Or.inl ⟨?hw22L2, ?hy22L2⟩) (by assumption) ?rest22L2
      case oi0_22L2 =>
        conv =>
          lhs
          whnf
          arg 1
          whnf
      case hq22L2 => exact fun _ _ _ h => h
      case ff22L2 => kernel_rfl
      case rr22L2 => kernel_rfl
      case hw22L2 => rfl
      case hy22L2 =>
        intro w hSw
        (try dsimp only at hSw)
        first
        | (go_simp; done)
        | (go_simp; with_reducible rfl)
      try simp only [Act.put, List.setIfInBounds_toArray, List.set_cons_zero, List.set_cons_succ]
      refine wpAnyH_take (i := 23) (oi := ?oi23L2) (v := ?v23L2) ?oi0_23L2 (by kernel_rfl) ?ff23L2 ?rr23L2 ?hq23L2 (Or.inl ⟨?hw23L2, ?hy23L2⟩) (by assumption) ?rest23L2
      case oi0_23L2 =>
        conv =>
          lhs
          whnf
          arg 1
          whnf
      case hq23L2 => exact fun _ _ _ h => h
      case ff23L2 => kernel_rfl
      case rr23L2 => kernel_rfl
      case hw23L2 => rfl
      case hy23L2 =>
        intro w hSw
        (try dsimp only at hSw)
        first
        | (go_simp; done)
        | (go_simp; with_reducible rfl)
      try simp only [Act.put, List.setIfInBounds_toArray, List.set_cons_zero, List.set_cons_succ]
      refine wpAnyH_done (by kernel_rfl) ?_ _
      go_wp2_with fail
      go_roundw
      case rel => exact ⟨k + 1, by omega, by go_num, HN, V⟩
      case measure => simp [intOf] <;> omega
    have d2 : decide (x < s.to_) = true := decide_eq_true e2
    obtain rfl : r = true := by rw [← HR.out]; exact decide_eq_true (HALL.out (HST.out.2 (.inr ⟨e1, e2⟩)))
    go_wp2_with fail
    refine wp_region_held_drew (S := (fun w' => w'.cell? ⟨w.heap.size, 3, none⟩ = some (.slice (some ⟨sb, so, none⟩) i.trims.length tc) ∧ w'.cell? ⟨b, o + k, none⟩ = some (.int .i64 xn) ∧ w'.cell? ⟨sb, so + xn * 2, none⟩ = some (.int .i64 s.fr) ∧ w'.cell? ⟨sb, so + xn * 2 + 1, none⟩ = some (.int .i64 s.to_))) (by kernel_rfl) (by exact ⟨m3, c0', s0, s1⟩) (fun hHeld => ?_)
    refine wpAnyH_take (i := 0) (oi := ?oi0L3) (v := ?v0L3) ?oi0_0L3 (by kernel_rfl) ?ff0L3 ?rr0L3 ?hq0L3 (Or.inl ⟨?hw0L3, ?hy0L3⟩) (by assumption) ?rest0L3
    case oi0_0L3 =>
      conv =>
        lhs
        whnf
        arg 1
        whnf
    case hq0L3 => exact fun _ _ _ h => h
    case ff0L3 => kernel_rfl
    case rr0L3 => kernel_rfl
    case hw0L3 => rfl
    case hy0L3 =>
      intro w hSw
      (try dsimp only at hSw)
      first
      | (go_simp; done)
      | (go_simp; with_reducible rfl)
    try simp only [Act.put, List.setIfInBounds_toArray, List.set_cons_zero, List.set_cons_succ]
    refine wpAnyH_take (i := 1) (oi := ?oi1L3) (v := ?v1L3) ?oi0_1L3 (by kernel_rfl) ?ff1L3 ?rr1L3 ?hq1L3 (Or.inl ⟨?hw1L3, ?hy1L3⟩) (by assumption) ?rest1L3
    case oi0_1L3 =>
      conv =>
        lhs
        whnf
        arg 1
        whnf
    case hq1L3 => exact fun _ _ _ h => h
    case ff1L3 => kernel_rfl
    case rr1L3 => kernel_rfl
    case hw1L3 => rfl
    case hy1L3 =>
      intro w hSw
      (try dsimp only at hSw)
      first
      | (go_simp; done)
      | (go_simp; with_reducible rfl)
    try simp only [Act.put, List.setIfInBounds_toArray, List.set_cons_zero, List.set_cons_succ]
    refine wpAnyH_take (i := 2) (oi := ?oi2L3) (v := ?v2L3) ?oi0_2L3 (by kernel_rfl) ?ff2L3 ?rr2L3 ?hq2L3 (Or.inl ⟨?hw2L3, ?hy2L3⟩) (by assumption) ?rest2L3
    case oi0_2L3 =>
      conv =>
        lhs
        whnf
        arg 1
        whnf
    case hq2L3 => exact fun _ _ _ h => h
    case ff2L3 => kernel_rfl
    case rr2L3 => kernel_rfl
    case hw2L3 => rfl
    case hy2L3 =>
      intro w hSw
      (try dsimp only at hSw)
      first
      | (go_simp; done)
      | (go_simp; with_reducible rfl)
    try simp only [Act.put, List.setIfInBounds_toArray, List.set_cons_zero, List.set_cons_succ]
    refine wpAnyH_take (i := 3) (oi := ?oi3L3) (v := ?v3L3) ?oi0_3L3 (by kernel_rfl) ?ff3L3 ?rr3L3 ?hq3L3 (Or.inl ⟨?hw3L3, ?hy3L3⟩) (by assumption) ?rest3L3
    case oi0_3L3 =>
      conv =>
        lhs
        whnf
        arg 1
        whnf
    case hq3L3 => exact fun _ _ _ h => h
    case ff3L3 => kernel_rfl
    case rr3L3 => kernel_rfl
    case hw3L3 => rfl
    case hy3L3 =>
      intro w hSw
      (try dsimp only at hSw)
      first
      | (go_simp; done)
      | (go_simp; with_reducible rfl)
    try simp only [Act.put, List.setIfInBounds_toArray, List.set_cons_zero, List.set_cons_succ]
    refine wpAnyH_take (i := 4) (oi := ?oi4L3) (v := ?v4L3) ?oi0_4L3 (by kernel_rfl) ?ff4L3 ?rr4L3 ?hq4L3 (Or.inl ⟨?hw4L3, ?hy4L3⟩) (by assumption) ?rest4L3
    case oi0_4L3 =>
      conv =>
        lhs
        whnf
        arg 1
        whnf
    case hq4L3 => exact fun _ _ _ h => h
    case ff4L3 => kernel_rfl
    case rr4L3 => kernel_rfl
    case hw4L3 => rfl
    case hy4L3 =>
      intro w hSw
      (try dsimp only at hSw)
      first
      | (go_simp; done)
      | (go_simp; with_reducible rfl)
    try simp only [Act.put, List.setIfInBounds_toArray, List.set_cons_zero, List.set_cons_succ]
    refine wpAnyH_take (i := 5) (oi := ?oi5L3) (v := ?v5L3) ?oi0_5L3 (by kernel_rfl) ?ff5L3 ?rr5L3 ?hq5L3 (Or.inl ⟨?hw5L3, ?hy5L3⟩) (by assumption) ?rest5L3
    case oi0_5L3 =>
      conv =>
        lhs
        whnf
        arg 1
        whnf
    case hq5L3 => exact fun _ _ _ h => h
    case ff5L3 => kernel_rfl
    case rr5L3 => kernel_rfl
    case hw5L3 => rfl
    case hy5L3 =>
      intro w hSw
      (try dsimp only at hSw)
      first
      | (go_simp; done)
      | (go_simp; with_reducible rfl)
    try simp only [Act.put, List.setIfInBounds_toArray, List.set_cons_zero, List.set_cons_succ]
    refine wpAnyH_take (i := 6) (oi := ?oi6L3) (v := ?v6L3) ?oi0_6L3 (by kernel_rfl) ?ff6L3 ?rr6L3 ?hq6L3 (Or.inl ⟨?hw6L3, ?hy6L3⟩) (by assumption) ?rest6L3
    case oi0_6L3 =>
      conv =>
        lhs
        whnf
        arg 1
        whnf
    case hq6L3 => exact fun _ _ _ h => h
    case ff6L3 => kernel_rfl
    case rr6L3 => kernel_rfl
    case hw6L3 => rfl
    case hy6L3 =>
      intro w hSw
      (try dsimp only at hSw)
      first
      | (go_simp; done)
      | (go_simp; with_reducible rfl)
    try simp only [Act.put, List.setIfInBounds_toArray, List.set_cons_zero, List.set_cons_succ]
    refine wpAnyH_take (i := 7) (oi := ?oi7L3) (v := ?v7L3) ?oi0_7L3 (by kernel_rfl) ?ff7L3 ?rr7L3 ?hq7L3 (Or.inl ⟨?hw7L3, ?hy7L3⟩) (by assumption) ?rest7L3
    case oi0_7L3 =>
      conv =>
        lhs
        whnf
        arg 1
        whnf
    case hq7L3 => exact fun _ _ _ h => h
    case ff7L3 => kernel_rfl
    case rr7L3 => kernel_rfl
    case hw7L3 => rfl
    case hy7L3 =>
      intro w hSw
      (try dsimp only at hSw)
      first
      | (go_simp; done)
      | (go_simp; with_reducible rfl)
    try simp only [Act.put, List.setIfInBounds_toArray, List.set_cons_zero, List.set_cons_succ]
    refine wpAnyH_take (i := 8) (oi := ?oi8L3) (v := ?v8L3) ?oi0_8L3 (by kernel_rfl) ?ff8L3 ?rr8L3 ?hq8L3 (Or.inl ⟨?hw8L3, ?hy8L3⟩) (by assumption) ?rest8L3
    case oi0_8L3 =>
      conv =>
        lhs
        whnf
        arg 1
        whnf
    case hq8L3 => exact fun _ _ _ h => h
    case ff8L3 => kernel_rfl
    case rr8L3 => kernel_rfl
    case hw8L3 => rfl
    case hy8L3 =>
      intro w hSw
      (try dsimp only at hSw)
      first
      | (go_simp; done)
      | (go_simp; with_reducible rfl)
    try simp only [Act.put, List.setIfInBounds_toArray, List.set_cons_zero, List.set_cons_succ]
    refine wpAnyH_take (i := 9) (oi := ?oi9L3) (v := ?v9L3) ?oi0_9L3 (by kernel_rfl) ?ff9L3 ?rr9L3 ?hq9L3 (Or.inl ⟨?hw9L3, ?hy9L3⟩) (by assumption) ?rest9L3
    case oi0_9L3 =>
      conv =>
        lhs
        whnf
        arg 1
        whnf
    case hq9L3 => exact fun _ _ _ h => h
    case ff9L3 => kernel_rfl
    case rr9L3 => kernel_rfl
    case hw9L3 => rfl
    case hy9L3 =>
      intro w hSw
      (try dsimp only at hSw)
      first
      | (go_simp; done)
      | (go_simp; with_reducible rfl)
    try simp only [Act.put, List.setIfInBounds_toArray, List.set_cons_zero, List.set_cons_succ]
    refine wpAnyH_take (i := 10) (oi := ?oi10L3) (v := ?v10L3) ?oi0_10L3 (by kernel_rfl) ?ff10L3 ?rr10L3 ?hq10L3 (Or.inl ⟨?hw10L3, ?hy10L3⟩) (by assumption) ?rest10L3
    case oi0_10L3 =>
      conv =>
        lhs
        whnf
        arg 1
        whnf
    case hq10L3 => exact fun _ _ _ h => h
    case ff10L3 => kernel_rfl
    case rr10L3 => kernel_rfl
    case hw10L3 => rfl
    case hy10L3 =>
      intro w hSw
      (try dsimp only at hSw)
      first
      | (go_simp; done)
      | (go_simp; with_reducible rfl)
    try simp only [Act.put, List.setIfInBounds_toArray, List.set_cons_zero, List.set_cons_succ]
    refine wpAnyH_take (i := 11) (oi := ?oi11L3) (v := ?v11L3) ?oi0_11L3 (by kernel_rfl) ?ff11L3 ?rr11L3 ?hq11L3 (Or.inl ⟨?hw11L3, ?hy11L3⟩) (by assumption) ?rest11L3
    case oi0_11L3 =>
      conv =>
        lhs
        whnf
        arg 1
        whnf
    case hq11L3 => exact fun _ _ _ h => h
    case ff11L3 => kernel_rfl
    case rr11L3 => kernel_rfl
    case hw11L3 => rfl
    case hy11L3 =>
      intro w hSw
      (try dsimp only at hSw)
      first
      | (go_simp; done)
      | (go_simp; with_reducible rfl)
    try simp only [Act.put, List.setIfInBounds_toArray, List.set_cons_zero, List.set_cons_succ]
    refine wpAnyH_take (i := 12) (oi := ?oi12L3) (v := ?v12L3) ?oi0_12L3 (by kernel_rfl) ?ff12L3 ?rr12L3 ?hq12L3 (Or.inl ⟨?hw12L3, ?hy12L3⟩) (by assumption) ?rest12L3
    case oi0_12L3 =>
      conv =>
        lhs
        whnf
        arg 1
        whnf
    case hq12L3 => exact fun _ _ _ h => h
    case ff12L3 => kernel_rfl
    case rr12L3 => kernel_rfl
    case hw12L3 => rfl
    case hy12L3 =>
      intro w hSw
      (try dsimp only at hSw)
      first
      | (go_simp; done)
      | (go_simp; with_reducible rfl)
    try simp only [Act.put, List.setIfInBounds_toArray, List.set_cons_zero, List.set_cons_succ]
    refine wpAnyH_take (i := 13) (oi := ?oi13L3) (v := ?v13L3) ?oi0_13L3 (by kernel_rfl) ?ff13L3 ?rr13L3 ?hq13L3 (Or.inl ⟨?hw13L3, ?hy13L3⟩) (by assumption) ?rest13L3
    case oi0_13L3 =>
      conv =>
        lhs
        whnf
        arg 1
        whnf
    case hq13L3 => exact fun _ _ _ h => h
    case ff13L3 => kernel_rfl
    case rr13L3 => kernel_rfl
    case hw13L3 => rfl
    case hy13L3 =>
      intro w hSw
      (try dsimp only at hSw)
      first
      | (go_simp; done)
      | (go_simp; with_reducible rfl)
    try simp only [Act.put, List.setIfInBounds_toArray, List.set_cons_zero, List.set_cons_succ]
    refine wpAnyH_take (i := 14) (oi := ?oi14L3) (v := ?v14L3) ?oi0_14L3 (by kernel_rfl) ?ff14L3 ?rr14L3 ?hq14L3 (Or.inl ⟨?hw14L3, ?hy14L3⟩) (by assumption) ?rest14L3
    case oi0_14L3 =>
      conv =>
        lhs
        whnf
        arg 1
        whnf
    case hq14L3 => exact fun _ _ _ h => h
    case ff14L3 => kernel_rfl
    case rr14L3 => kernel_rfl
    case hw14L3 => rfl
    case hy14L3 =>
      intro w hSw
      (try dsimp only at hSw)
      first
      | (go_simp; done)
      | (go_simp; with_reducible rfl)
    try simp only [Act.put, List.setIfInBounds_toArray, List.set_cons_zero, List.set_cons_succ]
    refine wpAnyH_take (i := 15) (oi := ?oi15L3) (v := ?v15L3) ?oi0_15L3 (by kernel_rfl) ?ff15L3 ?rr15L3 ?hq15L3 (Or.inl ⟨?hw15L3, ?hy15L3⟩) (by assumption) ?rest15L3
    case oi0_15L3 =>
      conv =>
        lhs
        whnf
        arg 1
        whnf
    case hq15L3 => exact fun _ _ _ h => h
    case ff15L3 => kernel_rfl
    case rr15L3 => kernel_rfl
    case hw15L3 => rfl
    case hy15L3 =>
      intro w hSw
      (try dsimp only at hSw)
      first
      | (go_simp; done)
      | (go_simp; with_reducible rfl)
    try simp only [Act.put, List.setIfInBounds_toArray, List.set_cons_zero, List.set_cons_succ]
    refine wpAnyH_take (i := 16) (oi := ?oi16L3) (v := ?v16L3) ?oi0_16L3 (by kernel_rfl) ?ff16L3 ?rr16L3 ?hq16L3 (Or.inl ⟨?hw16L3, ?hy16L3⟩) (by assumption) ?rest16L3
    case oi0_16L3 =>
      conv =>
        lhs
        whnf
        arg 1
        whnf
    case hq16L3 => exact fun _ _ _ h => h
    case ff16L3 => kernel_rfl
    case rr16L3 => kernel_rfl
    case hw16L3 => rfl
    case hy16L3 =>
      intro w hSw
      (try dsimp only at hSw)
      first
      | (go_simp; done)
      | (go_simp; with_reducible rfl)
    try simp only [Act.put, List.setIfInBounds_toArray, List.set_cons_zero, List.set_cons_succ]
    refine wpAnyH_take (i := 17) (oi := ?oi17L3) (v := ?v17L3) ?oi0_17L3 (by kernel_rfl) ?ff17L3 ?rr17L3 ?hq17L3 (Or.inl ⟨?hw17L3, ?hy17L3⟩) (by assumption) ?rest17L3
    case oi0_17L3 =>
      conv =>
        lhs
        whnf
        arg 1
        whnf
    case hq17L3 => exact fun _ _ _ h => h
    case ff17L3 => kernel_rfl
    case rr17L3 => kernel_rfl
    case hw17L3 => rfl
    case hy17L3 =>
      intro w hSw
      (try dsimp only at hSw)
      first
      | (go_simp; done)
      | (go_simp; with_reducible rfl)
    try simp only [Act.put, List.setIfInBounds_toArray, List.set_cons_zero, List.set_cons_succ]
    refine wpAnyH_take (i := 18) (oi := ?oi18L3) (v := ?v18L3) ?oi0_18L3 (by kernel_rfl) ?ff18L3 ?rr18L3 ?hq18L3 (Or.inl ⟨?hw18L3, ?hy18L3⟩) (by assumption) ?rest18L3
    case oi0_18L3 =>
      conv =>
        lhs
        whnf
        arg 1
        whnf
    case hq18L3 => exact fun _ _ _ h => h
    case ff18L3 => kernel_rfl
    case rr18L3 => kernel_rfl
    case hw18L3 => rfl
    case hy18L3 =>
      intro w hSw
      (try dsimp only at hSw)
      first
      | (go_simp; done)
      | (go_simp; with_reducible rfl)
    try simp only [Act.put, List.setIfInBounds_toArray, List.set_cons_zero, List.set_cons_succ]
    refine wpAnyH_take (i := 19) (oi := ?oi19L3) (v := ?v19L3) ?oi0_19L3 (by kernel_rfl) ?ff19L3 ?rr19L3 ?hq19L3 (Or.inl ⟨?hw19L3, ?hy19L3⟩) (by assumption) ?rest19L3
    case oi0_19L3 =>
      conv =>
        lhs
        whnf
        arg 1
        whnf
    case hq19L3 => exact fun _ _ _ h => h
    case ff19L3 => kernel_rfl
    case rr19L3 => kernel_rfl
    case hw19L3 => rfl
    case hy19L3 =>
      intro w hSw
      (try dsimp only at hSw)
      first
      | (go_simp; done)
      | (go_simp; with_reducible rfl)
    try simp only [Act.put, List.setIfInBounds_toArray, List.set_cons_zero, List.set_cons_succ]
    refine wpAnyH_take (i := 20) (oi := ?oi20L3) (v := ?v20L3) ?oi0_20L3 (by kernel_rfl) ?ff20L3 ?rr20L3 ?hq20L3 (Or.inl ⟨?hw20L3, ?hy20L3⟩) (by assumption) ?rest20L3
    case oi0_20L3 =>
      conv =>
        lhs
        whnf
        arg 1
        whnf
    case hq20L3 => exact fun _ _ _ h => h
    case ff20L3 => kernel_rfl
    case rr20L3 => kernel_rfl
    case hw20L3 => rfl
    case hy20L3 =>
      intro w hSw
      (try dsimp only at hSw)
      first
      | (go_simp; done)
      | (go_simp; with_reducible rfl)
    try simp only [Act.put, List.setIfInBounds_toArray, List.set_cons_zero, List.set_cons_succ]
    refine wpAnyH_take (i := 21) (oi := ?oi21L3) (v := ?v21L3) ?oi0_21L3 (by kernel_rfl) ?ff21L3 ?rr21L3 ?hq21L3 (Or.inl ⟨?hw21L3, ?hy21L3⟩) (by assumption) ?rest21L3
    case oi0_21L3 =>
      conv =>
        lhs
        whnf
        arg 1
        whnf
    case hq21L3 => exact fun _ _ _ h => h
    case ff21L3 => kernel_rfl
    case rr21L3 => kernel_rfl
    case hw21L3 => rfl
    case hy21L3 =>
      intro w hSw
      (try dsimp only at hSw)
      first
      | (go_simp; done)
      | (go_simp; with_reducible rfl)
    try simp only [Act.put, List.setIfInBounds_toArray, List.set_cons_zero, List.set_cons_succ]
    refine wpAnyH_take (i := 22) (oi := ?oi22L3) (v := ?v22L3) ?oi0_22L3 (by kernel_rfl) ?ff22L3 ?rr22L3 ?hq22L3 (Or.inl ⟨?hw22L3, ?hy22L3⟩) (by assumption) ?rest22L3
    case oi0_22L3 =>
      conv =>
        lhs
        whnf
        arg 1
        whnf
    case hq22L3 => exact fun _ _ _ h => h
    case ff22L3 => kernel_rfl
    case rr22L3 => kernel_rfl
    case hw22L3 => rfl
    case hy22L3 =>
      intro w hSw
      (try dsimp only at hSw)
      first
      | (go_simp; done)
      | (go_simp; with_reducible rfl)
    try simp only [Act.put, List.setIfInBounds_toArray, List.set_cons_zero, List.set_cons_succ]
    refine wpAnyH_take (i := 23) (oi := ?oi23L3) (v := ?v23L3) ?oi0_23L3 (by kernel_rfl) ?ff23L3 ?rr23L3 ?hq23L3 (Or.inl ⟨?hw23L3, ?hy23L3⟩) (by assumption) ?rest23L3
    case oi0_23L3 =>
      conv =>
        lhs
        whnf
        arg 1
        whnf
    case hq23L3 => exact fun _ _ _ h => h
    case ff23L3 => kernel_rfl
    case rr23L3 => kernel_rfl
    case hw23L3 => rfl
    case hy23L3 =>
      intro w hSw
      (try dsimp only at hSw)
      first
      | (go_simp; done)
      | (go_simp; with_reducible rfl)
    try simp only [Act.put, List.setIfInBounds_toArray, List.set_cons_zero, List.set_cons_succ]
    refine wpAnyH_done (by kernel_rfl) ?_ _
    go_wp2_with fail
    go_ret
    exact ⟨rfl, VO.out⟩
end Go.Proofs.Ytpkeimdlcafcnaa

namespace Go.Proofs.Ytpkeimdlcafcnaa
open Go.RowKit
set_option maxRecDepth 100000
set_option maxHeartbeats 20000000

theorem bef_len {a b : List Int} (h : a.length ≠ b.length) : decide (cutCmp a b < 0) = decide ((a.length : Int) < b.length) := by
  refine decide_eq_decide.2 ?_
  unfold cutCmp
  rw [if_neg (fun e => h (by have := cmpI_eq.1 e; omega))]
  exact cmpI_lt
theorem cmpL_app (p s t : List Int) : cmpL (p ++ s) (p ++ t) = cmpL s t := by
  induction p with
  | nil => rfl
  | cons x p ih => rw [List.cons_append, List.cons_append, cmpL, if_pos (cmpI_eq.2 rfl), ih]
theorem bef_at {a b : List Int} {k : Nat} {x y : Int} (hl : a.length = b.length) (ht : a.take k = b.take k) (hx : a[k]? = some x) (hy : b[k]? = some y) (hne : x ≠ y) : decide (cutCmp a b < 0) = decide (x < y) := by
  refine decide_eq_decide.2 ?_
  unfold cutCmp
  rw [if_pos (cmpI_eq.2 (by rw [hl]))]
  obtain ⟨h1, rfl⟩ := List.getElem?_eq_some_iff.1 hx
  obtain ⟨h2, rfl⟩ := List.getElem?_eq_some_iff.1 hy
  have e1 : a = a.take k ++ a[k] :: a.drop (k + 1) := by rw [← List.drop_eq_getElem_cons h1, List.take_append_drop]
  have e2 : b = a.take k ++ b[k] :: b.drop (k + 1) := by rw [ht, ← List.drop_eq_getElem_cons h2, List.take_append_drop]
  obtain ⟨s, hs⟩ : ∃ s, a.drop (k + 1) = s := ⟨_, rfl⟩
  obtain ⟨t, htt⟩ : ∃ s, b.drop (k + 1) = s := ⟨_, rfl⟩
  obtain ⟨x, hxx⟩ : ∃ s, a[k] = s := ⟨_, rfl⟩
  obtain ⟨y, hyy⟩ : ∃ s, b[k] = s := ⟨_, rfl⟩
  obtain ⟨p, hp⟩ : ∃ s, a.take k = s := ⟨_, rfl⟩
  rw [hs, hxx, hp] at e1
  rw [htt, hyy, hp] at e2
  rw [hxx, hyy] at hne ⊢
  rw [e1, e2, cmpL_app, cmpL, if_neg (fun e => hne (cmpI_eq.1 e))]
  exact cmpI_lt
theorem refBefore {n₀ n₁ : Nat} (a : Option Addr) (n c : Nat) (xs : List Int) (a2 : Option Addr) (n2 c2 : Nat) (ys : List Int) (w : World) (h1 : Ints n₀ w (.slice a n c) xs) (h2 : Ints n₁ w (.slice a2 n2 c2) ys) (hm : n ≤ maxLen) (hm2 : n2 ≤ maxLen) :
    Calls Try.prog 33 #[.slice a n c, .slice a2 n2 c2] w fun e w' => e = .returned (.bool (decide (cutCmp xs ys < 0))) ∧ Upd [] w w' := by
  have HX := hide h1.form.2
  have HXN := hide h1.form.1
  have HY := hide h2.form.2
  have HYN := hide h2.form.1
  have hm' : n ≤ 9223372036854775807 := by unfold maxLen at hm; omega
  have hm2' : n2 ≤ 9223372036854775807 := by unfold maxLen at hm2; omega
  obtain ⟨r, HR⟩ : ∃ r, Hid (decide (cutCmp xs ys < 0) = r) := ⟨_, rfl⟩
  rw [HR.out]
  clear h1 h2 hm hm2
  go_enter Try.func33, Try.ntmps33
  by_cases hnn : n = n2
  case neg =>
    have hnb : ((n : Int) != (n2 : Int)) = true := by simp; omega
    obtain rfl : r = decide (n < n2) := by
      rw [← HR.out, bef_len (by have := HXN.out; have := HYN.out; omega), ← HXN.out, ← HYN.out]
      exact decide_eq_decide.2 (by omega)
    clear hnn
    go_wp2_with fail
    go_ret
    exact ⟨rfl, Upd.refl _ _⟩
  subst hnn
  go_wp2_with fail
  go_loopw [5] (fun s5 wr => ∃ k : Nat, k ≤ n ∧ s5 = .int .i64 k ∧ Hid (Upd [] w wr) ∧ Hid (xs.take k = ys.take k)) (fun k _ => n - (intOf k).toNat)
  case atStart => exact ⟨0, Nat.zero_le _, rfl, Upd.refl _ _, hide (by simp)⟩
  case round =>
    obtain ⟨k, hk, rfl, hu, hr⟩ := hrel
    obtain ⟨wo, rfl⟩ : ∃ wo : World, wo = wr := ⟨_, rfl⟩
    by_cases hkl : k < n
    · obtain ⟨x, hx⟩ : ∃ x, xs[k]? = some x := ⟨_, List.getElem?_eq_getElem (by have := HXN.out; omega)⟩
      obtain ⟨b, o, ea, _, c0⟩ := HX.out k x hx
      subst ea
      obtain ⟨y, hy⟩ : ∃ y, ys[k]? = some y := ⟨_, List.getElem?_eq_getElem (by have := HYN.out; omega)⟩
      obtain ⟨b2, o2, eb, _, d0⟩ := HY.out k y hy
      subst eb
      have hki : (k : Int) < n := by omega
      have c0' := keepc _ _ _ _ hu.out c0
      have d0' := keepc _ _ _ _ hu.out d0
      have V := hide (hu.out.drew)
      have V2 := hide (V.out.drew)
      have HX2 := hide hx
      have HY2 := hide hy
      clear hx hy
      by_cases h0 : x = y
      · subst h0
        have HST := hide (show xs.take (k + 1) = ys.take (k + 1) by rw [List.take_add_one, List.take_add_one, hr.out, HX2.out, HY2.out])
        go_wp2_with fail
        refine wp_region_held_drew (S := (fun w' => w'.cell? ⟨b, o + k, none⟩ = some (.int .i64 x) ∧ w'.cell? ⟨b2, o2 + k, none⟩ = some (.int .i64 x))) (by kernel_rfl) (by exact ⟨c0', d0'⟩) (fun hHeld => ?_)
        refine wpAnyH_take (i := 0) (oi := ?oi0T1) (v := ?v0T1) ?oi0_0T1 (by kernel_rfl) ?ff0T1 ?rr0T1 ?hq0T1 (Or.inl ⟨?hw0T1, ?hy0T1⟩) (by assumption) ?rest0T1
        case oi0_0T1 =>
          conv =>
            lhs
            whnf
            arg 1
            whnf
        case hq0T1 => exact fun _ _ _ h => h
        case ff0T1 => kernel_rfl
        case rr0T1 => kernel_rfl
        case hw0T1 => rfl
        case hy0T1 =>
          intro w hSw
          (try dsimp only at hSw)
          first
          | (go_simp; done)
          | (go_simp; with_reducible rfl)
        try simp only [Act.put, List.setIfInBounds_toArray, List.set_cons_zero, List.set_cons_succ]
        refine wpAnyH_take (i := 1) (oi := ?oi1T1) (v := ?v1T1) ?oi0_1T1 (by kernel_rfl) ?ff1T1 ?rr1T1 ?hq1T1 (Or.inl ⟨?hw1T1, ?hy1T1⟩) (by assumption) ?rest1T1
        case oi0_1T1 =>
          conv =>
            lhs
            whnf
            arg 1
            whnf
        case hq1T1 => exact fun _ _ _ h => h
        case ff1T1 => kernel_rfl
        case rr1T1 => kernel_rfl
        case hw1T1 => rfl
        case hy1T1 =>
          intro w hSw
          (try dsimp only at hSw)
          first
          | (go_simp; done)
          | (go_simp; with_reducible rfl)
        try simp only [Act.put, List.setIfInBounds_toArray, List.set_cons_zero, List.set_cons_succ]
        refine wpAnyH_take (i := 2) (oi := ?oi2T1) (v := ?v2T1) ?oi0_2T1 (by kernel_rfl) ?ff2T1 ?rr2T1 ?hq2T1 (Or.inl ⟨?hw2T1, ?hy2T1⟩) (by assumption) ?rest2T1
        case oi0_2T1 =>
          conv =>
            lhs
            whnf
            arg 1
            whnf
        case hq2T1 => exact fun _ _ _ h => h
        case ff2T1 => kernel_rfl
        case rr2T1 => kernel_rfl
        case hw2T1 => rfl
        case hy2T1 =>
          intro w hSw
          (try dsimp only at hSw)
          first
          | (go_simp; done)
          | (go_simp; with_reducible rfl)
        try simp only [Act.put, List.setIfInBounds_toArray, List.set_cons_zero, List.set_cons_succ]
        refine wpAnyH_take (i := 3) (oi := ?oi3T1) (v := ?v3T1) ?oi0_3T1 (by kernel_rfl) ?ff3T1 ?rr3T1 ?hq3T1 (Or.inl ⟨?hw3T1, ?hy3T1⟩) (by assumption) ?rest3T1
        case oi0_3T1 =>
          conv =>
            lhs
            whnf
            arg 1
            whnf
        case hq3T1 => exact fun _ _ _ h => h
        case ff3T1 => kernel_rfl
        case rr3T1 => kernel_rfl
        case hw3T1 => rfl
        case hy3T1 =>
          intro w hSw
          (try dsimp only at hSw)
          first
          | (go_simp; done)
          | (go_simp; with_reducible rfl)
        try simp only [Act.put, List.setIfInBounds_toArray, List.set_cons_zero, List.set_cons_succ]
        refine wpAnyH_take (i := 4) (oi := ?oi4T1) (v := ?v4T1) ?oi0_4T1 (by kernel_rfl) ?ff4T1 ?rr4T1 ?hq4T1 (Or.inl ⟨?hw4T1, ?hy4T1⟩) (by assumption) ?rest4T1
        case oi0_4T1 =>
          conv =>
            lhs
            whnf
            arg 1
            whnf
        case hq4T1 => exact fun _ _ _ h => h
        case ff4T1 => kernel_rfl
        case rr4T1 => kernel_rfl
        case hw4T1 => rfl
        case hy4T1 =>
          intro w hSw
          (try dsimp only at hSw)
          first
          | (go_simp; done)
          | (go_simp; with_reducible rfl)
        try simp only [Act.put, List.setIfInBounds_toArray, List.set_cons_zero, List.set_cons_succ]
        refine wpAnyH_take (i := 5) (oi := ?oi5T1) (v := ?v5T1) ?oi0_5T1 (by kernel_rfl) ?ff5T1 ?rr5T1 ?hq5T1 (Or.inl ⟨?hw5T1, ?hy5T1⟩) (by assumption) ?rest5T1
        case oi0_5T1 =>
          conv =>
            lhs
            whnf
            arg 1
            whnf
        case hq5T1 => exact fun _ _ _ h => h
        case ff5T1 => kernel_rfl
        case rr5T1 => kernel_rfl
        case hw5T1 => rfl
        case hy5T1 =>
          intro w hSw
          (try dsimp only at hSw)
          first
          | (go_simp; done)
          | (go_simp; with_reducible rfl)
        try simp only [Act.put, List.setIfInBounds_toArray, List.set_cons_zero, List.set_cons_succ]
        refine wpAnyH_take (i := 6) (oi := ?oi6T1) (v := ?v6T1) ?oi0_6T1 (by kernel_rfl) ?ff6T1 ?rr6T1 ?hq6T1 (Or.inl ⟨?hw6T1, ?hy6T1⟩) (by assumption) ?rest6T1
        case oi0_6T1 =>
          conv =>
            lhs
            whnf
            arg 1
            whnf
        case hq6T1 => exact fun _ _ _ h => h
        case ff6T1 => kernel_rfl
        case rr6T1 => kernel_rfl
        case hw6T1 => rfl
        case hy6T1 =>
          intro w hSw
          (try dsimp only at hSw)
          first
          | (go_simp; done)
          | (go_simp; with_reducible rfl)
        try simp only [Act.put, List.setIfInBounds_toArray, List.set_cons_zero, List.set_cons_succ]
        refine wpAnyH_take (i := 7) (oi := ?oi7T1) (v := ?v7T1) ?oi0_7T1 (by kernel_rfl) ?ff7T1 ?rr7T1 ?hq7T1 (Or.inl ⟨?hw7T1, ?hy7T1⟩) (by assumption) ?rest7T1
        case oi0_7T1 =>
          conv =>
            lhs
            whnf
            arg 1
            whnf
        case hq7T1 => exact fun _ _ _ h => h
        case ff7T1 => kernel_rfl
        case rr7T1 => kernel_rfl
        case hw7T1 => rfl
        case hy7T1 =>
          intro w hSw
          (try dsimp only at hSw)
          first
          | (go_simp; done)
          | (go_simp; with_reducible rfl)
        try simp only [Act.put, List.setIfInBounds_toArray, List.set_cons_zero, List.set_cons_succ]
        refine wpAnyH_take (i := 8) (oi := ?oi8T1) (v := ?v8T1) ?oi0_8T1 (by kernel_rfl) ?ff8T1 ?rr8T1 ?hq8T1 (Or.inl ⟨?hw8T1, ?hy8T1⟩) (by assumption) ?rest8T1
        case oi0_8T1 =>
          conv =>
            lhs
            whnf
            arg 1
            whnf
        case hq8T1 => exact fun _ _ _ h => h
        case ff8T1 => kernel_rfl
        case rr8T1 => kernel_rfl
        case hw8T1 => rfl
        case hy8T1 =>
          intro w hSw
          (try dsimp only at hSw)
          first
          | (go_simp; done)
          | (go_simp; with_reducible rfl)
        try simp only [Act.put, List.setIfInBounds_toArray, List.set_cons_zero, List.set_cons_succ]
        refine wpAnyH_done (by kernel_rfl) ?_ _
        go_wp2_with fail
        go_roundw
        case rel => exact ⟨k + 1, by omega, by go_num, V, HST⟩
        case measure => simp [intOf] <;> omega
      · have h0b : (x != y) = true := by simpa using h0
        obtain rfl : r = decide (x < y) := by
          rw [← HR.out]
          exact bef_at (by have := HXN.out; have := HYN.out; omega) hr.out HX2.out HY2.out h0
        clear h0
        go_wp2_with fail
        refine wp_region_held_drew (S := (fun w' => w'.cell? ⟨b, o + k, none⟩ = some (.int .i64 x) ∧ w'.cell? ⟨b2, o2 + k, none⟩ = some (.int .i64 y))) (by kernel_rfl) (by exact ⟨c0', d0'⟩) (fun hHeld => ?_)
        refine wpAnyH_take (i := 0) (oi := ?oi0T2) (v := ?v0T2) ?oi0_0T2 (by kernel_rfl) ?ff0T2 ?rr0T2 ?hq0T2 (Or.inl ⟨?hw0T2, ?hy0T2⟩) (by assumption) ?rest0T2
        case oi0_0T2 =>
          conv =>
            lhs
            whnf
            arg 1
            whnf
        case hq0T2 => exact fun _ _ _ h => h
        case ff0T2 => kernel_rfl
        case rr0T2 => kernel_rfl
        case hw0T2 => rfl
        case hy0T2 =>
          intro w hSw
          (try dsimp only at hSw)
          first
          | (go_simp; done)
          | (go_simp; with_reducible rfl)
        try simp only [Act.put, List.setIfInBounds_toArray, List.set_cons_zero, List.set_cons_succ]
        refine wpAnyH_take (i := 1) (oi := ?oi1T2) (v := ?v1T2) ?oi0_1T2 (by kernel_rfl) ?ff1T2 ?rr1T2 ?hq1T2 (Or.inl ⟨?hw1T2, ?hy1T2⟩) (by assumption) ?rest1T2
        case oi0_1T2 =>
          conv =>
            lhs
            whnf
            arg 1
            whnf
        case hq1T2 => exact fun _ _ _ h => h
        case ff1T2 => kernel_rfl
        case rr1T2 => kernel_rfl
        case hw1T2 => rfl
        case hy1T2 =>
          intro w hSw
          (try dsimp only at hSw)
          first
          | (go_simp; done)
          | (go_simp; with_reducible rfl)
        try simp only [Act.put, List.setIfInBounds_toArray, List.set_cons_zero, List.set_cons_succ]
        refine wpAnyH_take (i := 2) (oi := ?oi2T2) (v := ?v2T2) ?oi0_2T2 (by kernel_rfl) ?ff2T2 ?rr2T2 ?hq2T2 (Or.inl ⟨?hw2T2, ?hy2T2⟩) (by assumption) ?rest2T2
        case oi0_2T2 =>
          conv =>
            lhs
            whnf
            arg 1
            whnf
        case hq2T2 => exact fun _ _ _ h => h
        case ff2T2 => kernel_rfl
        case rr2T2 => kernel_rfl
        case hw2T2 => rfl
        case hy2T2 =>
          intro w hSw
          (try dsimp only at hSw)
          first
          | (go_simp; done)
          | (go_simp; with_reducible rfl)
        try simp only [Act.put, List.setIfInBounds_toArray, List.set_cons_zero, List.set_cons_succ]
        refine wpAnyH_take (i := 3) (oi := ?oi3T2) (v := ?v3T2) ?oi0_3T2 (by kernel_rfl) ?ff3T2 ?rr3T2 ?hq3T2 (Or.inl ⟨?hw3T2, ?hy3T2⟩) (by assumption) ?rest3T2
        case oi0_3T2 =>
          conv =>
            lhs
            whnf
            arg 1
            whnf
        case hq3T2 => exact fun _ _ _ h => h
        case ff3T2 => kernel_rfl
        case rr3T2 => kernel_rfl
        case hw3T2 => rfl
        case hy3T2 =>
          intro w hSw
          (try dsimp only at hSw)
          first
          | (go_simp; done)
          | (go_simp; with_reducible rfl)
        try simp only [Act.put, List.setIfInBounds_toArray, List.set_cons_zero, List.set_cons_succ]
        refine wpAnyH_take (i := 4) (oi := ?oi4T2) (v := ?v4T2) ?oi0_4T2 (by kernel_rfl) ?ff4T2 ?rr4T2 ?hq4T2 (Or.inl ⟨?hw4T2, ?hy4T2⟩) (by assumption) ?rest4T2
        case oi0_4T2 =>
          conv =>
            lhs
            whnf
            arg 1
            whnf
        case hq4T2 => exact fun _ _ _ h => h
        case ff4T2 => kernel_rfl
        case rr4T2 => kernel_rfl
        case hw4T2 => rfl
        case hy4T2 =>
          intro w hSw
          (try dsimp only at hSw)
          first
          | (go_simp; done)
          | (go_simp; with_reducible rfl)
        try simp only [Act.put, List.setIfInBounds_toArray, List.set_cons_zero, List.set_cons_succ]
        refine wpAnyH_take (i := 5) (oi := ?oi5T2) (v := ?v5T2) ?oi0_5T2 (by kernel_rfl) ?ff5T2 ?rr5T2 ?hq5T2 (Or.inl ⟨?hw5T2, ?hy5T2⟩) (by assumption) ?rest5T2
        case oi0_5T2 =>
          conv =>
            lhs
            whnf
            arg 1
            whnf
        case hq5T2 => exact fun _ _ _ h => h
        case ff5T2 => kernel_rfl
        case rr5T2 => kernel_rfl
        case hw5T2 => rfl
        case hy5T2 =>
          intro w hSw
          (try dsimp only at hSw)
          first
          | (go_simp; done)
          | (go_simp; with_reducible rfl)
        try simp only [Act.put, List.setIfInBounds_toArray, List.set_cons_zero, List.set_cons_succ]
        refine wpAnyH_take (i := 6) (oi := ?oi6T2) (v := ?v6T2) ?oi0_6T2 (by kernel_rfl) ?ff6T2 ?rr6T2 ?hq6T2 (Or.inl ⟨?hw6T2, ?hy6T2⟩) (by assumption) ?rest6T2
        case oi0_6T2 =>
          conv =>
            lhs
            whnf
            arg 1
            whnf
        case hq6T2 => exact fun _ _ _ h => h
        case ff6T2 => kernel_rfl
        case rr6T2 => kernel_rfl
        case hw6T2 => rfl
        case hy6T2 =>
          intro w hSw
          (try dsimp only at hSw)
          first
          | (go_simp; done)
          | (go_simp; with_reducible rfl)
        try simp only [Act.put, List.setIfInBounds_toArray, List.set_cons_zero, List.set_cons_succ]
        refine wpAnyH_take (i := 7) (oi := ?oi7T2) (v := ?v7T2) ?oi0_7T2 (by kernel_rfl) ?ff7T2 ?rr7T2 ?hq7T2 (Or.inl ⟨?hw7T2, ?hy7T2⟩) (by assumption) ?rest7T2
        case oi0_7T2 =>
          conv =>
            lhs
            whnf
            arg 1
            whnf
        case hq7T2 => exact fun _ _ _ h => h
        case ff7T2 => kernel_rfl
        case rr7T2 => kernel_rfl
        case hw7T2 => rfl
        case hy7T2 =>
          intro w hSw
          (try dsimp only at hSw)
          first
          | (go_simp; done)
          | (go_simp; with_reducible rfl)
        try simp only [Act.put, List.setIfInBounds_toArray, List.set_cons_zero, List.set_cons_succ]
        refine wpAnyH_take (i := 8) (oi := ?oi8T2) (v := ?v8T2) ?oi0_8T2 (by kernel_rfl) ?ff8T2 ?rr8T2 ?hq8T2 (Or.inl ⟨?hw8T2, ?hy8T2⟩) (by assumption) ?rest8T2
        case oi0_8T2 =>
          conv =>
            lhs
            whnf
            arg 1
            whnf
        case hq8T2 => exact fun _ _ _ h => h
        case ff8T2 => kernel_rfl
        case rr8T2 => kernel_rfl
        case hw8T2 => rfl
        case hy8T2 =>
          intro w hSw
          (try dsimp only at hSw)
          first
          | (go_simp; done)
          | (go_simp; with_reducible rfl)
        try simp only [Act.put, List.setIfInBounds_toArray, List.set_cons_zero, List.set_cons_succ]
        refine wpAnyH_done (by kernel_rfl) ?_ _
        go_upto_region 7 with fail
        refine wp_region_held_drew (S := (fun w' => w'.cell? ⟨b, o + k, none⟩ = some (.int .i64 x) ∧ w'.cell? ⟨b2, o2 + k, none⟩ = some (.int .i64 y))) (by kernel_rfl) (by exact ⟨c0', d0'⟩) (fun hHeld => ?_)
        refine wpAnyH_take (i := 0) (oi := ?oi0T3) (v := ?v0T3) ?oi0_0T3 (by kernel_rfl) ?ff0T3 ?rr0T3 ?hq0T3 (Or.inl ⟨?hw0T3, ?hy0T3⟩) (by assumption) ?rest0T3
        case oi0_0T3 =>
          conv =>
            lhs
            whnf
            arg 1
            whnf
        case hq0T3 => exact fun _ _ _ h => h
        case ff0T3 => kernel_rfl
        case rr0T3 => kernel_rfl
        case hw0T3 => rfl
        case hy0T3 =>
          intro w hSw
          (try dsimp only at hSw)
          first
          | (go_simp; done)
          | (go_simp; with_reducible rfl)
        try simp only [Act.put, List.setIfInBounds_toArray, List.set_cons_zero, List.set_cons_succ]
        refine wpAnyH_take (i := 1) (oi := ?oi1T3) (v := ?v1T3) ?oi0_1T3 (by kernel_rfl) ?ff1T3 ?rr1T3 ?hq1T3 (Or.inl ⟨?hw1T3, ?hy1T3⟩) (by assumption) ?rest1T3
        case oi0_1T3 =>
          conv =>
            lhs
            whnf
            arg 1
            whnf
        case hq1T3 => exact fun _ _ _ h => h
        case ff1T3 => kernel_rfl
        case rr1T3 => kernel_rfl
        case hw1T3 => rfl
        case hy1T3 =>
          intro w hSw
          (try dsimp only at hSw)
          first
          | (go_simp; done)
          | (go_simp; with_reducible rfl)
        try simp only [Act.put, List.setIfInBounds_toArray, List.set_cons_zero, List.set_cons_succ]
        refine wpAnyH_take (i := 2) (oi := ?oi2T3) (v := ?v2T3) ?oi0_2T3 (by kernel_rfl) ?ff2T3 ?rr2T3 ?hq2T3 (Or.inl ⟨?hw2T3, ?hy2T3⟩) (by assumption) ?rest2T3
        case oi0_2T3 =>
          conv =>
            lhs
            whnf
            arg 1
            whnf
        case hq2T3 => exact fun _ _ _ h => h
        case ff2T3 => kernel_rfl
        case rr2T3 => kernel_rfl
        case hw2T3 => rfl
        case hy2T3 =>
          intro w hSw
          (try dsimp only at hSw)
          first
          | (go_simp; done)
          | (go_simp; with_reducible rfl)
        try simp only [Act.put, List.setIfInBounds_toArray, List.set_cons_zero, List.set_cons_succ]
        refine wpAnyH_take (i := 3) (oi := ?oi3T3) (v := ?v3T3) ?oi0_3T3 (by kernel_rfl) ?ff3T3 ?rr3T3 ?hq3T3 (Or.inl ⟨?hw3T3, ?hy3T3⟩) (by assumption) ?rest3T3
        case oi0_3T3 =>
          conv =>
            lhs
            whnf
            arg 1
            whnf
        case hq3T3 => exact fun _ _ _ h => h
        case ff3T3 => kernel_rfl
        case rr3T3 => kernel_rfl
        case hw3T3 => rfl
        case hy3T3 =>
          intro w hSw
          (try dsimp only at hSw)
          first
          | (go_simp; done)
          | (go_simp; with_reducible rfl)
        try simp only [Act.put, List.setIfInBounds_toArray, List.set_cons_zero, List.set_cons_succ]
        refine wpAnyH_take (i := 4) (oi := ?oi4T3) (v := ?v4T3) ?oi0_4T3 (by kernel_rfl) ?ff4T3 ?rr4T3 ?hq4T3 (Or.inl ⟨?hw4T3, ?hy4T3⟩) (by assumption) ?rest4T3
        case oi0_4T3 =>
          conv =>
            lhs
            whnf
            arg 1
            whnf
        case hq4T3 => exact fun _ _ _ h => h
        case ff4T3 => kernel_rfl
        case rr4T3 => kernel_rfl
        case hw4T3 => rfl
        case hy4T3 =>
          intro w hSw
          (try dsimp only at hSw)
          first
          | (go_simp; done)
          | (go_simp; with_reducible rfl)
        try simp only [Act.put, List.setIfInBounds_toArray, List.set_cons_zero, List.set_cons_succ]
        refine wpAnyH_take (i := 5) (oi := ?oi5T3) (v := ?v5T3) ?oi0_5T3 (by kernel_rfl) ?ff5T3 ?rr5T3 ?hq5T3 (Or.inl ⟨?hw5T3, ?hy5T3⟩) (by assumption) ?rest5T3
        case oi0_5T3 =>
          conv =>
            lhs
            whnf
            arg 1
            whnf
        case hq5T3 => exact fun _ _ _ h => h
        case ff5T3 => kernel_rfl
        case rr5T3 => kernel_rfl
        case hw5T3 => rfl
        case hy5T3 =>
          intro w hSw
          (try dsimp only at hSw)
          first
          | (go_simp; done)
          | (go_simp; with_reducible rfl)
        try simp only [Act.put, List.setIfInBounds_toArray, List.set_cons_zero, List.set_cons_succ]
        refine wpAnyH_take (i := 6) (oi := ?oi6T3) (v := ?v6T3) ?oi0_6T3 (by kernel_rfl) ?ff6T3 ?rr6T3 ?hq6T3 (Or.inl ⟨?hw6T3, ?hy6T3⟩) (by assumption) ?rest6T3
        case oi0_6T3 =>
          conv =>
            lhs
            whnf
            arg 1
            whnf
        case hq6T3 => exact fun _ _ _ h => h
        case ff6T3 => kernel_rfl
        case rr6T3 => kernel_rfl
        case hw6T3 => rfl
        case hy6T3 =>
          intro w hSw
          (try dsimp only at hSw)
          first
          | (go_simp; done)
          | (go_simp; with_reducible rfl)
        try simp only [Act.put, List.setIfInBounds_toArray, List.set_cons_zero, List.set_cons_succ]
        refine wpAnyH_take (i := 7) (oi := ?oi7T3) (v := ?v7T3) ?oi0_7T3 (by kernel_rfl) ?ff7T3 ?rr7T3 ?hq7T3 (Or.inl ⟨?hw7T3, ?hy7T3⟩) (by assumption) ?rest7T3
        case oi0_7T3 =>
          conv =>
            lhs
            whnf
            arg 1
            whnf
        case hq7T3 => exact fun _ _ _ h => h
        case ff7T3 => kernel_rfl
        case rr7T3 => kernel_rfl
        case hw7T3 => rfl
        case hy7T3 =>
          intro w hSw
          (try dsimp only at hSw)
          first
          | (go_simp; done)
          | (go_simp; with_reducible rfl)
        try simp only [Act.put, List.setIfInBounds_toArray, List.set_cons_zero, List.set_cons_succ]
        refine wpAnyH_take (i := 8) (oi := ?oi8T3) (v := ?v8T3) ?oi0_8T3 (by kernel_rfl) ?ff8T3 ?rr8T3 ?hq8T3 (Or.inl ⟨?hw8T3, ?hy8T3⟩) (by assumption) ?rest8T3
        case oi0_8T3 =>
          conv =>
            lhs
            whnf
            arg 1
            whnf
        case hq8T3 => exact fun _ _ _ h => h
        case ff8T3 => kernel_rfl
        case rr8T3 => kernel_rfl
        case hw8T3 => rfl
        case hy8T3 =>
          intro w hSw
          (try dsimp only at hSw)
          first
          | (go_simp; done)
          | (go_simp; with_reducible rfl)
        try simp only [Act.put, List.setIfInBounds_toArray, List.set_cons_zero, List.set_cons_succ]
        refine wpAnyH_take (i := 9) (oi := ?oi9T3) (v := ?v9T3) ?oi0_9T3 (by kernel_rfl) ?ff9T3 ?rr9T3 ?hq9T3 (Or.inl ⟨?hw9T3, ?hy9T3⟩) (by assumption) ?rest9T3
        case oi0_9T3 =>
          conv =>
            lhs
            whnf
            arg 1
            whnf
        case hq9T3 => exact fun _ _ _ h => h
        case ff9T3 => kernel_rfl
        case rr9T3 => kernel_rfl
        case hw9T3 => rfl
        case hy9T3 =>
          intro w hSw
          (try dsimp only at hSw)
          first
          | (go_simp; done)
          | (go_simp; with_reducible rfl)
        try simp only [Act.put, List.setIfInBounds_toArray, List.set_cons_zero, List.set_cons_succ]
        refine wpAnyH_done (by kernel_rfl) ?_ _
        go_wp2_with fail
        go_ret
        exact ⟨rfl, V2.out⟩
    · obtain rfl : k = n := by omega
      have hki : ¬ (k : Int) < k := by omega
      obtain rfl : r = false := by
        rw [← HR.out]
        have h1 := hr.out
        rw [List.take_of_length_le (by have := HXN.out; omega), List.take_of_length_le (by have := HYN.out; omega)] at h1
        rw [h1, cutCmp_self]
        rfl
      go_wp2_with fail
      go_ret
      exact ⟨rfl, hu.out⟩
end Go.Proofs.Ytpkeimdlcafcnaa

namespace Go.Proofs.Ytpkeimdlcafcnaa

def TInv (l : List Sp) (m : Int) : Prop := (∀ s ∈ l, 0 ≤ s.fr ∧ s.fr < s.to_ ∧ s.to_ ≤ m) ∧ l.Pairwise (fun s t => s.to_ < t.fr)
theorem TInv.weak {l : List Sp} {m k : Int} (h : TInv l m) (hk : m ≤ k) : TInv l k := ⟨fun s hs => by have := h.1 s hs; omega, h.2⟩
theorem TInv.snoc {l : List Sp} {m : Int} {t : Sp} (h : TInv l m) (h0 : 0 ≤ t.fr) (h1 : t.fr < t.to_) (hl : ∀ s ∈ l, s.to_ < t.fr) : TInv (l ++ [t]) t.to_ := by
  refine ⟨fun s hs => ?_, ?_⟩
  · rcases List.mem_append.1 hs with hs | hs
    · have := h.1 s hs; have := hl s hs; omega
    · obtain rfl := List.mem_singleton.1 hs; omega
  · refine List.pairwise_append.2 ⟨h.2, by simp, fun s hs u hu => ?_⟩
    obtain rfl := List.mem_singleton.1 hu
    exact hl s hs
theorem gone_app {l : List Sp} {t : Sp} {a : Int} : Gone (l ++ [t]) a ↔ Gone l a ∨ (t.fr ≤ a ∧ a < t.to_) := by
  unfold Gone
  constructor
  · rintro ⟨s, hs, h⟩
    rcases List.mem_append.1 hs with hs | hs
    · exact .inl ⟨s, hs, h⟩
    · obtain rfl := List.mem_singleton.1 hs; exact .inr h
  · rintro (⟨s, hs, h⟩ | h)
    · exact ⟨s, List.mem_append_left _ hs, h⟩
    · exact ⟨t, by simp, h⟩
theorem tstep {f : Int → Int} {acc : List Sp} {t : Sp} {m : Int} (h : TInv acc m) (h0 : 0 ≤ f t.fr) (h1 : m ≤ f t.fr) (h2 : f t.fr ≤ f t.to_) :
    TInv (talkStep f acc t) (f t.to_) ∧ (∀ a, Gone (talkStep f acc t) a ↔ Gone acc a ∨ (f t.fr ≤ a ∧ a < f t.to_)) ∧ sumSp (talkStep f acc t) = sumSp acc + (f t.to_ - f t.fr) := by
  unfold talkStep
  by_cases e : f t.fr = f t.to_
  · rw [if_pos e]
    refine ⟨h.weak (by omega), fun a => ⟨.inl, fun h => h.elim id fun h => ?_⟩, by omega⟩
    omega
  · rw [if_neg e]
    have hap : ∀ l : List Sp, TInv l m → (∀ s ∈ l, s.to_ < f t.fr) → TInv (l ++ [⟨f t.fr, f t.to_⟩]) (f t.to_) ∧ (∀ a, Gone (l ++ [⟨f t.fr, f t.to_⟩]) a ↔ Gone l a ∨ (f t.fr ≤ a ∧ a < f t.to_)) ∧ sumSp (l ++ [⟨f t.fr, f t.to_⟩]) = sumSp l + (f t.to_ - f t.fr) :=
      fun l hl hb => ⟨hl.snoc (t := ⟨f t.fr, f t.to_⟩) h0 (show f t.fr < f t.to_ by omega) hb, fun a => gone_app, sumSp_snoc _ _⟩
    rcases List.eq_nil_or_concat acc with rfl | ⟨p, r, heq⟩
    · exact hap [] h (fun s hs => by simp at hs)
    · rw [List.concat_eq_append] at heq
      subst heq
      rw [List.getLast?_concat]
      have hr := h.1 r (by simp)
      have hp := List.pairwise_append.1 h.2
      have hpr : ∀ s ∈ p, s.to_ < r.fr := fun s hs => hp.2.2 s hs r (by simp)
      have hpi : TInv p m := ⟨fun s hs => h.1 s (by simp [hs]), hp.1⟩
      by_cases e2 : r.to_ = f t.fr
      · simp only [if_pos e2, List.dropLast_concat]
        refine ⟨hpi.snoc (t := ⟨r.fr, f t.to_⟩) hr.1 (show r.fr < f t.to_ by omega) hpr, fun a => ?_, ?_⟩
        · rw [gone_app, gone_app]
          show _ ∨ (r.fr ≤ a ∧ a < f t.to_) ↔ _
          have h1 := hr.2.1
          constructor
          · rintro (h | h)
            · exact .inl (.inl h)
            · by_cases h3 : a < r.to_
              · exact .inl (.inr ⟨h.1, h3⟩)
              · exact .inr (by omega)
          · rintro ((h | h) | h)
            · exact .inl h
            · exact .inr (by omega)
            · exact .inr (by omega)
        · rw [sumSp_snoc, sumSp_snoc]
          show _ + (f t.to_ - r.fr) = _
          omega
      · simp only [if_neg e2]
        refine hap (p ++ [r]) h fun s hs => ?_
        rcases List.mem_append.1 hs with hs | hs
        · have := hpr s hs; omega
        · obtain rfl := List.mem_singleton.1 hs; omega
def dSum (f : Int → Int) (l : List Sp) : Int := l.foldr (fun t n => f t.to_ - f t.fr + n) 0
theorem talk_gen {f : Int → Int} (mono : ∀ x y, x ≤ y → f x ≤ f y) : ∀ (ts : List Sp) (b : Int) (acc : List Sp), Row b ts → 0 ≤ f b → TInv acc (f b) → ∀ M, f b ≤ M → (∀ t ∈ ts, f t.to_ ≤ M) →
    TInv (ts.foldl (talkStep f) acc) M ∧ (∀ a, Gone (ts.foldl (talkStep f) acc) a ↔ Gone acc a ∨ ∃ t ∈ ts, f t.fr ≤ a ∧ a < f t.to_) ∧ sumSp (ts.foldl (talkStep f) acc) = sumSp acc + dSum f ts := by
  intro ts
  induction ts with
  | nil => intro b acc _ _ h M hM _; exact ⟨h.weak hM, fun a => ⟨.inl, fun h => h.elim id fun ⟨_, h, _⟩ => by simp at h⟩, by show sumSp acc = sumSp acc + 0; omega⟩
  | cons t ts ih =>
    intro b acc hr h0 h M hM ht
    obtain ⟨g1, g2, g3⟩ := hr
    have m1 := mono b t.fr g1
    have m2 := mono t.fr t.to_ (by omega)
    obtain ⟨s1, s2, s3⟩ := tstep (f := f) h (by omega) m1 m2
    obtain ⟨i1, i2, i3⟩ := ih t.to_ (talkStep f acc t) g3 (by omega) s1 M (ht t (by simp)) fun u hu => ht u (by simp [hu])
    rw [List.foldl_cons]
    refine ⟨i1, fun a => ?_, ?_⟩
    · rw [i2, s2]
      constructor
      · rintro ((h | h) | ⟨u, hu, h⟩)
        · exact .inl h
        · exact .inr ⟨t, by simp, h⟩
        · exact .inr ⟨u, by simp [hu], h⟩
      · rintro (h | ⟨u, hu, h⟩)
        · exact .inl (.inl h)
        · rcases List.mem_cons.1 hu with rfl | hu
          · exact .inl (.inr h)
          · exact .inr ⟨u, hu, h⟩
    · rw [i3, s3]
      show _ = sumSp acc + (f t.to_ - f t.fr + dSum f ts)
      omega
theorem row_of_ok (n : Int) : ∀ (l : List Sp) (b : Int), (∀ k, k < l.length → SpOk n l k) → (∀ s, l[0]? = some s → b ≤ s.fr) → Row b l
  | [], _, _, _ => trivial
  | s :: l, b, h, hb => by
    have h0 := (h 0 (by simp)).1
    refine ⟨hb s rfl, h0.2.1, row_of_ok n l s.to_ (fun k hk => ?_) fun t ht => ?_⟩
    · have h1 := h (k + 1) (by simp; omega)
      refine ⟨h1.1, ?_⟩
      rcases Nat.eq_zero_or_pos k with e | e
      · exact .inl e
      · obtain ⟨j, rfl⟩ : ∃ j, k = j + 1 := ⟨k - 1, by omega⟩
        exact .inr (h1.2.resolve_left (by omega))
    · have hl : 0 < l.length := (List.getElem?_eq_some_iff.1 ht).1
      have h1 := (h 1 (by simp; omega)).2.resolve_left (by omega)
      simpa [ht] using h1
theorem talks_row {i : It} (h : ItOk i) : Row 0 i.talks := row_of_ok i.len _ _ h.2.1.2.1 fun s hs => by
  have := (h.2.1.2.1 0 (List.getElem?_eq_some_iff.1 hs).1).1.1
  simpa [hs] using this
theorem talks_to {i : It} (h : ItOk i) : ∀ t ∈ i.talks, 0 ≤ t.fr ∧ t.fr < t.to_ ∧ t.to_ ≤ i.len := by
  intro t ht
  obtain ⟨k, hk⟩ := List.getElem?_of_mem ht
  have := (h.2.1.2.1 k (List.getElem?_eq_some_iff.1 hk).1).1
  rw [hk] at this
  exact this
theorem before_mono {trims : List Sp} {cut : List Int} (h : Row 0 (cutSps trims cut)) (x y : Int) (hxy : x ≤ y) : beforeS trims cut x ≤ beforeS trims cut y := by
  rw [beforeS_eq, beforeS_eq]
  have := porL_mono h x y hxy
  omega
/-- What Talk answers. -/
theorem talk_all {i : It} (h : ItOk i) (set : Nat) :
    TInv (talkS (beforeS i.trims (bitsS set i.trims.length)) i.talks) (cutLen i (bitsS set i.trims.length)) ∧ sumSp (talkS (beforeS i.trims (bitsS set i.trims.length)) i.talks) = dSum (beforeS i.trims (bitsS set i.trims.length)) i.talks ∧
    ∀ a, Gone (talkS (beforeS i.trims (bitsS set i.trims.length)) i.talks) a ↔ ∃ t ∈ i.talks, beforeS i.trims (bitsS set i.trims.length) t.fr ≤ a ∧ a < beforeS i.trims (bitsS set i.trims.length) t.to_ := by
  have hr := bits_row h set
  have hto := bits_to h set
  have hB0 : beforeS i.trims (bitsS set i.trims.length) 0 = 0 := by rw [beforeS_eq, porL_low hr 0 (Int.le_refl _)]; rfl
  have hBn : beforeS i.trims (bitsS set i.trims.length) i.len = cutLen i (bitsS set i.trims.length) := by rw [beforeS_eq, porL_all hr hto, cutLen_eq]
  have hl := h.1.2.2
  obtain ⟨h1, h2, h3⟩ := talk_gen (before_mono hr) i.talks 0 [] (talks_row h) (by omega) ⟨fun s hs => by simp at hs, by simp⟩ (cutLen i (bitsS set i.trims.length))
    (by rw [← hBn]; exact before_mono hr _ _ (by omega)) fun t ht => by rw [← hBn]; exact before_mono hr _ _ (talks_to h t ht).2.2
  refine ⟨h1, ?_, fun a => ?_⟩
  · unfold talkS
    rw [h3, sumSp_nil, Int.zero_add]
  · unfold talkS
    rw [h2]
    exact ⟨fun h => h.elim (fun ⟨_, h, _⟩ => by simp at h) id, .inr⟩
/-- A second is one of talk exactly if its place is. -/
theorem talk_place {i : It} (h : ItOk i) (set : Nat) (a : Int) : Gone (talkS (beforeS i.trims (bitsS set i.trims.length)) i.talks) a ↔ Gone i.talks (placeS i.trims (bitsS set i.trims.length) a) := by
  have hr := bits_row h set
  have hsp := placeL_spec hr a
  rw [← placeS_eq] at hsp
  obtain ⟨p, hp⟩ : ∃ p, placeS i.trims (bitsS set i.trims.length) a = p := ⟨_, rfl⟩
  rw [hp] at hsp ⊢
  obtain ⟨_, s2, s3⟩ := hsp
  have st := porL_step hr p s2
  have b1 : beforeS i.trims (bitsS set i.trims.length) p = a := by rw [beforeS_eq]; exact s3
  have b2 : beforeS i.trims (bitsS set i.trims.length) (p + 1) = a + 1 := by rw [beforeS_eq, st]; omega
  have key : ∀ x, beforeS i.trims (bitsS set i.trims.length) x ≤ a ↔ x ≤ p := by
    intro x
    constructor
    · intro hx
      refine Int.not_lt.1 fun hlt => ?_
      have := before_mono hr (p + 1) x (by omega)
      omega
    · intro hx
      have := before_mono hr x p hx
      omega
  rw [(talk_all h set).2.2 a]
  unfold Gone
  refine exists_congr fun t => and_congr_right fun _ => and_congr (key _) ?_
  have := key t.to_
  omega
theorem tsum_bound : ∀ {l : List Sp} {b m : Int}, (∀ s ∈ l, b ≤ s.fr ∧ s.fr < s.to_ ∧ s.to_ ≤ m) → l.Pairwise (fun s t => s.to_ < t.fr) → b ≤ m → 0 ≤ sumSp l ∧ sumSp l ≤ m - b
  | [], b, m, _, _, h => by rw [sumSp_nil]; omega
  | s :: l, b, m, h1, h2, h3 => by
    have hs := h1 s (by simp)
    have hp := List.pairwise_cons.1 h2
    have := tsum_bound (l := l) (b := s.to_) (m := m) (fun t ht => by have := h1 t (by simp [ht]); have := hp.1 t ht; omega) hp.2 (by omega)
    rw [sumSp_cons]
    omega
theorem TInv.take {l : List Sp} {m : Int} (h : TInv l m) (k : Nat) : TInv (l.take k) m := ⟨fun s hs => h.1 s (List.mem_of_mem_take hs), h.2.sublist (List.take_sublist _ _)⟩

/-! One trim more. -/
theorem porL_snoc (l : List Sp) (s : Sp) (x : Int) : porL (l ++ [s]) x = porL l x + por s x := by
  induction l with
  | nil => show por s x + 0 = 0 + por s x; omega
  | cons t l ih =>
    show por t x + porL (l ++ [s]) x = por t x + porL l x + por s x
    rw [ih]; omega
theorem bPor_succ (l : List Sp) (s n : Nat) (x : Int) : porL (cutSps l (bitsS s (n + 1))) x = porL (cutSps l (bitsS s n)) x + if s.testBit n then por (spOf l n) x else 0 := by
  unfold cutSps
  rw [bitsS]
  split
  · rw [List.map_append, List.map_cons, List.map_nil, porL_snoc]
  · omega
theorem bPor_or (l : List Sp) (s k : Nat) (x : Int) : ∀ n, porL (cutSps l (bitsS (s ||| 2 ^ k) n)) x = porL (cutSps l (bitsS s n)) x + if k < n ∧ s.testBit k = false then por (spOf l k) x else 0 := by
  intro n
  induction n with
  | zero => rw [if_neg (by omega)]; rfl
  | succ n ih =>
    rw [bPor_succ, bPor_succ, ih, Nat.testBit_or, Nat.testBit_two_pow]
    by_cases e : k = n
    · subst e
      rw [if_neg (show ¬ (k < k ∧ s.testBit k = false) from fun h => by omega)]
      cases hb : s.testBit k <;> simp
    · rw [decide_eq_false e, Bool.or_false]
      by_cases h2 : k < n ∧ s.testBit k = false
      · rw [if_pos h2, if_pos (show k < n + 1 ∧ s.testBit k = false from ⟨by omega, h2.2⟩)]; omega
      · rw [if_neg h2, if_neg (show ¬ (k < n + 1 ∧ s.testBit k = false) from fun h => h2 ⟨by omega, h.2⟩)]; omega
theorem dSum_bound {g : Int → Int} (mono : ∀ x y, x ≤ y → g x ≤ g y) {G : Int} (hG : ∀ x, g x ≤ G) : ∀ (l : List Sp) (b : Int), Row b l → 0 ≤ dSum g l ∧ dSum g l ≤ G - g b
  | [], b, _ => by have := hG b; show 0 ≤ (0 : Int) ∧ (0 : Int) ≤ _; omega
  | t :: l, b, h => by
    obtain ⟨g1, g2, g3⟩ := h
    have ih := dSum_bound mono hG l t.to_ g3
    have := mono b t.fr g1
    have := mono t.fr t.to_ (by omega)
    show 0 ≤ g t.to_ - g t.fr + dSum g l ∧ g t.to_ - g t.fr + dSum g l ≤ _
    omega
theorem dSum_sub (f g : Int → Int) (l : List Sp) : dSum (fun x => f x - g x) l = dSum f l - dSum g l := by
  induction l with
  | nil => rfl
  | cons t l ih =>
    show (f t.to_ - g t.to_) - (f t.fr - g t.fr) + dSum (fun x => f x - g x) l = (f t.to_ - f t.fr + dSum f l) - (g t.to_ - g t.fr + dSum g l)
    rw [ih]; omega
theorem por_mono (t : Sp) {x y : Int} (h : x ≤ y) : por t x ≤ por t y := by unfold por; omega
theorem por_le {t : Sp} (h : t.fr < t.to_) (x : Int) : por t x ≤ t.to_ - t.fr := by unfold por; omega
theorem por_nonneg (t : Sp) (x : Int) : 0 ≤ por t x := by unfold por; omega
theorem talk_more {i : It} (h : ItOk i) (s k : Nat) (hk : k < i.trims.length) {t : Sp} (ht : i.trims[k]? = some t) :
    sumSp (talkS (beforeS i.trims (bitsS (s ||| 2 ^ k) i.trims.length)) i.talks) ≤ sumSp (talkS (beforeS i.trims (bitsS s i.trims.length)) i.talks) ∧
    sumSp (talkS (beforeS i.trims (bitsS s i.trims.length)) i.talks) - sumSp (talkS (beforeS i.trims (bitsS (s ||| 2 ^ k) i.trims.length)) i.talks) ≤ t.to_ - t.fr := by
  rw [(talk_all h s).2.1, (talk_all h (s ||| 2 ^ k)).2.1]
  have htk := (h.2.1.1.1 k hk).1
  rw [ht] at htk
  have e1 : spOf i.trims (k : Int) = t := by unfold spOf; rw [Int.toNat_natCast, ht]; rfl
  have hl : t.fr < t.to_ := htk.2.1
  obtain ⟨g, hg, mono, hG, h0⟩ : ∃ g : Int → Int, (∀ x, (if k < i.trims.length ∧ s.testBit k = false then por t x else 0) = g x) ∧ (∀ x y, x ≤ y → g x ≤ g y) ∧ (∀ x, g x ≤ t.to_ - t.fr) ∧ 0 ≤ g 0 := by
    by_cases hc : k < i.trims.length ∧ s.testBit k = false
    · exact ⟨por t, fun x => by rw [if_pos hc], fun x y hxy => por_mono t hxy, fun x => por_le hl x, por_nonneg t 0⟩
    · exact ⟨fun _ => 0, fun x => by rw [if_neg hc], fun _ _ _ => Int.le_refl _, fun _ => (show (0 : Int) ≤ t.to_ - t.fr by omega), Int.le_refl _⟩
  have eD : beforeS i.trims (bitsS (s ||| 2 ^ k) i.trims.length) = fun x => beforeS i.trims (bitsS s i.trims.length) x - g x := by
    funext x
    rw [beforeS_eq, beforeS_eq, bPor_or, e1, hg]
    omega
  have := dSum_bound mono hG i.talks 0 (talks_row h)
  rw [eD, dSum_sub]
  omega
end Go.Proofs.Ytpkeimdlcafcnaa

namespace Go.Proofs.Ytpkeimdlcafcnaa
open Go.RowKit
set_option maxRecDepth 100000
set_option maxHeartbeats 20000000

theorem refIn {n₀ : Nat} (a : Option Addr) (n c : Nat) (xs : List Sp) (x : Int) (w : World) (h1 : SpsAt n₀ w a xs) (hn : n = xs.length) (hm : n ≤ maxLen) :
    Calls Try.prog 34 #[.slice a n c, .int .i64 x] w fun e w' => e = .returned (.bool (decide (Gone xs x))) ∧ Upd [] w w' := by
  have HX := hide h1
  have HXN := hide hn
  have hm' : n ≤ 9223372036854775807 := by unfold maxLen at hm; omega
  obtain ⟨r, HR⟩ : ∃ r, Hid (decide (Gone xs x) = r) := ⟨_, rfl⟩
  rw [HR.out]
  clear h1 hm hn
  go_enter Try.func34, Try.ntmps34
  go_wp2_with fail
  go_loopw [5] (fun s5 wr => ∃ k : Nat, k ≤ n ∧ s5 = .int .i64 k ∧ Hid (Upd [] w wr) ∧ Hid (¬ Gone (xs.take k) x)) (fun k _ => n - (intOf k).toNat)
  case atStart => exact ⟨0, Nat.zero_le _, rfl, Upd.refl _ _, hide (by rintro ⟨s, hs, _⟩; simp at hs)⟩
  case round =>
    obtain ⟨k, hk, rfl, hu, hr⟩ := hrel
    obtain ⟨wo, rfl⟩ : ∃ wo : World, wo = wr := ⟨_, rfl⟩
    by_cases hkl : k < n
    · obtain ⟨s, hs⟩ : ∃ s, xs[k]? = some s := ⟨_, List.getElem?_eq_getElem (by have := HXN.out; omega)⟩
      obtain ⟨b, o, ea, _, c0, c1⟩ := HX.out k s hs
      subst ea
      have hki : (k : Int) < n := by omega
      have c0' := keepc _ _ _ _ hu.out c0
      have c1' := keepc _ _ _ _ hu.out c1
      have HS := hide hs
      clear hs c0 c1
      by_cases e1 : s.fr ≤ x
      · have d1 : decide (s.fr ≤ x) = true := decide_eq_true e1
        by_cases e2 : x < s.to_
        · have d2 : decide (x < s.to_) = true := decide_eq_true e2
          obtain rfl : r = true := by rw [← HR.out]; exact decide_eq_true ⟨s, List.mem_of_getElem? HS.out, e1, e2⟩
          go_wp2_with fail
          go_ret
          exact ⟨rfl, hu.out⟩
        · have d2 : decide (x < s.to_) = false := decide_eq_false e2
          have HST := hide (show ¬ Gone (xs.take (k + 1)) x by rw [List.take_add_one, HS.out, Option.toList_some, gone_app]; exact fun h => h.elim hr.out fun h => e2 h.2)
          go_wp2_with fail
          go_roundw
          case rel => exact ⟨k + 1, by omega, by go_num, hu, HST⟩
          case measure => simp [intOf] <;> omega
      · have d1 : decide (s.fr ≤ x) = false := decide_eq_false e1
        have HST := hide (show ¬ Gone (xs.take (k + 1)) x by rw [List.take_add_one, HS.out, Option.toList_some, gone_app]; exact fun h => h.elim hr.out fun h => e1 h.1)
        go_wp2_with fail
        go_roundw
        case rel => exact ⟨k + 1, by omega, by go_num, hu, HST⟩
        case measure => simp [intOf] <;> omega
    · obtain rfl : k = n := by omega
      have hki : ¬ (k : Int) < k := by omega
      obtain rfl : r = false := by
        rw [← HR.out]
        have h1 := hr.out
        rw [List.take_of_length_le (by have := HXN.out; omega)] at h1
        exact decide_eq_false h1
      go_wp2_with fail
      go_ret
      exact ⟨rfl, hu.out⟩
end Go.Proofs.Ytpkeimdlcafcnaa

namespace Go.Proofs.Ytpkeimdlcafcnaa
open Go.RowKit
set_option maxRecDepth 100000
set_option maxHeartbeats 40000000

/-- What the search has so far. -/
def BestAt (i : It) (wanted : Int) (k : Nat) (W : World) (A : Option Addr) (n c : Nat) (f : Bool) : Prop :=
  (f = false ∧ bestOf i wanted (List.range k) = none ∧ A = none ∧ n = 0 ∧ c = 0) ∨ (f = true ∧ ∃ b, bestOf i wanted (List.range k) = some b ∧ n = b.length ∧ n ≤ 4 ∧ Ints W.heap.size W (.slice A n c) b)
theorem BestAt.upd {i : It} {wanted : Int} {k : Nat} {W W' : World} {A : Option Addr} {n c : Nat} {f : Bool} (h : BestAt i wanted k W A n c f) (hu : Upd [] W W') : BestAt i wanted k W' A n c f := by
  rcases h with h | ⟨h, b, h1, h2, h3, h4⟩
  · exact .inl h
  · exact .inr ⟨h, b, h1, h2, h3, (ints_upd h4 hu (Nat.le_refl _) (by simp)).mono hu.size⟩
theorem refCut (i : It) (ta : Option Addr) (tc : Nat) (ka : Option Addr) (kc : Nat) (wanted : Int) (w : World) (it : ItAt w i ta ka) (h1 : i.trims.length ≤ maxLen) (h2 : i.talks.length ≤ maxLen) :
    Calls Try.prog 21 #[.agg #[.int .i64 i.id, .int .i64 i.kind, .int .i64 i.len, .slice ta i.trims.length tc, .slice ka i.talks.length kc, .int .i64 i.artist, .int .i64 i.tempo, .int .i64 i.lang], .int .i64 wanted] w fun e w' => ((¬ ItOk i ∧ e = .returned (.tuple #[.slice none 0 0, .int .i64 70])) ∨ (ItOk i ∧ ∃ A n c f, BestAt i wanted (2 ^ i.trims.length) w' A n c f ∧ e = .returned (if f then .tuple #[.slice A n c, .int .i64 0] else .tuple #[.slice none 0 0, .int .i64 70]))) ∧ Upd [] w w' := by
  have HI := hide it
  clear it
  go_enter Try.func21, Try.ntmps21
  go_upto_region 1 with fail
  obtain ⟨w1, hw1⟩ : ∃ x, w.alloc (.cells #[.int .i64 i.id, .int .i64 i.kind, .int .i64 i.len, .slice ta i.trims.length tc, .slice ka i.talks.length kc, .int .i64 i.artist, .int .i64 i.tempo, .int .i64 i.lang] 24) = x := ⟨_, rfl⟩
  have B1 := hide (show Blk w1 w.heap.size 24 [.int .i64 i.id, .int .i64 i.kind, .int .i64 i.len, .slice ta i.trims.length tc, .slice ka i.talks.length kc, .int .i64 i.artist, .int .i64 i.tempo, .int .i64 i.lang] by rw [← hw1]; exact Blk.new w _ _)
  have U1 := hide (show Upd [] w w1 by rw [← hw1]; exact (Upd.refl [] _).alloc _)
  rw [hw1]
  clear hw1
  have I1 := hide (HI.out.upd U1.out)
  have m0 := B1.out.cell 0
  have m1 := B1.out.cell 1
  have m2 := B1.out.cell 2
  have m3 := B1.out.cell 3
  have m4 := B1.out.cell 4
  have m5 := B1.out.cell 5
  have m6 := B1.out.cell 6
  have m7 := B1.out.cell 7
  go_wp2_with fail
  refine (refValid i ta tc ka kc w1 I1.out h1 h2).mono ?_
  rintro e w2 ⟨rfl, u⟩
  have B2 := hide (B1.out.upd u (by simp))
  have U2 := hide (U1.out.trans u (by simp))
  clear u
  clear m0 m1 m2 m3 m4 m5 m6 m7
  by_cases hv : ItOk i
  case neg =>
    rw [decide_eq_false hv]
    have HV := hide hv
    clear hv
    go_wp2_with fail
    go_ret2
    exact ⟨.inl ⟨HV.out, rfl⟩, U2.out⟩
  rw [decide_eq_true hv]
  have HV := hide hv
  clear hv
  have ht4 := HV.out.2.1.1.2
  obtain ⟨P, hP⟩ : ∃ P : Nat, 2 ^ i.trims.length = P := ⟨_, rfl⟩
  have hP16 : P ≤ 16 := by rw [← hP]; exact Nat.pow_le_pow_right (n := 2) (by omega) ht4
  have hPi : (2 : Int) ^ i.trims.length = (P : Int) := by rw [← hP]; simp
  have hPw : IntKind.i64.wrap (P : Int) = P := Go.IntWalk.i64_in _ (by omega)
  have HP := hide hP
  clear hP
  go_wp2_with fail
  go_loopw [6, 7, 8] (fun s6 s7 s8 wr => ∃ (A : Option Addr) (n c k : Nat) (f : Bool), k ≤ P ∧ s6 = .slice A n c ∧ s7 = .bool f ∧ s8 = .int .i64 k ∧ Hid (BestAt i wanted k wr A n c f) ∧ Hid (Upd [] w2 wr)) (fun _ _ k _ => P - (intOf k).toNat)
  case atStart => exact ⟨none, 0, 0, 0, false, Nat.zero_le _, rfl, rfl, rfl, hide (.inl ⟨rfl, rfl, rfl, rfl, rfl⟩), Upd.refl _ _⟩
  case round =>
    obtain ⟨A, n, c, k, f, hk, rfl, rfl, rfl, hb, hu⟩ := hrel
    obtain ⟨wo, rfl⟩ : ∃ wo : World, wo = wr := ⟨_, rfl⟩
    have UO := hide (U2.out.trans hu.out (by simp))
    have BO := hide (B2.out.upd hu.out (by simp))
    have IO := hide (HI.out.upd UO.out)
    have m0 := BO.out.cell 0
    have m1 := BO.out.cell 1
    have m2 := BO.out.cell 2
    have m3 := BO.out.cell 3
    have m4 := BO.out.cell 4
    have m5 := BO.out.cell 5
    have m6 := BO.out.cell 6
    have m7 := BO.out.cell 7
    by_cases hkl : k < P
    case neg =>
      obtain rfl : k = P := by omega
      have hki : ¬ (k : Int) < k := by omega
      cases f with
      | false =>
        go_wp2_with fail
        go_ret2
        have hb9 : BestAt i wanted (2 ^ i.trims.length) wo A n c false := by rw [HP.out]; exact hb.out
        exact ⟨Or.inr ⟨HV.out, A, n, c, .inl ⟨hb9, rfl⟩⟩, UO.out⟩
      | true =>
        go_wp2_with fail
        go_ret2
        have hb9 : BestAt i wanted (2 ^ i.trims.length) wo A n c true := by rw [HP.out]; exact hb.out
        exact ⟨Or.inr ⟨HV.out, A, n, c, .inr ⟨hb9, rfl⟩⟩, UO.out⟩
    have hki : (k : Int) < P := by omega
    have hwk : IntKind.i64.wrap ((k : Int) + 1) = (k : Int) + 1 := Go.IntWalk.i64_in _ (by omega)
    go_wp2_with fail
    refine (refBits i ta i.trims.length tc ka i.talks.length kc k wo ht4 (by omega)).mono ?_
    rintro e wp ⟨D, d, rfl, ob, u⟩
    have OB := hide (it_own_ints ob)
    have BP := hide (BO.out.upd u (by simp))
    have IP := hide (IO.out.upd u)
    have UP := hide (UO.out.trans u (by simp))
    have VP := hide (hu.out.trans u (by simp))
    have hbp := hide (hb.out.upd u)
    clear u ob
    clear m0 m1 m2 m3 m4 m5 m6 m7
    have m0 := BP.out.cell 0
    have m1 := BP.out.cell 1
    have m2 := BP.out.cell 2
    have m3 := BP.out.cell 3
    have m4 := BP.out.cell 4
    have m5 := BP.out.cell 5
    have m6 := BP.out.cell 6
    have m7 := BP.out.cell 7
    have hbl : (bitsS k i.trims.length).length ≤ maxLen := by have := bitsS_length k i.trims.length; unfold maxLen; omega
    go_wp2_with fail
    refine (refLength i ta tc ka kc D (bitsS k i.trims.length).length d (bitsS k i.trims.length) wp IP.out h1 h2 OB.out hbl).mono ?_
    rintro e wq ⟨rfl, u⟩
    rw [if_pos ⟨HV.out, bitsS_cutOk k _ ht4⟩]
    have UQ := hide (UP.out.trans u (by simp))
    have VQ := hide (VP.out.trans u (by simp))
    have OQ := hide ((ints_upd OB.out u (Nat.le_refl _) (by simp)).mono u.size)
    have hbq := hide (hbp.out.upd u)
    clear u
    clear m0 m1 m2 m3 m4 m5 m6 m7
    have BS := hide (show bestOf i wanted (List.range (k + 1)) = bestStep i wanted (bestOf i wanted (List.range k)) (bitsS k i.trims.length) by rw [List.range_succ, bestOf_snoc])
    obtain ⟨z, hz⟩ : ∃ z, cutLen i (bitsS k i.trims.length) = z := ⟨_, rfl⟩
    rw [hz]
    have HZ := hide hz
    clear hz
    by_cases hw : z = wanted
    case neg =>
      have hwb : (z == wanted) = false := by simpa using hw
      have HN := hide (show BestAt i wanted (k + 1) wq A n c f by
        have e : bestOf i wanted (List.range (k + 1)) = bestOf i wanted (List.range k) := by rw [BS.out]; unfold bestStep; rw [HZ.out, if_neg hw]
        unfold BestAt; rw [e]; exact hbq.out)
      clear hw
      go_wp2_with fail
      go_roundw
      case rel => exact ⟨A, n, c, k + 1, f, by omega, rfl, rfl, by go_num, HN, VQ⟩
      case measure => simp [intOf] <;> omega
    have hwb : (z == wanted) = true := by simpa using hw
    have HW := hide hw
    clear hw
    have BST := hide (show bestOf i wanted (List.range (k + 1)) = (match bestOf i wanted (List.range k) with | none => some (bitsS k i.trims.length) | some b => if cutCmp (bitsS k i.trims.length) b < 0 then some (bitsS k i.trims.length) else some b) by rw [BS.out]; unfold bestStep; rw [HZ.out, if_pos HW.out]; cases bestOf i wanted (List.range k) <;> rfl)
    have hb4 : (bitsS k i.trims.length).length ≤ 4 := Nat.le_trans (bitsS_length _ _) ht4
    rcases hbq.out with ⟨rfl, hno, rfl, rfl, rfl⟩ | ⟨rfl, b, hyes, rfl, hb5, hib⟩
    · have HN := hide (show BestAt i wanted (k + 1) wq D (bitsS k i.trims.length).length d true from .inr ⟨rfl, _, by rw [BST.out, hno], rfl, hb4, OQ.out⟩)
      clear hno
      go_wp2_with fail
      go_roundw
      case rel => exact ⟨D, (bitsS k i.trims.length).length, d, k + 1, true, by omega, rfl, rfl, by go_num, HN, VQ⟩
      case measure => simp [intOf] <;> omega
    · have HIB := hide hib
      have HYES := hide hyes
      clear hib hyes
      have hbl2 : b.length ≤ maxLen := by unfold maxLen; omega
      go_wp2_with fail
      refine (refBefore D (bitsS k i.trims.length).length d (bitsS k i.trims.length) A b.length c b wq OQ.out HIB.out hbl hbl2).mono ?_
      rintro e wr2 ⟨rfl, u⟩
      have VR := hide (VQ.out.trans u (by simp))
      have OR := hide ((ints_upd OQ.out u (Nat.le_refl _) (by simp)).mono u.size)
      have HIR := hide ((ints_upd HIB.out u (Nat.le_refl _) (by simp)).mono u.size)
      clear u
      by_cases hcm : cutCmp (bitsS k i.trims.length) b < 0
      · rw [decide_eq_true hcm]
        have HN := hide (show BestAt i wanted (k + 1) wr2 D (bitsS k i.trims.length).length d true from .inr ⟨rfl, _, by rw [BST.out, HYES.out]; exact if_pos hcm, rfl, hb4, OR.out⟩)
        clear hcm
        go_wp2_with fail
        go_roundw
        case rel => exact ⟨D, (bitsS k i.trims.length).length, d, k + 1, true, by omega, rfl, rfl, by go_num, HN, VR⟩
        case measure => simp [intOf] <;> omega
      · rw [decide_eq_false hcm]
        have HN := hide (show BestAt i wanted (k + 1) wr2 A b.length c true from .inr ⟨rfl, _, by rw [BST.out, HYES.out]; exact if_neg hcm, rfl, hb5, HIR.out⟩)
        clear hcm
        go_wp2_with fail
        go_roundw
        case rel => exact ⟨A, b.length, c, k + 1, true, by omega, rfl, rfl, by go_num, HN, VR⟩
        case measure => simp [intOf] <;> omega
end Go.Proofs.Ytpkeimdlcafcnaa

namespace Go.Proofs.Ytpkeimdlcafcnaa
open Go.RowKit

theorem sep_len {l : List Sp} {m : Int} (h : TInv l m) : (l.length : Int) ≤ max 0 m := by
  have key : ∀ (l : List Sp) (b : Int), (∀ s ∈ l, b ≤ s.fr ∧ s.fr < s.to_ ∧ s.to_ ≤ m) → l.Pairwise (fun s t => s.to_ < t.fr) → (l.length : Int) ≤ max 0 (m - b) := by
    intro l
    induction l with
    | nil => intro b _ _; simp; omega
    | cons s l ih =>
      intro b h1 h2
      have hs := h1 s (by simp)
      have hp := List.pairwise_cons.1 h2
      have := ih s.to_ (fun t ht => by have := h1 t (by simp [ht]); have := hp.1 t ht; omega) hp.2
      rw [List.length_cons]
      omega
  have := key l 0 h.1 h.2
  rwa [Int.sub_zero] at this
theorem keepX {W W' : World} {g t : Nat} {cs : List Value} (h : Blk W g t cs) (hu : Upd [] W W') : Blk W' g t cs := h.upd hu (by simp)
theorem bent_small {i : It} (h : ItOk i) (how n at_ : Int) : (bentS i how n at_).trims.length ≤ 5 ∧ (bentS i how n at_).talks.length ≤ 5 := by
  have h1 := h.2.1.1.2
  have h2 := h.2.1.2.2
  unfold bentS setFr setTo
  repeat' split
  all_goals (first | exact ⟨by simp only [List.length_set]; omega, by simp only [List.length_set]; omega⟩ | exact ⟨by simp; omega, by simp; omega⟩)
end Go.Proofs.Ytpkeimdlcafcnaa

namespace Go.Proofs.Ytpkeimdlcafcnaa

theorem cutOk_pair {m : Nat} {l : List Int} (h : CutOk m l) : l.Pairwise (· < ·) := by
  have step : ∀ j, j + 1 < l.length → l[j]?.getD 0 < l[j + 1]?.getD 0 := fun j hj => by
    have := (h.1 (j + 1) hj).2.resolve_left (by omega)
    rwa [show j + 1 - 1 = j by omega] at this
  have all : ∀ d j, j + d + 1 < l.length → l[j]?.getD 0 < l[j + d + 1]?.getD 0 := by
    intro d
    induction d with
    | zero => intro j hj; exact step j hj
    | succ d ih =>
      intro j hj
      have h1 := ih j (by omega)
      have h2 := step (j + d + 1) (by omega)
      rw [show j + (d + 1) + 1 = j + d + 1 + 1 by omega]
      omega
  rw [List.pairwise_iff_getElem]
  intro a b ha hb hab
  have := all (b - a - 1) a (by omega)
  rw [show a + (b - a - 1) + 1 = b by omega, List.getElem?_eq_getElem ha, List.getElem?_eq_getElem hb] at this
  exact this
theorem cutOk_mem {m : Nat} {l : List Int} (h : CutOk m l) : ∀ x ∈ l, 0 ≤ x ∧ x < m := by
  intro x hx
  obtain ⟨k, hk⟩ := List.getElem?_of_mem hx
  have := (h.1 k (List.getElem?_eq_some_iff.1 hk).1).1
  rw [hk] at this
  exact this
/-- A kept second that is the a-th kept one is the place of a. -/
theorem place_uniq {l : List Sp} (h : Row 0 l) {x a : Int} (hx : ¬ Gone l x) (e : x - porL l x = a) : placeL l a = x := by
  obtain ⟨_, s2, s3⟩ := placeL_spec h a
  have mono : ∀ x y, x ≤ y → x - porL l x ≤ y - porL l y := fun x y hxy => by have := porL_mono h x y hxy; omega
  have p1 := porL_step h x hx
  have p2 := porL_step h _ s2
  rcases Int.lt_trichotomy (placeL l a) x with hlt | heq | hgt
  · have := mono (placeL l a + 1) x (by omega); omega
  · exact heq
  · have := mono (x + 1) (placeL l a) (by omega); omega
/-- A second that is left out adds nothing to the kept ones. -/
theorem porL_gone {l : List Sp} {b : Int} (h : Row b l) {x : Int} (hg : Gone l x) : porL l (x + 1) = porL l x + 1 := by
  have h1 := porL_mono h x (x + 1) (by omega)
  induction l generalizing b with
  | nil => obtain ⟨s, hs, _⟩ := hg; simp at hs
  | cons s l ih =>
    obtain ⟨g1, g2, g3⟩ := h
    show por s (x + 1) + porL l (x + 1) = por s x + porL l x + 1
    by_cases hs : s.fr ≤ x ∧ x < s.to_
    · have e1 : porL l (x + 1) = porL l x := porL_step g3 x (fun ⟨t, ht, hx⟩ => by have := g3.le t ht; omega)
      rw [e1]
      unfold por
      omega
    · have hg2 : Gone l x := by
        obtain ⟨t, ht, hx⟩ := hg
        rcases List.mem_cons.1 ht with rfl | ht
        · exact absurd hx hs
        · exact ⟨t, ht, hx⟩
      rw [ih g3 hg2 (porL_mono g3 x (x + 1) (by omega))]
      unfold por
      omega
theorem cutOk_row {i : It} (h : ItOk i) {cut : List Int} (hc : CutOk i.trims.length cut) : Row 0 (cutSps i.trims cut) := by
  refine cut_row h.2.1.1 _ 0 (cutOk_mem hc) (cutOk_pair hc) fun k hk => ?_
  obtain ⟨h0, h1⟩ := cutOk_mem hc k hk
  have := (h.2.1.1.1 k.toNat (by omega)).1.1
  exact this
theorem cutOk_to {i : It} (h : ItOk i) {cut : List Int} (hc : CutOk i.trims.length cut) : ∀ s ∈ cutSps i.trims cut, s.to_ ≤ i.len := by
  intro s hs
  obtain ⟨k, hk, rfl⟩ := List.mem_map.1 hs
  obtain ⟨h0, h1⟩ := cutOk_mem hc k hk
  exact (h.2.1.1.1 k.toNat (by omega)).1.2.2
theorem cutLen_por {i : It} (h : ItOk i) {cut : List Int} (hc : CutOk i.trims.length cut) : i.len - porL (cutSps i.trims cut) i.len = cutLen i cut := by
  rw [porL_all (cutOk_row h hc) (cutOk_to h hc), cutLen_eq]
end Go.Proofs.Ytpkeimdlcafcnaa

namespace Go.Proofs.Ytpkeimdlcafcnaa
open Go.RowKit
set_option maxRecDepth 100000
set_option maxHeartbeats 40000000

theorem refPlace (i : It) (ta : Option Addr) (tc : Nat) (ka : Option Addr) (kc : Nat) (a : Option Addr) (n c : Nat) (xs : List Int) (at_ : Int) (w : World) (it : ItAt w i ta ka) (h1 : i.trims.length ≤ maxLen) (h2 : i.talks.length ≤ maxLen) (hC : Ints w.heap.size w (.slice a n c) xs) (hm : n ≤ maxLen) :
    Calls Try.prog 30 #[.agg #[.int .i64 i.id, .int .i64 i.kind, .int .i64 i.len, .slice ta i.trims.length tc, .slice ka i.talks.length kc, .int .i64 i.artist, .int .i64 i.tempo, .int .i64 i.lang], .slice a n c, .int .i64 at_] w fun e w' => e = .returned (if (ItOk i ∧ CutOk i.trims.length xs) ∧ 0 ≤ at_ ∧ at_ < cutLen i xs then (.tuple #[.int .i64 (placeS i.trims xs at_), .int .i64 0] : Value) else .tuple #[.int .i64 0, .int .i64 70]) ∧ Upd [] w w' := by
  obtain ⟨r, HR⟩ : ∃ r, Hid ((if (ItOk i ∧ CutOk i.trims.length xs) ∧ 0 ≤ at_ ∧ at_ < cutLen i xs then (.tuple #[.int .i64 (placeS i.trims xs at_), .int .i64 0] : Value) else .tuple #[.int .i64 0, .int .i64 70]) = r) := ⟨_, rfl⟩
  rw [HR.out]
  have HI := hide it
  have HCI := hide hC
  clear it hC
  go_enter Try.func30, Try.ntmps30
  go_upto_region 1 with fail
  obtain ⟨w1, hw1⟩ : ∃ x, w.alloc (.cells #[.int .i64 i.id, .int .i64 i.kind, .int .i64 i.len, .slice ta i.trims.length tc, .slice ka i.talks.length kc, .int .i64 i.artist, .int .i64 i.tempo, .int .i64 i.lang] 24) = x := ⟨_, rfl⟩
  have B1 := hide (show Blk w1 w.heap.size 24 [.int .i64 i.id, .int .i64 i.kind, .int .i64 i.len, .slice ta i.trims.length tc, .slice ka i.talks.length kc, .int .i64 i.artist, .int .i64 i.tempo, .int .i64 i.lang] by rw [← hw1]; exact Blk.new w _ _)
  have U1 := hide (show Upd [] w w1 by rw [← hw1]; exact (Upd.refl [] _).alloc _)
  rw [hw1]
  clear hw1
  have I1 := hide (HI.out.upd U1.out)
  have m0 := B1.out.cell 0
  have m1 := B1.out.cell 1
  have m2 := B1.out.cell 2
  have m3 := B1.out.cell 3
  have m4 := B1.out.cell 4
  have m5 := B1.out.cell 5
  have m6 := B1.out.cell 6
  have m7 := B1.out.cell 7
  go_wp2_with fail
  refine (refValid i ta tc ka kc w1 I1.out h1 h2).mono ?_
  rintro e w2 ⟨rfl, u⟩
  have B2 := hide (B1.out.upd u (by simp))
  have U2 := hide (U1.out.trans u (by simp))
  clear u
  clear m0 m1 m2 m3 m4 m5 m6 m7
  by_cases hv : ItOk i
  case neg =>
    rw [decide_eq_false hv]
    obtain rfl := HR.out.symm.trans (if_neg (fun h => hv h.1.1))
    clear hv
    go_wp2_with fail
    go_ret2
    exact ⟨rfl, U2.out⟩
  rw [decide_eq_true hv]
  have HV := hide hv
  clear hv
  have m0 := B2.out.cell 0
  have m1 := B2.out.cell 1
  have m2 := B2.out.cell 2
  have m3 := B2.out.cell 3
  have m4 := B2.out.cell 4
  have m5 := B2.out.cell 5
  have m6 := B2.out.cell 6
  have m7 := B2.out.cell 7
  go_wp2_with fail
  refine (refIsCut i ta tc ka kc a n c xs w2 (ints_upd HCI.out U2.out (Nat.le_refl _) (by simp)) hm).mono ?_
  rintro e w3 ⟨rfl, u⟩
  have B3 := hide (B2.out.upd u (by simp))
  have U3 := hide (U2.out.trans u (by simp))
  clear u
  clear m0 m1 m2 m3 m4 m5 m6 m7
  have ht4 := HV.out.2.1.1.2
  by_cases hc : CutR i.trims.length xs
  case neg =>
    rw [decide_eq_false hc]
    obtain rfl := HR.out.symm.trans (if_neg (fun h => hc ((cutR_iff ht4).2 h.1.2)))
    clear hc
    go_wp2_with fail
    go_ret2
    exact ⟨rfl, U3.out⟩
  rw [decide_eq_true hc]
  have HCO := hide ((cutR_iff ht4).1 hc)
  clear hc
  by_cases h0 : at_ < 0
  case pos =>
    obtain rfl := HR.out.symm.trans (if_neg (fun h => by have := h.2.1; omega))
    have h0d : decide (at_ < 0) = true := decide_eq_true h0
    go_wp2_with fail
    go_ret2
    exact ⟨rfl, U3.out⟩
  have h0d : decide (at_ < 0) = false := decide_eq_false h0
  have HROW := hide (cutOk_row HV.out HCO.out)
  have HLEN := hide (cutLen_por HV.out HCO.out)
  have hlen := HV.out.1.2.2
  go_wp2_with fail
  go_loopw [8, 9] (fun s8 s9 wr => ∃ (k m : Int), (0 ≤ k ∧ k ≤ i.len) ∧ s9 = .int .i64 k ∧ s8 = .int .i64 m ∧ (0 ≤ m ∧ m ≤ k ∧ m ≤ at_) ∧ Hid (m = k - porL (cutSps i.trims xs) k) ∧ Hid (Upd [] w3 wr)) (fun _ k _ => (i.len - intOf k).toNat)
  case atStart => exact ⟨0, 0, by omega, rfl, rfl, by omega, hide (by rw [porL_low HROW.out 0 (Int.le_refl _)]; rfl), Upd.refl _ _⟩
  case round =>
    obtain ⟨k, m, ⟨hk0, hk1⟩, rfl, rfl, ⟨hm0, hm1, hm2⟩, hp, hu⟩ := hrel
    obtain ⟨wo, rfl⟩ : ∃ wo : World, wo = wr := ⟨_, rfl⟩
    have UO := hide (U3.out.trans hu.out (by simp))
    have BO := hide (B3.out.upd hu.out (by simp))
    have IO := hide (HI.out.upd UO.out)
    have m0 := BO.out.cell 0
    have m1 := BO.out.cell 1
    have m2 := BO.out.cell 2
    have m3 := BO.out.cell 3
    have m4 := BO.out.cell 4
    have m5 := BO.out.cell 5
    have m6 := BO.out.cell 6
    have m7 := BO.out.cell 7
    by_cases hkl : k < i.len
    case neg =>
      obtain rfl : k = i.len := by omega
      have hki : ¬ i.len < i.len := by omega
      obtain rfl := HR.out.symm.trans (if_neg (fun h => by have := h.2.2; have := hp.out; have := HLEN.out; omega))
      go_wp2_with fail
      go_ret2
      exact ⟨rfl, UO.out⟩
    have hwk : IntKind.i64.wrap (k + 1) = k + 1 := Go.IntWalk.i64_in _ (by omega)
    have hwm : IntKind.i64.wrap (m + 1) = m + 1 := Go.IntWalk.i64_in _ (by omega)
    go_wp2_with fail
    refine (refOut i ta tc ka kc a n c xs k wo IO.out ht4 HCO.out ((ints_upd HCI.out UO.out (Nat.le_refl _) (by simp)).mono UO.out.size)).mono ?_
    rintro e wp ⟨rfl, u⟩
    have UP := hide (UO.out.trans u (by simp))
    have VP := hide (hu.out.trans u (by simp))
    clear u
    clear m0 m1 m2 m3 m4 m5 m6 m7
    by_cases hg : Gone (cutSps i.trims xs) k
    case pos =>
      rw [decide_eq_true hg]
      have e := porL_gone HROW.out hg
      have HP := hide (show m = (k + 1) - porL (cutSps i.trims xs) (k + 1) by have := hp.out; omega)
      clear hg e
      go_wp2_with fail
      go_roundw
      case rel => exact ⟨k + 1, m, by omega, rfl, rfl, by omega, HP, VP⟩
      case measure => simp [intOf] <;> omega
    rw [decide_eq_false hg]
    have e := porL_step HROW.out k hg
    by_cases hat : m = at_
    case pos =>
      have hb : (m == at_) = true := by simp [hat]
      have hmono := porL_mono HROW.out (k + 1) i.len (by omega)
      have hpl := place_uniq HROW.out hg (a := at_) (by have := hp.out; omega)
      rw [← placeS_eq] at hpl
      obtain rfl := HR.out.symm.trans (if_pos ⟨⟨HV.out, HCO.out⟩, by omega, by have := hp.out; have := HLEN.out; omega⟩)
      have HPL := hide hpl
      clear hpl hat e hmono hg
      go_wp2_with fail
      go_ret2
      exact ⟨by rw [HPL.out]; rfl, UP.out⟩
    have hb : (m == at_) = false := by simp [hat]
    have HP := hide (show m + 1 = (k + 1) - porL (cutSps i.trims xs) (k + 1) by have := hp.out; omega)
    have hm3 : m + 1 ≤ at_ := by omega
    clear hat e hg
    go_wp2_with fail
    go_roundw
    case rel => exact ⟨k + 1, m + 1, by omega, rfl, rfl, by omega, HP, VP⟩
    case measure => simp [intOf] <;> omega
end Go.Proofs.Ytpkeimdlcafcnaa

namespace Go.Proofs.Ytpkeimdlcafcnaa
open Go.RowKit
set_option maxRecDepth 100000
set_option maxHeartbeats 40000000

theorem refHeard (i : It) (ta : Option Addr) (tc : Nat) (ka : Option Addr) (kc : Nat) (a : Option Addr) (n c : Nat) (xs : List Int) (at_ : Int) (w : World) (it : ItAt w i ta ka) (h1 : i.trims.length ≤ maxLen) (h2 : i.talks.length ≤ maxLen) (hC : Ints w.heap.size w (.slice a n c) xs) (hm : n ≤ maxLen) :
    Calls Try.prog 32 #[.agg #[.int .i64 i.id, .int .i64 i.kind, .int .i64 i.len, .slice ta i.trims.length tc, .slice ka i.talks.length kc, .int .i64 i.artist, .int .i64 i.tempo, .int .i64 i.lang], .slice a n c, .int .i64 at_] w fun e w' => e = .returned (if (ItOk i ∧ CutOk i.trims.length xs) ∧ 0 ≤ at_ ∧ at_ < i.len then (.tuple #[.int .i64 (heardS i.trims xs at_ at_), .int .i64 0] : Value) else .tuple #[.int .i64 0, .int .i64 70]) ∧ Upd [] w w' := by
  obtain ⟨r, HR⟩ : ∃ r, Hid ((if (ItOk i ∧ CutOk i.trims.length xs) ∧ 0 ≤ at_ ∧ at_ < i.len then (.tuple #[.int .i64 (heardS i.trims xs at_ at_), .int .i64 0] : Value) else .tuple #[.int .i64 0, .int .i64 70]) = r) := ⟨_, rfl⟩
  rw [HR.out]
  have HI := hide it
  have HCI := hide hC
  clear it hC
  go_enter Try.func32, Try.ntmps32
  go_upto_region 1 with fail
  obtain ⟨w1, hw1⟩ : ∃ x, w.alloc (.cells #[.int .i64 i.id, .int .i64 i.kind, .int .i64 i.len, .slice ta i.trims.length tc, .slice ka i.talks.length kc, .int .i64 i.artist, .int .i64 i.tempo, .int .i64 i.lang] 24) = x := ⟨_, rfl⟩
  have B1 := hide (show Blk w1 w.heap.size 24 [.int .i64 i.id, .int .i64 i.kind, .int .i64 i.len, .slice ta i.trims.length tc, .slice ka i.talks.length kc, .int .i64 i.artist, .int .i64 i.tempo, .int .i64 i.lang] by rw [← hw1]; exact Blk.new w _ _)
  have U1 := hide (show Upd [] w w1 by rw [← hw1]; exact (Upd.refl [] _).alloc _)
  rw [hw1]
  clear hw1
  have I1 := hide (HI.out.upd U1.out)
  have m0 := B1.out.cell 0
  have m1 := B1.out.cell 1
  have m2 := B1.out.cell 2
  have m3 := B1.out.cell 3
  have m4 := B1.out.cell 4
  have m5 := B1.out.cell 5
  have m6 := B1.out.cell 6
  have m7 := B1.out.cell 7
  go_wp2_with fail
  refine (refValid i ta tc ka kc w1 I1.out h1 h2).mono ?_
  rintro e w2 ⟨rfl, u⟩
  have B2 := hide (B1.out.upd u (by simp))
  have U2 := hide (U1.out.trans u (by simp))
  clear u
  clear m0 m1 m2 m3 m4 m5 m6 m7
  by_cases hv : ItOk i
  case neg =>
    rw [decide_eq_false hv]
    obtain rfl := HR.out.symm.trans (if_neg (fun h => hv h.1.1))
    clear hv
    go_wp2_with fail
    go_ret2
    exact ⟨rfl, U2.out⟩
  rw [decide_eq_true hv]
  have HV := hide hv
  clear hv
  have m0 := B2.out.cell 0
  have m1 := B2.out.cell 1
  have m2 := B2.out.cell 2
  have m3 := B2.out.cell 3
  have m4 := B2.out.cell 4
  have m5 := B2.out.cell 5
  have m6 := B2.out.cell 6
  have m7 := B2.out.cell 7
  go_wp2_with fail
  refine (refIsCut i ta tc ka kc a n c xs w2 (ints_upd HCI.out U2.out (Nat.le_refl _) (by simp)) hm).mono ?_
  rintro e w3 ⟨rfl, u⟩
  have B3 := hide (B2.out.upd u (by simp))
  have U3 := hide (U2.out.trans u (by simp))
  clear u
  clear m0 m1 m2 m3 m4 m5 m6 m7
  have ht4 := HV.out.2.1.1.2
  by_cases hc : CutR i.trims.length xs
  case neg =>
    rw [decide_eq_false hc]
    obtain rfl := HR.out.symm.trans (if_neg (fun h => hc ((cutR_iff ht4).2 h.1.2)))
    clear hc
    go_wp2_with fail
    go_ret2
    exact ⟨rfl, U3.out⟩
  rw [decide_eq_true hc]
  have HCO := hide ((cutR_iff ht4).1 hc)
  clear hc
  by_cases h0 : at_ < 0
  case pos =>
    obtain rfl := HR.out.symm.trans (if_neg (fun h => by have := h.2.1; omega))
    have h0d : decide (at_ < 0) = true := decide_eq_true h0
    go_wp2_with fail
    go_ret2
    exact ⟨rfl, U3.out⟩
  have h0d : decide (at_ < 0) = false := decide_eq_false h0
  have c2 := B3.out.cell 2
  by_cases h9 : i.len ≤ at_
  case pos =>
    obtain rfl := HR.out.symm.trans (if_neg (fun h => by have := h.2.2; omega))
    have h9d : decide (i.len ≤ at_) = true := decide_eq_true h9
    go_wp2_with fail
    go_ret2
    exact ⟨rfl, U3.out⟩
  have h9d : decide (i.len ≤ at_) = false := decide_eq_false h9
  clear c2
  have HROW := hide (cutOk_row HV.out HCO.out)
  have hlen := HV.out.1.2.2
  have I3 := hide (HI.out.upd U3.out)
  obtain ⟨v, hv⟩ : ∃ v, heardS i.trims xs at_ at_ = v := ⟨_, rfl⟩
  have hhe := heardS_eq i.trims at_ xs at_ 0 HROW.out
  rw [hv] at hhe
  have HRV := hide (HR.out.symm.trans (if_pos ⟨⟨HV.out, HCO.out⟩, by omega, by omega⟩))
  rw [hv] at HRV
  have HHE := hide hhe
  obtain rfl := HRV.out
  clear hv hhe HRV HR
  have m0 := B3.out.cell 0
  have m1 := B3.out.cell 1
  have m2 := B3.out.cell 2
  have m3 := B3.out.cell 3
  have m4 := B3.out.cell 4
  have m5 := B3.out.cell 5
  have m6 := B3.out.cell 6
  have m7 := B3.out.cell 7
  go_wp2_with fail
  refine (refOut i ta tc ka kc a n c xs at_ w3 I3.out ht4 HCO.out ((ints_upd HCI.out U3.out (Nat.le_refl _) (by simp)).mono U3.out.size)).mono ?_
  rintro e w4 ⟨rfl, u⟩
  have B4 := hide (B3.out.upd u (by simp))
  have U4 := hide (U3.out.trans u (by simp))
  clear u
  clear m0 m1 m2 m3 m4 m5 m6 m7
  by_cases hgo : Gone (cutSps i.trims xs) at_
  case pos =>
    rw [decide_eq_true hgo]
    have e := HHE.out
    rw [if_pos hgo] at e
    clear hgo
    subst e
    go_wp2_with fail
    go_ret2
    exact ⟨rfl, U4.out⟩
  rw [decide_eq_false hgo]
  have HE := hide (show v = at_ - porL (cutSps i.trims xs) at_ by have e := HHE.out; rwa [if_neg hgo] at e)
  clear hgo
  go_wp2_with fail
  go_loopw [8, 9] (fun s8 s9 wr => ∃ (k m : Int), (0 ≤ k ∧ k ≤ at_) ∧ s9 = .int .i64 k ∧ s8 = .int .i64 m ∧ (0 ≤ m ∧ m ≤ k) ∧ Hid (m = k - porL (cutSps i.trims xs) k) ∧ Hid (Upd [] w4 wr)) (fun _ k _ => (at_ - intOf k).toNat)
  case atStart => exact ⟨0, 0, by omega, rfl, rfl, by omega, hide (by rw [porL_low HROW.out 0 (Int.le_refl _)]; rfl), Upd.refl _ _⟩
  case round =>
    obtain ⟨k, m, ⟨hk0, hk1⟩, rfl, rfl, ⟨hm0, hm1⟩, hp, hu⟩ := hrel
    obtain ⟨wo, rfl⟩ : ∃ wo : World, wo = wr := ⟨_, rfl⟩
    have UO := hide (U4.out.trans hu.out (by simp))
    have BO := hide (B4.out.upd hu.out (by simp))
    have IO := hide (HI.out.upd UO.out)
    have m0 := BO.out.cell 0
    have m1 := BO.out.cell 1
    have m2 := BO.out.cell 2
    have m3 := BO.out.cell 3
    have m4 := BO.out.cell 4
    have m5 := BO.out.cell 5
    have m6 := BO.out.cell 6
    have m7 := BO.out.cell 7
    by_cases hkl : k < at_
    case neg =>
      have hka : k = at_ := by omega
      obtain rfl : m = v := by have := hp.out; have := HE.out; rw [hka] at *; omega
      have hki : ¬ k < at_ := hkl
      clear hka
      go_wp2_with fail
      go_ret2
      exact ⟨rfl, UO.out⟩
    have hwk : IntKind.i64.wrap (k + 1) = k + 1 := Go.IntWalk.i64_in _ (by omega)
    have hwm : IntKind.i64.wrap (m + 1) = m + 1 := Go.IntWalk.i64_in _ (by omega)
    go_wp2_with fail
    refine (refOut i ta tc ka kc a n c xs k wo IO.out ht4 HCO.out ((ints_upd HCI.out UO.out (Nat.le_refl _) (by simp)).mono UO.out.size)).mono ?_
    rintro e wp ⟨rfl, u⟩
    have UP := hide (UO.out.trans u (by simp))
    have VP := hide (hu.out.trans u (by simp))
    clear u
    clear m0 m1 m2 m3 m4 m5 m6 m7
    by_cases hg : Gone (cutSps i.trims xs) k
    case pos =>
      rw [decide_eq_true hg]
      have e := porL_gone HROW.out hg
      have HP := hide (show m = (k + 1) - porL (cutSps i.trims xs) (k + 1) by have := hp.out; omega)
      clear hg e
      go_wp2_with fail
      go_roundw
      case rel => exact ⟨k + 1, m, by omega, rfl, rfl, by omega, HP, VP⟩
      case measure => simp [intOf] <;> omega
    rw [decide_eq_false hg]
    have e := porL_step HROW.out k hg
    have HP := hide (show m + 1 = (k + 1) - porL (cutSps i.trims xs) (k + 1) by have := hp.out; omega)
    clear e hg
    go_wp2_with fail
    go_roundw
    case rel => exact ⟨k + 1, m + 1, by omega, rfl, rfl, by omega, HP, VP⟩
    case measure => simp [intOf] <;> omega
end Go.Proofs.Ytpkeimdlcafcnaa

namespace Go.Proofs.Ytpkeimdlcafcnaa

theorem tinv_low {s : Sp} {l : List Sp} {m : Int} (h : TInv (s :: l) m) : ∀ u ∈ l, s.to_ < u.fr := (List.pairwise_cons.1 h.2).1
theorem tinv_tail {s : Sp} {l : List Sp} {m : Int} (h : TInv (s :: l) m) : TInv l m := ⟨fun u hu => h.1 u (by simp [hu]), (List.pairwise_cons.1 h.2).2⟩
theorem tinv_first {s t : Sp} {l l' : List Sp} {m m' : Int} (h : TInv (s :: l) m) (h' : TInv (t :: l') m') (hg : ∀ a, Gone (s :: l) a → Gone (t :: l') a) : t.fr ≤ s.fr := by
  have hs := h.1 s (by simp)
  obtain ⟨u, hu, h1⟩ := hg s.fr ⟨s, by simp, by omega⟩
  rcases List.mem_cons.1 hu with rfl | hu
  · exact h1.1
  · have := tinv_low h' u hu
    have := h'.1 t (by simp)
    omega
theorem tinv_last {s t : Sp} {l l' : List Sp} {m m' : Int} (h : TInv (s :: l) m) (_h' : TInv (t :: l') m') (hf : t.fr = s.fr) (hg : ∀ a, Gone (t :: l') a → Gone (s :: l) a) : t.to_ ≤ s.to_ := by
  refine Int.not_lt.1 fun hlt => ?_
  have hs := h.1 s (by simp)
  obtain ⟨u, hu, h1⟩ := hg s.to_ ⟨t, by simp, by omega⟩
  rcases List.mem_cons.1 hu with rfl | hu
  · omega
  · have := tinv_low h u hu
    omega
theorem tinv_rest {s : Sp} {l l' : List Sp} {m m' : Int} (h : TInv (s :: l) m) (_h' : TInv (s :: l') m') (hg : ∀ a, Gone (s :: l) a → Gone (s :: l') a) : ∀ a, Gone l a → Gone l' a := by
  rintro a ⟨u, hu, h1⟩
  have h2 := tinv_low h u hu
  obtain ⟨v, hv, h3⟩ := hg a ⟨u, by simp [hu], h1⟩
  rcases List.mem_cons.1 hv with rfl | hv
  · omega
  · exact ⟨v, hv, h3⟩
theorem tinv_uniq : ∀ {l l' : List Sp} {m m' : Int}, TInv l m → TInv l' m' → (∀ a, Gone l a ↔ Gone l' a) → l = l'
  | [], [], _, _, _, _, _ => rfl
  | [], t :: l', _, _, _, h', hg => by
    have ht := h'.1 t (by simp)
    obtain ⟨u, hu, _⟩ := (hg t.fr).2 ⟨t, by simp, by omega⟩
    simp at hu
  | s :: l, [], _, _, h, _, hg => by
    have hs := h.1 s (by simp)
    obtain ⟨u, hu, _⟩ := (hg s.fr).1 ⟨s, by simp, by omega⟩
    simp at hu
  | s :: l, t :: l', _, _, h, h', hg => by
    have e1 : t.fr = s.fr := Int.le_antisymm (tinv_first h h' fun a => (hg a).1) (tinv_first h' h fun a => (hg a).2)
    have e2 : t.to_ = s.to_ := Int.le_antisymm (tinv_last h h' e1 fun a => (hg a).2) (tinv_last h' h e1.symm fun a => (hg a).1)
    obtain rfl : s = t := by cases s; cases t; simp only at e1 e2; rw [e1, e2]
    rw [tinv_uniq (tinv_tail h) (tinv_tail h') fun a => ⟨tinv_rest h h' (fun a => (hg a).1) a, tinv_rest h' h (fun a => (hg a).2) a⟩]
end Go.Proofs.Ytpkeimdlcafcnaa

namespace Go.Proofs.Ytpkeimdlcafcnaa

/-- What the reference's Talk has when it comes to a second. -/
def RTInv (c ts L : List Sp) (k n : Int) : Prop := n = k - porL c k ∧ 0 ≤ n ∧ n ≤ k ∧ TInv L n ∧ ∀ a, Gone L a ↔ ∃ s, 0 ≤ s ∧ s < k ∧ ¬ Gone c s ∧ Gone ts s ∧ s - porL c s = a
theorem rt_start {c ts : List Sp} (h : Row 0 c) : RTInv c ts [] 0 0 := by
  refine ⟨by rw [porL_low h 0 (Int.le_refl _)]; rfl, Int.le_refl _, Int.le_refl _, ⟨fun s hs => by simp at hs, by simp⟩, fun a => ⟨?_, ?_⟩⟩
  · rintro ⟨s, hs, _⟩; simp at hs
  · rintro ⟨s, h1, h2, _⟩; omega
theorem rt_gone {c ts L : List Sp} {k n : Int} (h : Row 0 c) (hi : RTInv c ts L k n) (hg : Gone c k) : RTInv c ts L (k + 1) n := by
  obtain ⟨e, h0, h1, ht, hs⟩ := hi
  refine ⟨by rw [porL_gone h hg]; omega, h0, by omega, ht, fun a => ?_⟩
  rw [hs]
  constructor
  · rintro ⟨s, g0, g1, g⟩; exact ⟨s, g0, by omega, g⟩
  · rintro ⟨s, g0, g1, g⟩
    refine ⟨s, g0, ?_, g⟩
    by_cases e : s = k
    · subst e; exact absurd hg g.1
    · omega
theorem rt_skip {c ts L : List Sp} {k n : Int} (h : Row 0 c) (hi : RTInv c ts L k n) (hg : ¬ Gone c k) (hk : ¬ Gone ts k) : RTInv c ts L (k + 1) (n + 1) := by
  obtain ⟨e, h0, h1, ht, hs⟩ := hi
  refine ⟨by rw [porL_step h k hg]; omega, by omega, by omega, ht.weak (by omega), fun a => ?_⟩
  rw [hs]
  constructor
  · rintro ⟨s, g0, g1, g⟩; exact ⟨s, g0, by omega, g⟩
  · rintro ⟨s, g0, g1, g⟩
    refine ⟨s, g0, ?_, g⟩
    by_cases e : s = k
    · subst e; exact absurd g.2.1 hk
    · omega
theorem rt_talk {c ts L : List Sp} {k n : Int} (h : Row 0 c) (hi : RTInv c ts L k n) (h0k : 0 ≤ k) (hg : ¬ Gone c k) (hk : Gone ts k) : RTInv c ts (talkStep id L ⟨n, n + 1⟩) (k + 1) (n + 1) := by
  obtain ⟨e, h0, h1, ht, hs⟩ := hi
  obtain ⟨t1, t2, _⟩ := tstep (f := id) (t := ⟨n, n + 1⟩) ht h0 (Int.le_refl _) (show n ≤ n + 1 by omega)
  refine ⟨by rw [porL_step h k hg]; omega, by omega, by omega, t1, fun a => ?_⟩
  rw [t2, hs]
  show _ ∨ (n ≤ a ∧ a < n + 1) ↔ _
  constructor
  · rintro (⟨s, g0, g1, g⟩ | g)
    · exact ⟨s, g0, by omega, g⟩
    · exact ⟨k, h0k, by omega, hg, hk, by omega⟩
  · rintro ⟨s, g0, g1, g⟩
    by_cases es : s = k
    · subst es
      have := g.2.2
      exact .inr (by omega)
    · exact .inl ⟨s, g0, by omega, g⟩
theorem unitStep_nil (n : Int) : talkStep id [] ⟨n, n + 1⟩ = [⟨n, n + 1⟩] := by
  unfold talkStep
  show (if n = n + 1 then _ else _) = _
  rw [if_neg (show ¬ n = n + 1 by omega)]
  rfl
theorem unitStep_join (l : List Sp) (r : Sp) (n : Int) (h : r.to_ = n) : talkStep id (l ++ [r]) ⟨n, n + 1⟩ = l ++ [⟨r.fr, n + 1⟩] := by
  unfold talkStep
  show (if n = n + 1 then _ else _) = _
  rw [if_neg (show ¬ n = n + 1 by omega), List.getLast?_concat]
  show (if r.to_ = n then _ else _) = _
  rw [if_pos h, List.dropLast_concat]
  rfl
theorem unitStep_new (l : List Sp) (r : Sp) (n : Int) (h : ¬ r.to_ = n) : talkStep id (l ++ [r]) ⟨n, n + 1⟩ = (l ++ [r]) ++ [⟨n, n + 1⟩] := by
  unfold talkStep
  show (if n = n + 1 then _ else _) = _
  rw [if_neg (show ¬ n = n + 1 by omega), List.getLast?_concat]
  show (if r.to_ = n then _ else _) = _
  rw [if_neg h]
  rfl
/-- What Talk answers, for any cut. -/
theorem talk_any {i : It} (h : ItOk i) {cut : List Int} (hc : CutOk i.trims.length cut) :
    TInv (talkS (beforeS i.trims cut) i.talks) (cutLen i cut) ∧ ∀ a, Gone (talkS (beforeS i.trims cut) i.talks) a ↔ ∃ t ∈ i.talks, beforeS i.trims cut t.fr ≤ a ∧ a < beforeS i.trims cut t.to_ := by
  have hr := cutOk_row h hc
  have hB0 : beforeS i.trims cut 0 = 0 := by rw [beforeS_eq, porL_low hr 0 (Int.le_refl _)]; rfl
  have hBn : beforeS i.trims cut i.len = cutLen i cut := by rw [beforeS_eq, cutLen_por h hc]
  have hl := h.1.2.2
  obtain ⟨h1, h2, _⟩ := talk_gen (before_mono hr) i.talks 0 [] (talks_row h) (by omega) ⟨fun s hs => by simp at hs, by simp⟩ (cutLen i cut)
    (by rw [← hBn]; exact before_mono hr _ _ (by omega)) fun t ht => by rw [← hBn]; exact before_mono hr _ _ (talks_to h t ht).2.2
  refine ⟨h1, fun a => ?_⟩
  unfold talkS
  rw [h2]
  exact ⟨fun h => h.elim (fun ⟨_, h, _⟩ => by simp at h) id, .inr⟩
theorem rt_end {i : It} (h : ItOk i) {cut : List Int} (hc : CutOk i.trims.length cut) {L : List Sp} {n : Int} (hi : RTInv (cutSps i.trims cut) i.talks L i.len n) : L = talkS (beforeS i.trims cut) i.talks := by
  have hr := cutOk_row h hc
  obtain ⟨t1, t2⟩ := talk_any h hc
  obtain ⟨_, _, _, ht, hs⟩ := hi
  refine tinv_uniq ht t1 fun a => ?_
  rw [hs, t2]
  constructor
  · rintro ⟨s, g0, g1, g2, ⟨t, hm, g3, g4⟩, g5⟩
    refine ⟨t, hm, ?_, ?_⟩
    · have := before_mono hr t.fr s g3
      rw [beforeS_eq _ _ s] at this
      omega
    · have := before_mono hr (s + 1) t.to_ (by omega)
      rw [beforeS_eq _ _ (s + 1), porL_step hr s g2] at this
      omega
  · rintro ⟨t, hm, g3, g4⟩
    obtain ⟨_, s2, s3⟩ := placeL_spec hr a
    obtain ⟨p, hp⟩ : ∃ p, placeL (cutSps i.trims cut) a = p := ⟨_, rfl⟩
    rw [hp] at s2 s3
    have htt := talks_to h t hm
    have b1 : beforeS i.trims cut p = a := by rw [beforeS_eq]; exact s3
    have b2 : beforeS i.trims cut (p + 1) = a + 1 := by rw [beforeS_eq, porL_step hr p s2]; omega
    have k1 : t.fr ≤ p := by
      refine Int.not_lt.1 fun hlt => ?_
      have := before_mono hr (p + 1) t.fr (by omega)
      omega
    have k2 : p < t.to_ := by
      refine Int.not_le.1 fun hle => ?_
      have := before_mono hr t.to_ p hle
      omega
    exact ⟨p, by omega, by omega, s2, ⟨t, hm, k1, k2⟩, s3⟩
end Go.Proofs.Ytpkeimdlcafcnaa

namespace Go.Proofs.Ytpkeimdlcafcnaa
open Go.RowKit
set_option maxRecDepth 100000
set_option maxHeartbeats 40000000

theorem refTalk (i : It) (ta : Option Addr) (tc : Nat) (ka : Option Addr) (kc : Nat) (a : Option Addr) (n c : Nat) (xs : List Int) (w : World) (it : ItAt w i ta ka) (h1 : i.trims.length ≤ maxLen) (h2 : i.talks.length ≤ maxLen) (hC : Ints w.heap.size w (.slice a n c) xs) (hm : n ≤ maxLen) :
    Calls Try.prog 27 #[.agg #[.int .i64 i.id, .int .i64 i.kind, .int .i64 i.len, .slice ta i.trims.length tc, .slice ka i.talks.length kc, .int .i64 i.artist, .int .i64 i.tempo, .int .i64 i.lang], .slice a n c] w (TalkPost i xs w) := by
  have HI := hide it
  have HCI := hide hC
  clear it hC
  go_enter Try.func27, Try.ntmps27
  go_upto_region 1 with fail
  obtain ⟨w1, hw1⟩ : ∃ x, w.alloc (.cells #[.int .i64 i.id, .int .i64 i.kind, .int .i64 i.len, .slice ta i.trims.length tc, .slice ka i.talks.length kc, .int .i64 i.artist, .int .i64 i.tempo, .int .i64 i.lang] 24) = x := ⟨_, rfl⟩
  have B1 := hide (show Blk w1 w.heap.size 24 [.int .i64 i.id, .int .i64 i.kind, .int .i64 i.len, .slice ta i.trims.length tc, .slice ka i.talks.length kc, .int .i64 i.artist, .int .i64 i.tempo, .int .i64 i.lang] by rw [← hw1]; exact Blk.new w _ _)
  have U1 := hide (show Upd [] w w1 by rw [← hw1]; exact (Upd.refl [] _).alloc _)
  rw [hw1]
  clear hw1
  have I1 := hide (HI.out.upd U1.out)
  have m0 := B1.out.cell 0
  have m1 := B1.out.cell 1
  have m2 := B1.out.cell 2
  have m3 := B1.out.cell 3
  have m4 := B1.out.cell 4
  have m5 := B1.out.cell 5
  have m6 := B1.out.cell 6
  have m7 := B1.out.cell 7
  go_wp2_with fail
  refine (refValid i ta tc ka kc w1 I1.out h1 h2).mono ?_
  rintro e w2 ⟨rfl, u⟩
  have B2 := hide (B1.out.upd u (by simp))
  have U2 := hide (U1.out.trans u (by simp))
  clear u
  clear m0 m1 m2 m3 m4 m5 m6 m7
  by_cases hv : ItOk i
  case neg =>
    rw [decide_eq_false hv]
    have HP := hide (show ∀ w', Upd [] w w' → TalkPost i xs w (.returned (.tuple #[.slice none 0 0, .int .i64 70])) w' from fun w' h => by
      unfold TalkPost
      rw [if_neg (fun h => hv h.1)]
      exact ⟨rfl, h⟩)
    clear hv
    go_wp2_with fail
    go_ret2
    exact HP.out _ U2.out
  rw [decide_eq_true hv]
  have HV := hide hv
  clear hv
  have m0 := B2.out.cell 0
  have m1 := B2.out.cell 1
  have m2 := B2.out.cell 2
  have m3 := B2.out.cell 3
  have m4 := B2.out.cell 4
  have m5 := B2.out.cell 5
  have m6 := B2.out.cell 6
  have m7 := B2.out.cell 7
  go_wp2_with fail
  refine (refIsCut i ta tc ka kc a n c xs w2 (ints_upd HCI.out U2.out (Nat.le_refl _) (by simp)) hm).mono ?_
  rintro e w3 ⟨rfl, u⟩
  have B3 := hide (B2.out.upd u (by simp))
  have U3 := hide (U2.out.trans u (by simp))
  clear u
  clear m0 m1 m2 m3 m4 m5 m6 m7
  have ht4 := HV.out.2.1.1.2
  by_cases hc : CutR i.trims.length xs
  case neg =>
    rw [decide_eq_false hc]
    have HP := hide (show ∀ w', Upd [] w w' → TalkPost i xs w (.returned (.tuple #[.slice none 0 0, .int .i64 70])) w' from fun w' h => by
      unfold TalkPost
      rw [if_neg (fun h => hc ((cutR_iff ht4).2 h.2))]
      exact ⟨rfl, h⟩)
    clear hc
    go_wp2_with fail
    go_ret2
    exact HP.out _ U3.out
  rw [decide_eq_true hc]
  have HCO := hide ((cutR_iff ht4).1 hc)
  clear hc
  have HP := hide (show ∀ v w', w'.ownsRow w.heap.size 53 2 v (talkS (beforeS i.trims xs) i.talks).length (spCells (talkS (beforeS i.trims xs) i.talks)) → Upd [] w w' → TalkPost i xs w (.returned (.tuple #[v, .int .i64 0])) w' from fun v w' h1 h2 => by
    unfold TalkPost
    rw [if_pos ⟨HV.out, HCO.out⟩]
    exact ⟨v, rfl, h1, h2⟩)
  have HROW := hide (cutOk_row HV.out HCO.out)
  have hlen := HV.out.1.2.2
  have HS3 := hide U3.out.size
  go_wp2_with fail
  go_loopw [6, 7, 8] (fun s6 s7 s8 wr => ∃ (A : Option Addr) (ln lc : Nat) (L : List Sp) (k m : Int), (0 ≤ k ∧ k ≤ i.len) ∧ s6 = .slice A ln lc ∧ s7 = .int .i64 m ∧ s8 = .int .i64 k ∧ (0 ≤ m ∧ m ≤ k) ∧ (ln : Int) ≤ k ∧ Hid (RTInv (cutSps i.trims xs) i.talks L k m) ∧ Hid (ln = L.length) ∧ Hid (wr.ownsRow w3.heap.size 53 2 (.slice A ln lc) ln (spCells L)) ∧ Hid (Upd [] w3 wr)) (fun _ _ k _ => (i.len - intOf k).toNat)
  case atStart => exact ⟨none, 0, 0, [], 0, 0, by omega, rfl, rfl, rfl, by omega, by omega, hide (rt_start HROW.out), hide rfl, hide (World.ownsRow_nil _ _ _ _), Upd.refl _ _⟩
  case round =>
    obtain ⟨A, ln, lc, L, k, m, ⟨hk0, hk1⟩, rfl, rfl, rfl, ⟨hm0, hm1⟩, hlk, hinv, hnL, hown, hu⟩ := hrel
    obtain ⟨wo, rfl⟩ : ∃ wo : World, wo = wr := ⟨_, rfl⟩
    have UO := hide (U3.out.trans hu.out (by simp))
    have BO := hide (B3.out.upd hu.out (by simp))
    have IO := hide (HI.out.upd UO.out)
    have m0 := BO.out.cell 0
    have m1 := BO.out.cell 1
    have m2 := BO.out.cell 2
    have m3 := BO.out.cell 3
    have m4 := BO.out.cell 4
    have m5 := BO.out.cell 5
    have m6 := BO.out.cell 6
    have m7 := BO.out.cell 7
    by_cases hkl : k < i.len
    case neg =>
      obtain rfl : k = i.len := by omega
      have hki : ¬ i.len < i.len := by omega
      have HE := hide (rt_end HV.out HCO.out hinv.out)
      go_wp2_with fail
      go_ret2
      refine HP.out _ _ ?_ UO.out
      rw [← HE.out, ← hnL.out]
      exact it_own_less hown.out HS3.out
    have hwk : IntKind.i64.wrap (k + 1) = k + 1 := Go.IntWalk.i64_in _ (by omega)
    have hwm : IntKind.i64.wrap (m + 1) = m + 1 := Go.IntWalk.i64_in _ (by omega)
    go_wp2_with fail
    refine (refOut i ta tc ka kc a n c xs k wo IO.out ht4 HCO.out ((ints_upd HCI.out UO.out (Nat.le_refl _) (by simp)).mono UO.out.size)).mono ?_
    rintro e wp ⟨rfl, u⟩
    have UP := hide (UO.out.trans u (by simp))
    have VP := hide (hu.out.trans u (by simp))
    have BP := hide (BO.out.upd u (by simp))
    have OP := hide (own_kept hown.out u (by simp))
    clear u
    clear m0 m1 m2 m3 m4 m5 m6 m7
    by_cases hg : Gone (cutSps i.trims xs) k
    case pos =>
      rw [decide_eq_true hg]
      have HN := hide (rt_gone HROW.out hinv.out hg)
      clear hg
      go_wp2_with fail
      go_roundw
      case rel => exact ⟨A, ln, lc, L, k + 1, m, by omega, rfl, rfl, rfl, by omega, by omega, HN, hnL, OP, VP⟩
      case measure => simp [intOf] <;> omega
    rw [decide_eq_false hg]
    have HG := hide hg
    clear hg
    have IP := hide (HI.out.upd UP.out)
    have m0 := BP.out.cell 0
    have m1 := BP.out.cell 1
    have m2 := BP.out.cell 2
    have m3 := BP.out.cell 3
    have m4 := BP.out.cell 4
    have m5 := BP.out.cell 5
    have m6 := BP.out.cell 6
    have m7 := BP.out.cell 7
    go_wp2_with fail
    refine (refIn ka i.talks.length kc i.talks k wp IP.out.talks rfl h2).mono ?_
    rintro e wq ⟨rfl, u⟩
    have UQ := hide (UP.out.trans u (by simp))
    have VQ := hide (VP.out.trans u (by simp))
    have OQ := hide (own_kept OP.out u (by simp))
    clear u
    clear m0 m1 m2 m3 m4 m5 m6 m7
    by_cases ht : Gone i.talks k
    case neg =>
      rw [decide_eq_false ht]
      have HN := hide (rt_skip HROW.out hinv.out HG.out ht)
      clear ht
      go_wp2_with fail
      go_roundw
      case rel => exact ⟨A, ln, lc, L, k + 1, m + 1, by omega, rfl, rfl, rfl, by omega, by omega, HN, hnL, OQ, VQ⟩
      case measure => simp [intOf] <;> omega
    rw [decide_eq_true ht]
    have HN := hide (rt_talk HROW.out hinv.out hk0 HG.out ht)
    clear ht
    have O1 := hide (show ∀ u ∈ [Value.int .i64 m, Value.int .i64 (m + 1)], u.oneCell' = true by simp [Value.oneCell'])
    have O3 := hide (show ln + 1 ≤ maxLen by unfold maxLen; omega)
    have O4 := hide (show (ln + 1) * 16 ≤ 140737488355328 by omega)
    have OB := hide (OQ.out.alloc (.cells #[.int .i64 m, .int .i64 (m + 1)] 53))
    have OS := hide (show w3.heap.size ≤ (wq.alloc (.cells #[.int .i64 m, .int .i64 (m + 1)] 53)).heap.size by have := VQ.out.size; rw [World.size_alloc]; omega)
    have AP := hide (show ∀ A5 c5 w5, w5.ownsRow w3.heap.size 53 2 (.slice A5 (ln + 1) c5) (ln + 1) (spCells L ++ [.int .i64 m, .int .i64 (m + 1)]) → Upd (A.map (·.block)).toList (wq.alloc (.cells #[.int .i64 m, .int .i64 (m + 1)] 53)) w5 → (ln + 1 = (L ++ [(⟨m, m + 1⟩ : Sp)]).length ∧ w5.ownsRow w3.heap.size 53 2 (.slice A5 (ln + 1) c5) (ln + 1) (spCells (L ++ [(⟨m, m + 1⟩ : Sp)])) ∧ Upd [] w3 w5) from fun A5 c5 w5 h5 u5 => ⟨by rw [List.length_append, hnL.out]; rfl, by rw [spCells_append]; exact h5, (VQ.out.alloc _).trans u5 (fun z hz => .inr (it_own_block OQ.out z (by rw [ownBlock_slice]; simpa using hz)))⟩)
    rcases Nat.eq_zero_or_pos ln with hn0 | hn0
    · subst hn0
      have hL0 : L = [] := List.eq_nil_of_length_eq_zero hnL.out.symm
      have HN2 := hide (show RTInv (cutSps i.trims xs) i.talks (L ++ [⟨m, m + 1⟩]) (k + 1) (m + 1) by
        have h := HN.out
        rw [hL0, unitStep_nil] at h
        rw [hL0]
        exact h)
      clear hL0
      go_wp2_with (at_builtin; refine wpList_append_base rfl (.tmp 56) (.tmp 61) _ rfl w3.heap.size 53 _ 2 16 Try.underlying22 it_info_spell rfl (by decide) A 0 lc _ rfl OB.out ⟨_, 0, none⟩ 1 1 [.int .i64 m, .int .i64 (m + 1)] rfl rfl (cell_two_new _ _ _ _) O1.out O3.out O4.out OS.out ?_; intro A5 c5 w5 h5 u5 _; have H5 := hide (AP.out A5 c5 w5 h5 u5); clear h5 u5)
      go_roundw
      case rel => exact ⟨A5, 1, c5, L ++ [⟨m, m + 1⟩], k + 1, m + 1, by omega, rfl, rfl, rfl, by omega, by omega, HN2, hide H5.out.1, hide H5.out.2.1, hide H5.out.2.2⟩
      case measure => simp [intOf] <;> omega
    · obtain ⟨g, cur, hA, hgb, hgc⟩ := it_own_some OQ.out hn0
      subst hA
      obtain ⟨q, hq⟩ : ∃ q, q + 1 = ln := ⟨ln - 1, by omega⟩
      subst hq
      have hLne : L ≠ [] := fun h => by have := hnL.out; rw [h] at this; cases this
      obtain ⟨L', r, hLL⟩ : ∃ L' r, L' ++ [r] = L := ⟨L.dropLast, L.getLast hLne, List.dropLast_concat_getLast hLne⟩
      subst hLL
      have hL'm : L'.length = q := by have := hnL.out; simp at this; omega
      have HLM := hide hL'm
      have hcell : wq.cell? ⟨g, q * 2 + 1, none⟩ = some (.int .i64 r.to_) := by
        have h1 := World.ownsRow.cells OQ.out (g := g) rfl (q * 2 + 1) (.int .i64 r.to_) (by
          have := (spCells_at (l := L' ++ [r]) (k := q) (s := r) (by simp [hL'm])).2
          simpa using this)
        have e : (⟨g, 0, none⟩ : Addr).add (q * 2 + 1) = ⟨g, q * 2 + 1, none⟩ := by unfold Addr.add; split <;> simp_all
        rwa [e] at h1
      have hfro : wq.frozen? ⟨g, q * 2 + 1, none⟩ = false := by simp [World.frozen?, hgc]
      have HGB := hide hgb
      have hwq : IntKind.i64.wrap ((q : Int) + 1 - 1) = (q : Int) := by rw [Go.IntWalk.i64_in _ (by omega)]; omega
      have hwq2 : IntKind.i64.wrap (q : Int) = (q : Int) := Go.IntWalk.i64_in _ (by omega)
      have hq0 : 0 < (q : Int) + 1 := by omega
      have hq1 : (q : Int) < (q : Int) + 1 := by omega
      clear hLne hL'm hgc hgb
      by_cases hrx : r.to_ = m
      · have hrxb : (r.to_ == m) = true := by simpa using hrx
        have HN2 := hide (show RTInv (cutSps i.trims xs) i.talks (L' ++ [⟨r.fr, m + 1⟩]) (k + 1) (m + 1) by
          have h := HN.out
          rw [unitStep_join _ _ _ hrx] at h
          exact h)
        have HS := hide (spCells_setLast L' r q (m + 1) HLM.out)
        clear hrx
        go_wp2_with fail
        go_roundw
        case rel => exact ⟨some ⟨g, 0, none⟩, q + 1, lc, L' ++ [⟨r.fr, m + 1⟩], k + 1, m + 1, by omega, rfl, rfl, rfl, by omega, by omega, HN2, hide (by have := hnL.out; simpa using this), hide (by
            rw [← HS.out]
            exact it_own_set OQ.out _ _), hide (VQ.out.setCell (.inr HGB.out) _)⟩
        case measure => simp [intOf] <;> omega
      · have hrxb : (r.to_ == m) = false := by simpa using hrx
        have HN2 := hide (show RTInv (cutSps i.trims xs) i.talks ((L' ++ [r]) ++ [⟨m, m + 1⟩]) (k + 1) (m + 1) by
          have h := HN.out
          rw [unitStep_new _ _ _ hrx] at h
          exact h)
        clear hrx
        go_wp2_with (at_builtin; refine wpList_append_base rfl (.tmp 56) (.tmp 61) _ rfl w3.heap.size 53 _ 2 16 Try.underlying22 it_info_spell rfl (by decide) (some ⟨g, 0, none⟩) (q + 1) lc _ rfl OB.out ⟨_, 0, none⟩ 1 1 [.int .i64 m, .int .i64 (m + 1)] rfl rfl (cell_two_new _ _ _ _) O1.out O3.out O4.out OS.out ?_; intro A5 c5 w5 h5 u5 _; have H5 := hide (AP.out A5 c5 w5 h5 u5); clear h5 u5)
        go_roundw
        case rel => exact ⟨A5, q + 1 + 1, c5, (L' ++ [r]) ++ [⟨m, m + 1⟩], k + 1, m + 1, by omega, rfl, rfl, rfl, by omega, by omega, HN2, hide H5.out.1, hide H5.out.2.1, hide H5.out.2.2⟩
        case measure => simp [intOf] <;> omega
end Go.Proofs.Ytpkeimdlcafcnaa
