/-
  The chapter's example: what each function says of it.
-/
import Derived.Test.YtpkeimdlcafcnaaIMade2
import Derived.Test.YtpkeimdlcafcnaaIPlainL
import Derived.Test.YtpkeimdlcafcnaaICut
import Derived.Test.YtpkeimdlcafcnaaIEncode
namespace Go.Proofs.Ytpkeimdlcafcnaa
open Go.RowKit
set_option maxRecDepth 100000
set_option maxHeartbeats 4000000

def exS : It := ⟨3, 1, 200, [⟨10, 30⟩, ⟨150, 180⟩], [⟨0, 15⟩, ⟨170, 200⟩], 7, 3, 2⟩
theorem exOk : ItOk exS := by decide
theorem ex_lengths : lengthsS exS = [150, 170, 180, 200] := by
  refine asc_ext (lengthsS_asc exS) (by decide) fun x => ?_
  rw [mem_lengthsS, show allLens exS = [200, 180, 170, 150] by decide]
  simp only [List.mem_cons, List.not_mem_nil, or_false]
  omega
theorem ex_best1 : bestOf exS 170 (List.range (2 ^ exS.trims.length)) = some [1] := by decide
theorem ex_best2 : bestOf exS 160 (List.range (2 ^ exS.trims.length)) = none := by decide
theorem putS_len (x : Int) (h0 : 0 ≤ x) (h1 : x < 8192) : (putS x).length = if x < 64 then 1 else 2 := by
  unfold putS
  rw [List.length_map]
  have e : zigS x = (2 * x).toNat := by unfold zigS; rw [if_neg (by omega)]
  rw [e]
  by_cases h : x < 64
  · rw [if_pos h, groupsS_last (by omega)]
    rfl
  · rw [if_neg h, groupsS_more (by omega), groupsS_last (by omega)]
    rfl
theorem ex_enc : (ByteArray.mk (encS exS).toArray).size = 21 := by
  have e : allS exS = [3, 1, 200, 7, 3, 2, 2, 10, 30, 150, 180, 2, 0, 15, 170, 200] := by decide
  have e2 : (ByteArray.mk (encS exS).toArray).size = (encS exS).length := by simp [ByteArray.size]
  rw [e2]
  unfold encS
  rw [e]
  simp only [List.flatMap_cons, List.flatMap_nil, List.length_append, List.length_nil]
  rw [putS_len 3 (by omega) (by omega), putS_len 1 (by omega) (by omega), putS_len 200 (by omega) (by omega), putS_len 7 (by omega) (by omega), putS_len 2 (by omega) (by omega), putS_len 10 (by omega) (by omega), putS_len 30 (by omega) (by omega), putS_len 150 (by omega) (by omega), putS_len 180 (by omega) (by omega), putS_len 0 (by omega) (by omega), putS_len 15 (by omega) (by omega), putS_len 170 (by omega) (by omega)]
  decide
theorem it_lit_ints (w : World) (cs : List Int) (n : Nat) (hn : cs.length = n) : Ints (w.alloc (.cells (cs.map (Value.int .i64)).toArray 3)).heap.size (w.alloc (.cells (cs.map (Value.int .i64)).toArray 3)) (.slice (some ⟨w.heap.size, 0, none⟩) n n) cs := by
  subst hn
  refine .inr ⟨w.heap.size, 0, cs.length, rfl, by simp, fun j hj => ?_⟩
  have := (Blk.new w 3 (cs.map (Value.int .i64))).cell j
  rw [Nat.zero_add, this, List.getElem?_map, List.getElem?_eq_getElem hj]
  rfl
theorem lit_sps (w : World) (l : List Sp) : SpsAt (w.alloc (.cells (spCells l).toArray 53)).heap.size (w.alloc (.cells (spCells l).toArray 53)) (some ⟨w.heap.size, 0, none⟩) l := by
  intro k s hs
  obtain ⟨h1, h2⟩ := spCells_at hs
  have B := Blk.new w 53 (spCells l)
  exact ⟨w.heap.size, 0, rfl, by simp, by rw [Nat.zero_add, B.cell, h1], by rw [Nat.zero_add, B.cell, h2]⟩

/-! Any recording in memory: the functions at it, in whatever world behind. -/
section
variable {W : World} {i : It} {ta ka : Option Addr}
theorem use_valid (h : ItAt W i ta ka) (hok : ItOk i) (tc kc : Nat) : Calls Try.prog 12 #[.agg #[.int .i64 i.id, .int .i64 i.kind, .int .i64 i.len, .slice ta i.trims.length tc, .slice ka i.talks.length kc, .int .i64 i.artist, .int .i64 i.tempo, .int .i64 i.lang]] W fun e w' => e = .returned (.bool true) ∧ Upd [] W w' := by
  have := valid_it i ta tc ka kc W h.trims h.talks (Nat.le_refl _) (by have := hok.2.1.1.2; unfold maxLen; omega) (by have := hok.2.1.2.2; unfold maxLen; omega)
  rwa [decide_eq_true hok] at this
theorem use_length (h : ItAt W i ta ka) (hok : ItOk i) (tc kc : Nat) (ca : Option Addr) (cn cc : Nat) (cut : List Int) (hC : Ints W.heap.size W (.slice ca cn cc) cut) (hc : CutOk i.trims.length cut) (n : Int) (hn : cutLen i cut = n) :
    Calls Try.prog 24 #[.agg #[.int .i64 i.id, .int .i64 i.kind, .int .i64 i.len, .slice ta i.trims.length tc, .slice ka i.talks.length kc, .int .i64 i.artist, .int .i64 i.tempo, .int .i64 i.lang], .slice ca cn cc] W fun e w' => e = .returned (.tuple #[.int .i64 n, .int .i64 0]) ∧ Upd [] W w' := by
  have := itemLength i ta tc ka kc ca cn cc cut W h.trims h.talks (Nat.le_refl _) (by have := hok.2.1.1.2; unfold maxLen; omega) (by have := hok.2.1.2.2; unfold maxLen; omega) hC (Nat.le_refl _) (by have := hC.form.1; have := hc.2; unfold maxLen; omega)
  rwa [if_pos ⟨hok, hc⟩, hn] at this
theorem use_place (h : ItAt W i ta ka) (hok : ItOk i) (tc kc : Nat) (ca : Option Addr) (cn cc : Nat) (cut : List Int) (hC : Ints W.heap.size W (.slice ca cn cc) cut) (hc : CutOk i.trims.length cut) (at_ n : Int) (h0 : 0 ≤ at_) (h1 : at_ < cutLen i cut) (hn : placeS i.trims cut at_ = n) :
    Calls Try.prog 29 #[.agg #[.int .i64 i.id, .int .i64 i.kind, .int .i64 i.len, .slice ta i.trims.length tc, .slice ka i.talks.length kc, .int .i64 i.artist, .int .i64 i.tempo, .int .i64 i.lang], .slice ca cn cc, .int .i64 at_] W fun e w' => e = .returned (.tuple #[.int .i64 n, .int .i64 0]) ∧ Upd [] W w' := by
  have := itemPlace i ta tc ka kc ca cn cc cut at_ W h.trims h.talks (Nat.le_refl _) (by have := hok.2.1.1.2; unfold maxLen; omega) (by have := hok.2.1.2.2; unfold maxLen; omega) hC (Nat.le_refl _) (by have := hC.form.1; have := hc.2; unfold maxLen; omega)
  rwa [if_pos ⟨⟨hok, hc⟩, h0, h1⟩, hn] at this
theorem use_noplace (h : ItAt W i ta ka) (hok : ItOk i) (tc kc : Nat) (ca : Option Addr) (cn cc : Nat) (cut : List Int) (hC : Ints W.heap.size W (.slice ca cn cc) cut) (hcl : cut.length ≤ 4) (at_ : Int) (h1 : cutLen i cut ≤ at_) :
    Calls Try.prog 29 #[.agg #[.int .i64 i.id, .int .i64 i.kind, .int .i64 i.len, .slice ta i.trims.length tc, .slice ka i.talks.length kc, .int .i64 i.artist, .int .i64 i.tempo, .int .i64 i.lang], .slice ca cn cc, .int .i64 at_] W fun e w' => e = .returned (.tuple #[.int .i64 0, .int .i64 70]) ∧ Upd [] W w' := by
  have := itemPlace i ta tc ka kc ca cn cc cut at_ W h.trims h.talks (Nat.le_refl _) (by have := hok.2.1.1.2; unfold maxLen; omega) (by have := hok.2.1.2.2; unfold maxLen; omega) hC (Nat.le_refl _) (by have := hC.form.1; unfold maxLen; omega)
  rwa [if_neg (fun h => by have := h.2.2; omega)] at this
theorem use_heard (h : ItAt W i ta ka) (hok : ItOk i) (tc kc : Nat) (ca : Option Addr) (cn cc : Nat) (cut : List Int) (hC : Ints W.heap.size W (.slice ca cn cc) cut) (hc : CutOk i.trims.length cut) (second n : Int) (h0 : 0 ≤ second) (h1 : second < i.len) (hn : heardS i.trims cut second second = n) :
    Calls Try.prog 31 #[.agg #[.int .i64 i.id, .int .i64 i.kind, .int .i64 i.len, .slice ta i.trims.length tc, .slice ka i.talks.length kc, .int .i64 i.artist, .int .i64 i.tempo, .int .i64 i.lang], .slice ca cn cc, .int .i64 second] W fun e w' => e = .returned (.tuple #[.int .i64 n, .int .i64 0]) ∧ Upd [] W w' := by
  have := itemHeard i ta tc ka kc ca cn cc cut second W h.trims h.talks (Nat.le_refl _) (by have := hok.2.1.1.2; unfold maxLen; omega) (by have := hok.2.1.2.2; unfold maxLen; omega) hC (Nat.le_refl _) (by have := hC.form.1; have := hc.2; unfold maxLen; omega)
  rwa [if_pos ⟨⟨hok, hc⟩, h0, h1⟩, hn] at this
theorem use_talk (h : ItAt W i ta ka) (hok : ItOk i) (tc kc : Nat) (ca : Option Addr) (cn cc : Nat) (cut : List Int) (hC : Ints W.heap.size W (.slice ca cn cc) cut) (hc : CutOk i.trims.length cut) (l : List Sp) (hl : talkS (beforeS i.trims cut) i.talks = l) :
    Calls Try.prog 26 #[.agg #[.int .i64 i.id, .int .i64 i.kind, .int .i64 i.len, .slice ta i.trims.length tc, .slice ka i.talks.length kc, .int .i64 i.artist, .int .i64 i.tempo, .int .i64 i.lang], .slice ca cn cc] W fun e w' => ∃ la lc, e = .returned (.tuple #[.slice la l.length lc, .int .i64 0]) ∧ SpsAt w'.heap.size w' la l ∧ Upd [] W w' := by
  refine (itemTalk i ta tc ka kc ca cn cc cut W h.trims h.talks (Nat.le_refl _) (by have := hok.2.1.1.2; unfold maxLen; omega) (by have := hok.2.1.2.2; unfold maxLen; omega) hC (Nat.le_refl _) (by have := hC.form.1; have := hc.2; unfold maxLen; omega)).mono fun e w' h => ?_
  unfold TalkPost at h
  rw [if_pos ⟨hok, hc⟩, hl] at h
  obtain ⟨v, h1, h2, h3⟩ := h
  obtain ⟨A, c, rfl⟩ := own_form h2
  exact ⟨A, c, h1, own_sps h2, h3⟩
theorem use_lengths (h : ItAt W i ta ka) (hok : ItOk i) (tc kc : Nat) (l : List Int) (hl : lengthsS i = l) :
    Calls Try.prog 14 #[.agg #[.int .i64 i.id, .int .i64 i.kind, .int .i64 i.len, .slice ta i.trims.length tc, .slice ka i.talks.length kc, .int .i64 i.artist, .int .i64 i.tempo, .int .i64 i.lang]] W fun e w' => ∃ la lc, e = .returned (.tuple #[.slice la l.length lc, .int .i64 0]) ∧ Ints w'.heap.size w' (.slice la l.length lc) l ∧ Upd [] W w' := by
  refine (itemLengths i ta tc ka kc W h.trims h.talks (Nat.le_refl _) (by have := hok.2.1.1.2; unfold maxLen; omega) (by have := hok.2.1.2.2; unfold maxLen; omega)).mono fun e w' h => ?_
  unfold LengthsPost at h
  rw [if_pos hok, hl] at h
  obtain ⟨v, h1, h2, h3⟩ := h
  obtain ⟨A, c, rfl⟩ := own_form h2
  exact ⟨A, c, h1, it_own_ints h2, h3⟩
theorem use_cut (h : ItAt W i ta ka) (hok : ItOk i) (tc kc : Nat) (wanted : Int) (c : List Int) (hc : bestOf i wanted (List.range (2 ^ i.trims.length)) = some c) :
    Calls Try.prog 20 #[.agg #[.int .i64 i.id, .int .i64 i.kind, .int .i64 i.len, .slice ta i.trims.length tc, .slice ka i.talks.length kc, .int .i64 i.artist, .int .i64 i.tempo, .int .i64 i.lang], .int .i64 wanted] W fun e w' => ∃ la lc, e = .returned (.tuple #[.slice la c.length lc, .int .i64 0]) ∧ Ints w'.heap.size w' (.slice la c.length lc) c ∧ Upd [] W w' := by
  refine (itemCut i ta tc ka kc wanted W h.trims h.talks (Nat.le_refl _) (by have := hok.2.1.1.2; unfold maxLen; omega) (by have := hok.2.1.2.2; unfold maxLen; omega)).mono fun e w' h => ?_
  unfold CutPost at h
  rw [if_pos hok, hc] at h
  obtain ⟨h3, v, h1, h2⟩ := h
  obtain ⟨A, cc, rfl⟩ := own_form h2
  exact ⟨A, cc, h1, it_own_ints h2, h3⟩
theorem use_nocut (h : ItAt W i ta ka) (hok : ItOk i) (tc kc : Nat) (wanted : Int) (hc : bestOf i wanted (List.range (2 ^ i.trims.length)) = none) :
    Calls Try.prog 20 #[.agg #[.int .i64 i.id, .int .i64 i.kind, .int .i64 i.len, .slice ta i.trims.length tc, .slice ka i.talks.length kc, .int .i64 i.artist, .int .i64 i.tempo, .int .i64 i.lang], .int .i64 wanted] W fun e w' => e = .returned (.tuple #[.slice none 0 0, .int .i64 70]) ∧ Upd [] W w' := by
  refine (itemCut i ta tc ka kc wanted W h.trims h.talks (Nat.le_refl _) (by have := hok.2.1.1.2; unfold maxLen; omega) (by have := hok.2.1.2.2; unfold maxLen; omega)).mono fun e w' h => ?_
  unfold CutPost at h
  rw [if_pos hok, hc] at h
  exact ⟨h.2, h.1⟩
theorem use_encode (h : ItAt W i ta ka) (hok : ItOk i) (tc kc : Nat) :
    Calls Try.prog 16 #[.agg #[.int .i64 i.id, .int .i64 i.kind, .int .i64 i.len, .slice ta i.trims.length tc, .slice ka i.talks.length kc, .int .i64 i.artist, .int .i64 i.tempo, .int .i64 i.lang]] W fun e w' => e = .returned (.tuple #[.string ⟨(encS i).toArray⟩, .int .i64 0]) ∧ Upd [] W w' := by
  refine (itemEncode i ta tc ka kc W h.trims h.talks (Nat.le_refl _) (by have := hok.2.1.1.2; unfold maxLen; omega) (by have := hok.2.1.2.2; unfold maxLen; omega)).mono fun e w' h => ?_
  unfold EncodePost at h
  rwa [if_pos hok] at h
end
end Go.Proofs.Ytpkeimdlcafcnaa
