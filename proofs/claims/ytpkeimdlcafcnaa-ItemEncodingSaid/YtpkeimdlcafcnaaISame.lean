/-
  aircheckref07.Same: two recordings are equal.
-/
import Derived.Test.YtpkeimdlcafcnaaIRef
import Derived.Test.YtpkeimdlcafcnaaIMade2
namespace Go.Proofs.Ytpkeimdlcafcnaa
open Go.RowKit Go.Shelf
set_option maxRecDepth 100000
set_option maxHeartbeats 40000000
deriving instance DecidableEq for It

theorem refSame (i k : It) (ta : Option Addr) (tc : Nat) (ka : Option Addr) (kc : Nat) (tb : Option Addr) (td : Nat) (kb : Option Addr) (kd : Nat) (w : World) (hi : ItAt w i ta ka) (hk : ItAt w k tb kb) (h1 : i.trims.length ≤ maxLen) (h2 : k.trims.length ≤ maxLen) (h3 : i.talks.length ≤ maxLen) (h4 : k.talks.length ≤ maxLen) :
    Calls Try.prog 37 #[.agg #[.int .i64 i.id, .int .i64 i.kind, .int .i64 i.len, .slice ta i.trims.length tc, .slice ka i.talks.length kc, .int .i64 i.artist, .int .i64 i.tempo, .int .i64 i.lang], .agg #[.int .i64 k.id, .int .i64 k.kind, .int .i64 k.len, .slice tb k.trims.length td, .slice kb k.talks.length kd, .int .i64 k.artist, .int .i64 k.tempo, .int .i64 k.lang]] w fun e w' => e = .returned (.bool (decide (i = k))) ∧ Upd [] w w' := by
  obtain ⟨r, HR⟩ : ∃ r, Hid (decide (i = k) = r) := ⟨_, rfl⟩
  rw [HR.out]
  go_enter Try.func37, Try.ntmps37
  go_upto_region 1 with fail
  obtain ⟨w1, hw1⟩ : ∃ x, w.alloc (.cells #[.int .i64 i.id, .int .i64 i.kind, .int .i64 i.len, .slice ta i.trims.length tc, .slice ka i.talks.length kc, .int .i64 i.artist, .int .i64 i.tempo, .int .i64 i.lang] 24) = x := ⟨_, rfl⟩
  have B1 : Blk w1 w.heap.size 24 [.int .i64 i.id, .int .i64 i.kind, .int .i64 i.len, .slice ta i.trims.length tc, .slice ka i.talks.length kc, .int .i64 i.artist, .int .i64 i.tempo, .int .i64 i.lang] := by rw [← hw1]; exact Blk.new w _ _
  have u1 : Upd [] w w1 := by rw [← hw1]; exact (Upd.refl [] _).alloc _
  have hz1 : w1.heap.size = w.heap.size + 1 := by rw [← hw1, World.size_alloc]
  rw [hw1]
  obtain ⟨w2, hw2⟩ : ∃ x, w1.alloc (.cells #[.int .i64 k.id, .int .i64 k.kind, .int .i64 k.len, .slice tb k.trims.length td, .slice kb k.talks.length kd, .int .i64 k.artist, .int .i64 k.tempo, .int .i64 k.lang] 24) = x := ⟨_, rfl⟩
  have B2 := hide (show Blk w2 w.heap.size 24 [.int .i64 i.id, .int .i64 i.kind, .int .i64 i.len, .slice ta i.trims.length tc, .slice ka i.talks.length kc, .int .i64 i.artist, .int .i64 i.tempo, .int .i64 i.lang] by rw [← hw2]; exact B1.alloc _)
  have R2 := hide (show Blk w2 (w.heap.size + 1) 24 [.int .i64 k.id, .int .i64 k.kind, .int .i64 k.len, .slice tb k.trims.length td, .slice kb k.talks.length kd, .int .i64 k.artist, .int .i64 k.tempo, .int .i64 k.lang] by rw [← hw2, ← hz1]; exact Blk.new w1 _ _)
  have UU2 := hide (show Upd [] w w2 by rw [← hw2]; exact u1.alloc _)
  rw [hw2]
  clear hw1 hw2 B1 u1 hz1
  have HI := hide (hi.upd UU2.out)
  have HK := hide (hk.upd UU2.out)
  have HIK := hide (And.intro hi hk)
  clear hi hk
  have m0 := B2.out.cell 0
  have r0 := R2.out.cell 0
  have m1 := B2.out.cell 1
  have r1 := R2.out.cell 1
  have m2 := B2.out.cell 2
  have r2 := R2.out.cell 2
  have m3 := B2.out.cell 3
  have r3 := R2.out.cell 3
  have m4 := B2.out.cell 4
  have r4 := R2.out.cell 4
  have m5 := B2.out.cell 5
  have r5 := R2.out.cell 5
  have m6 := B2.out.cell 6
  have r6 := R2.out.cell 6
  have m7 := B2.out.cell 7
  have r7 := R2.out.cell 7
  by_cases e0 : i.id = k.id
  case neg =>
    have b0 : (i.id == k.id) = false := beq_eq_false_iff_ne.2 e0
    obtain rfl : r = false := by rw [← HR.out]; exact decide_eq_false fun h => e0 (by rw [h])
    have E := hide e0
    clear e0
    go_wp2_with fail
    go_ret
    exact ⟨rfl, UU2.out⟩
  have b0 : (i.id == k.id) = true := beq_iff_eq.2 e0
  have E0 := hide e0
  clear e0
  by_cases e1 : i.kind = k.kind
  case neg =>
    have b1 : (i.kind == k.kind) = false := beq_eq_false_iff_ne.2 e1
    obtain rfl : r = false := by rw [← HR.out]; exact decide_eq_false fun h => e1 (by rw [h])
    have E := hide e1
    clear e1
    go_wp2_with fail
    go_ret
    exact ⟨rfl, UU2.out⟩
  have b1 : (i.kind == k.kind) = true := beq_iff_eq.2 e1
  have E1 := hide e1
  clear e1
  by_cases e2 : i.len = k.len
  case neg =>
    have b2 : (i.len == k.len) = false := beq_eq_false_iff_ne.2 e2
    obtain rfl : r = false := by rw [← HR.out]; exact decide_eq_false fun h => e2 (by rw [h])
    have E := hide e2
    clear e2
    go_wp2_with fail
    go_ret
    exact ⟨rfl, UU2.out⟩
  have b2 : (i.len == k.len) = true := beq_iff_eq.2 e2
  have E2 := hide e2
  clear e2
  by_cases e3 : i.artist = k.artist
  case neg =>
    have b3 : (i.artist == k.artist) = false := beq_eq_false_iff_ne.2 e3
    obtain rfl : r = false := by rw [← HR.out]; exact decide_eq_false fun h => e3 (by rw [h])
    have E := hide e3
    clear e3
    go_wp2_with fail
    go_ret
    exact ⟨rfl, UU2.out⟩
  have b3 : (i.artist == k.artist) = true := beq_iff_eq.2 e3
  have E3 := hide e3
  clear e3
  by_cases e4 : i.tempo = k.tempo
  case neg =>
    have b4 : (i.tempo == k.tempo) = false := beq_eq_false_iff_ne.2 e4
    obtain rfl : r = false := by rw [← HR.out]; exact decide_eq_false fun h => e4 (by rw [h])
    have E := hide e4
    clear e4
    go_wp2_with fail
    go_ret
    exact ⟨rfl, UU2.out⟩
  have b4 : (i.tempo == k.tempo) = true := beq_iff_eq.2 e4
  have E4 := hide e4
  clear e4
  by_cases e5 : i.lang = k.lang
  case neg =>
    have b5 : (i.lang == k.lang) = false := beq_eq_false_iff_ne.2 e5
    obtain rfl : r = false := by rw [← HR.out]; exact decide_eq_false fun h => e5 (by rw [h])
    have E := hide e5
    clear e5
    go_wp2_with fail
    go_ret
    exact ⟨rfl, UU2.out⟩
  have b5 : (i.lang == k.lang) = true := beq_iff_eq.2 e5
  have E5 := hide e5
  clear e5
  go_wp2_with fail
  refine (refSameSpells ta i.trims.length tc i.trims tb k.trims.length td k.trims w2 HI.out.trims HK.out.trims rfl rfl h1 h2).mono ?_
  rintro e w3 ⟨rfl, u⟩
  have UU3 := hide (UU2.out.trans u (by simp))
  have B3 := hide (B2.out.upd u (by simp))
  have R3 := hide (R2.out.upd u (by simp))
  have HI3 := hide (HI.out.upd u)
  have HK3 := hide (HK.out.upd u)
  clear u m0 r0 m1 r1 m2 r2 m3 r3 m4 r4 m5 r5 m6 r6 m7 r7
  have m0 := B3.out.cell 0
  have r0 := R3.out.cell 0
  have m1 := B3.out.cell 1
  have r1 := R3.out.cell 1
  have m2 := B3.out.cell 2
  have r2 := R3.out.cell 2
  have m3 := B3.out.cell 3
  have r3 := R3.out.cell 3
  have m4 := B3.out.cell 4
  have r4 := R3.out.cell 4
  have m5 := B3.out.cell 5
  have r5 := R3.out.cell 5
  have m6 := B3.out.cell 6
  have r6 := R3.out.cell 6
  have m7 := B3.out.cell 7
  have r7 := R3.out.cell 7
  by_cases e6 : i.trims = k.trims
  case neg =>
    obtain rfl : r = false := by rw [← HR.out]; exact decide_eq_false fun h => e6 (by rw [h])
    rw [decide_eq_false e6]
    clear e6
    go_wp2_with fail
    go_ret
    exact ⟨rfl, UU3.out⟩
  rw [decide_eq_true e6]
  have E6 := hide e6
  clear e6
  go_wp2_with fail
  refine (refSameSpells ka i.talks.length kc i.talks kb k.talks.length kd k.talks w3 HI3.out.talks HK3.out.talks rfl rfl h3 h4).mono ?_
  rintro e w4 ⟨rfl, u⟩
  have UU4 := hide (UU3.out.trans u (by simp))
  clear u
  obtain rfl : decide (i.talks = k.talks) = r := by
    rw [← HR.out]
    refine decide_eq_decide.2 ⟨fun h => ?_, fun h => by rw [h]⟩
    have a0 := E0.out; have a1 := E1.out; have a2 := E2.out; have a3 := E3.out; have a4 := E4.out; have a5 := E5.out; have a6 := E6.out
    cases i; cases k
    simp only at *
    subst a0 a1 a2 a3 a4 a5 a6 h
    rfl
  go_wp2_with fail
  go_ret
  exact ⟨rfl, UU4.out⟩
end Go.Proofs.Ytpkeimdlcafcnaa
