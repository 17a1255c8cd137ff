/-
  Six integers that came in as an array.
  A recording that came in, opened; few of a list.
-/
import Derived.Test.YtpkeimdlcafcnaaZ14ItemMatchesReferenceRow
import Derived.OpenShut
import Derived.ProofKit
import Derived.DataShut
import Derived.Test.YtpkeimdlcafcnaaZ3ItemMatchesReferenceRow

namespace Go.Proofs.Ytpkeimdlcafcnaa
open Go.RowKit Go.ChangeShapes Go.WideShapes
set_option maxRecDepth 100000

theorem fits_of_wf {c : Int} (h : (Lit.int .i64 c).wf = true) : Fits64 c := by
  have := (Lit.wf_int_iff .i64 c).1 h
  simp [IntKind.min, IntKind.max, IntKind.signed, IntKind.bits] at this
  unfold Fits64
  omega
theorem okWide_arr6 {W : World} {r : Reach} {b0 : Nat} {v : Value} (h : Value.okWide Try.prog W r b0 25 v) : ∃ xs : Array Value, v = .agg xs := by
  simp only [Value.okWide, Try.underlying25] at h
  obtain ⟨cs, h1, h2, _⟩ := h
  exact ⟨cs, h1⟩
theorem open_arr6 {H : Type} {enc : TypeId × Value → H} {w : World} {base : Nat} {spare : Nat → Bool} {held : Bool} {cs : Array Value} {d : DataW H} {p : List MemPlace}
    (h : DataW.Trod enc Try.prog w base spare held 25 (.agg cs) d p) :
    ∃ x0 x1 x2 x3 x4 x5 : Int, cs = #[.int .i64 x0, .int .i64 x1, .int .i64 x2, .int .i64 x3, .int .i64 x4, .int .i64 x5] ∧ Fits64 x0 ∧ Fits64 x1 ∧ Fits64 x2 ∧ Fits64 x3 ∧ Fits64 x4 ∧ Fits64 x5 := by
  obtain ⟨fuel, hf⟩ := h
  obtain ⟨xs, m, _, _, hl, hxl, hi⟩ := DataW.trod_array Try.underlying25 hf
  have hc1 : Try.prog.cellsOf 3 = 1 := by kernel_rfl
  have hc6 : Try.prog.cellsOf 25 = 6 := by kernel_rfl
  rw [hc6] at hl
  simp only [hc1, Nat.mul_one] at hi
  obtain ⟨l, rfl⟩ : ∃ l : List Value, cs = l.toArray := ⟨cs.toList, by simp⟩
  have hcl : (Value.agg l.toArray).cells.toList = l := by simp [Value.cells]
  rw [hcl] at hl hi
  match l, hl, xs, hxl with
  | [c0, c1, c2, c3, c4, c5], _, [y0, y1, y2, y3, y4, y5], _ =>
    obtain ⟨z0, q0, _, w0⟩ := DataW.trod_int Try.underlying3 (show _ = some y0 from hi 0 (by omega))
    obtain ⟨z1, q1, _, w1⟩ := DataW.trod_int Try.underlying3 (show _ = some y1 from hi 1 (by omega))
    obtain ⟨z2, q2, _, w2⟩ := DataW.trod_int Try.underlying3 (show _ = some y2 from hi 2 (by omega))
    obtain ⟨z3, q3, _, w3⟩ := DataW.trod_int Try.underlying3 (show _ = some y3 from hi 3 (by omega))
    obtain ⟨z4, q4, _, w4⟩ := DataW.trod_int Try.underlying3 (show _ = some y4 from hi 4 (by omega))
    obtain ⟨z5, q5, _, w5⟩ := DataW.trod_int Try.underlying3 (show _ = some y5 from hi 5 (by omega))
    simp at q0 q1 q2 q3 q4 q5
    subst q0 q1 q2 q3 q4 q5
    exact ⟨z0, z1, z2, z3, z4, z5, rfl, fits_of_wf w0, fits_of_wf w1, fits_of_wf w2, fits_of_wf w3, fits_of_wf w4, fits_of_wf w5⟩
end Go.Proofs.Ytpkeimdlcafcnaa

namespace Go.Proofs.Ytpkeimdlcafcnaa
open Go.RowKit Go.ChangeShapes Go.WideShapes Go.Deep
set_option maxRecDepth 100000
set_option maxHeartbeats 4000000

theorem open_sps {H : Type} {enc : TypeId × Value → H} {w : World} {base : Nat} {spare : Nat → Bool} {held : Bool} {v : Value} {n : Nat} {y : DataW H × List MemPlace}
    (hf : DataW.trod enc Try.prog w base spare held n 22 [v] = some y) : ∃ a len cap l, v = .slice a len cap ∧ l.length = len ∧ len ≤ cap ∧ cap ≤ maxLen ∧ SpsAt w.heap.size w a l := by
  rcases open_slice_fields Try.underlying22 Try.underlying53 (by kernel_rfl) (by kernel_rfl) hf with ⟨hcs, _⟩ | ⟨x, len, cap, m, hcs, hb, hl, hm, hmm, hi⟩
  · obtain rfl : v = .slice none 0 0 := by simpa using hcs
    exact ⟨none, 0, 0, [], rfl, rfl, Nat.le_refl _, Nat.zero_le _, fun i x hx => by simp at hx⟩
  · obtain rfl : v = .slice (some x) len cap := by simpa using hcs
    have hrow : ∀ i, i < len → ∃ z : Sp, w.cell? (x.add (i * 2)) = some (.int .i64 z.fr) ∧ w.cell? (x.add (i * 2 + 1)) = some (.int .i64 z.to_) := by
      intro i hil
      obtain ⟨n, hf⟩ := hi i (by omega)
      obtain ⟨v0, y0, c0, t0⟩ := hf 0 _ rfl
      obtain ⟨v1, y1, c1, t1⟩ := hf 1 _ rfl
      obtain ⟨z0, q0, _, w0⟩ := DataW.trod_int Try.underlying3 t0
      obtain ⟨z1, q1, _, w1⟩ := DataW.trod_int Try.underlying3 t1
      simp at q0 q1
      subst q0 q1
      exact ⟨⟨z0, z1⟩, by simpa using c0, by simpa using c1⟩
    obtain ⟨zs, hzl, hzs⟩ := choose_list hrow
    refine ⟨some x, len, cap, zs, rfl, hzl, hl, hm, fun i z hz => ?_⟩
    obtain ⟨g0, g1⟩ := hzs i z hz
    have hlen : 0 < len := by have := (List.getElem?_eq_some_iff.1 hz).1; omega
    obtain ⟨z0, hz0⟩ : ∃ z0, zs[0]? = some z0 := ⟨_, List.getElem?_eq_getElem (by omega)⟩
    have hs := spot_of (hzs 0 z0 hz0).1 rfl
    have hb := World.block_lt_of_cell? w _ g0
    rw [plain_add hs] at g0 g1 hb
    exact ⟨x.block, x.off, by obtain ⟨b, o, s⟩ := x; simp only at hs; subst hs; rfl, hb, g0, g1⟩
/-- A recording that came in; 'r' is what it is with at most six spells each. -/
structure RawItem (W : World) (ta : Option Addr) (tn tc : Nat) (ka : Option Addr) (kn kc : Nat) (r : It) : Prop where
  trims : r.trims.length = min tn 6
  talks : r.talks.length = min kn 6
  tAt : SpsAt W.heap.size W ta r.trims
  kAt : SpsAt W.heap.size W ka r.talks
  htc : tn ≤ tc
  hkc : kn ≤ kc
  htm : tc ≤ maxLen
  hkm : kc ≤ maxLen
  hlen : Fits64 r.len
theorem SpsAt.take {n₀ : Nat} {w : World} {a : Option Addr} {l : List Sp} (h : SpsAt n₀ w a l) (k : Nat) : SpsAt n₀ w a (l.take k) := by
  intro i p hp
  rw [List.getElem?_take] at hp
  split at hp
  · exact h i p hp
  · cases hp
theorem okWide_item {W : World} {r : Reach} {b0 : Nat} {v : Value} (h : Value.okWide Try.prog W r b0 24 v) : ∃ xs : Array Value, v = .agg xs := by
  obtain ⟨cs, h1, _⟩ := okWide_struct Try.underlying24 h
  exact ⟨cs, h1⟩
theorem trod_fields {H : Type} {enc : TypeId × Value → H} {P : Program} {w : World} {base : Nat} {spare : Nat → Bool} {held : Bool} {t : TypeId} {fs : Array Field} {fuel : Nat} {cs : List Value} {x : DataW H × List MemPlace} (ht : P.underlying t = some (.struct fs))
    (hone : oneCellFields P fs = true) (h : DataW.trod enc P w base spare held fuel t cs = some x) :
    ∃ (xs : List (DataW H × List MemPlace)) (n : Nat), cs.length = P.cellsOf t ∧ xs.length = fs.size ∧ ∀ (i : Nat) (f : Field), fs[i]? = some f → DataW.trod enc P w base spare held n f.type ((cs.drop i).take 1) = xs[i]? := by
  obtain ⟨xs, n, _, _, hl, hxl, hi⟩ := DataW.trod_struct ht h
  refine ⟨xs, n, hl, hxl, fun i f hf => ?_⟩
  obtain ⟨ho, hk⟩ := hone_of hone i f hf
  have := hi i f hf
  rwa [ho, hk] at this
theorem open_item {H : Type} {enc : TypeId × Value → H} {w : World} {base : Nat} {spare : Nat → Bool} {held : Bool} {cs : Array Value} {d : DataW H} {p : List MemPlace}
    (h : DataW.Trod enc Try.prog w base spare held 24 (.agg cs) d p) :
    ∃ (r : It) (ta : Option Addr) (tn tc : Nat) (ka : Option Addr) (kn kc : Nat), cs = #[.int .i64 r.id, .int .i64 r.kind, .int .i64 r.len, .slice ta tn tc, .slice ka kn kc, .int .i64 r.artist, .int .i64 r.tempo, .int .i64 r.lang] ∧ RawItem w ta tn tc ka kn kc r := by
  obtain ⟨fuel, hf⟩ := h
  obtain ⟨xs, n, hl, hxl, k⟩ := trod_fields Try.underlying24 (by kernel_rfl) hf
  have hc8 : Try.prog.cellsOf 24 = 8 := by kernel_rfl
  rw [hc8] at hl
  obtain ⟨l, rfl⟩ : ∃ l : List Value, cs = l.toArray := ⟨cs.toList, by simp⟩
  have hcl : (Value.agg l.toArray).cells.toList = l := by simp [Value.cells]
  rw [hcl] at hl k
  match l, hl, xs, hxl with
  | [c0, c1, c2, c3, c4, c5, c6, c7], _, [y0, y1, y2, y3, y4, y5, y6, y7], _ =>
    obtain ⟨z0, q0, _, w0⟩ := DataW.trod_int Try.underlying3 (show _ = some y0 from k 0 _ rfl)
    obtain ⟨z1, q1, _, w1⟩ := DataW.trod_int Try.underlying3 (show _ = some y1 from k 1 _ rfl)
    obtain ⟨z2, q2, _, w2⟩ := DataW.trod_int Try.underlying3 (show _ = some y2 from k 2 _ rfl)
    obtain ⟨ta, tn, tc, lt, q3, t1, t2, t3, t4⟩ := open_sps (show DataW.trod enc Try.prog w base spare held n 22 [c3] = some y3 from k 3 _ rfl)
    obtain ⟨ka, kn, kc, lk, q4, k1, k2, k3, k4⟩ := open_sps (show DataW.trod enc Try.prog w base spare held n 22 [c4] = some y4 from k 4 _ rfl)
    obtain ⟨z5, q5, _, w5⟩ := DataW.trod_int Try.underlying3 (show _ = some y5 from k 5 _ rfl)
    obtain ⟨z6, q6, _, w6⟩ := DataW.trod_int Try.underlying3 (show _ = some y6 from k 6 _ rfl)
    obtain ⟨z7, q7, _, w7⟩ := DataW.trod_int Try.underlying3 (show _ = some y7 from k 7 _ rfl)
    simp at q0 q1 q2 q5 q6 q7
    subst q0 q1 q2 q3 q4 q5 q6 q7
    exact ⟨⟨z0, z1, z2, lt.take 6, lk.take 6, z5, z6, z7⟩, ta, tn, tc, ka, kn, kc, rfl, by rw [List.length_take, t1, Nat.min_comm], by rw [List.length_take, k1, Nat.min_comm], t4.take 6, k4.take 6, t2, k2, t3, k3, fits_of_wf w2⟩
/-- few -/
theorem few6 {n₀ : Nat} (a : Option Addr) (n c : Nat) (zs : List Int) (w : World) (hI : Ints n₀ w (.slice a n c) zs) (hnc : n ≤ c) (hc : c ≤ maxLen) :
    Calls Try.prog 23 #[.slice a n c] w fun e w' => ∃ k c', e = .returned (.slice a k c') ∧ k ≤ 6 ∧ k ≤ n ∧ k ≤ c' ∧ c' ≤ c ∧ Ints n₀ w (.slice a k c') (zs.take k) ∧ w = w' := by
  have HI := hide hI
  have hl := hI.form.1
  have HL := hide hl
  have hc' : c ≤ 9223372036854775807 := by unfold maxLen at hc; omega
  clear hI hl hc
  go_enter Try.func23, Try.ntmps23
  by_cases h : n ≤ 6
  · have h1 : (n : Int) ≤ 6 := by omega
    go_wp2_with fail
    go_ret
    exact ⟨n, c, rfl, h, Nat.le_refl _, hnc, Nat.le_refl _, HI.out.take n (by have := HL.out; omega), rfl⟩
  · have h1 : ¬ (n : Int) ≤ 6 := by omega
    have h2 : (6 : Int) < n := by omega
    go_wp2_with fail
    go_ret
    exact ⟨6, c, rfl, Nat.le_refl _, by omega, by omega, Nat.le_refl _, HI.out.take 6 (by have := HL.out; omega), rfl⟩
end Go.Proofs.Ytpkeimdlcafcnaa
