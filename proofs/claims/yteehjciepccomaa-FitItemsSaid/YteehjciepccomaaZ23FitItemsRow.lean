/-
  A slice of rows of six numbers that came in.
  aircheckref07.All: recordings that integers determine.
-/
import Derived.Test.YteehjciepccomaaZ22FitItemsRow
import Derived.Test.YteehjciepccomaaZ3FitItemsRow
import Derived.Laws.IdiomArrays
import Derived.Test.YteehjciepccomaaZ18FitItemsRow

namespace Go.Proofs.Yteehjciepccomaa
open Go.RowKit Go.ChangeShapes Go.WideShapes Go.Deep
set_option maxRecDepth 100000
set_option maxHeartbeats 4000000

structure X6 where
  a : Int
  b : Int
  c : Int
  d : Int
  e : Int
  f : Int
def X6Fits (x : X6) : Prop := Fits64 x.a ∧ Fits64 x.b ∧ Fits64 x.c ∧ Fits64 x.d ∧ Fits64 x.e ∧ Fits64 x.f
def X6At (n₀ : Nat) (w : World) (a : Option Addr) (xs : List X6) : Prop := ∀ i x, xs[i]? = some x → ∃ b o, a = some ⟨b, o, none⟩ ∧ b < n₀ ∧ X6Fits x ∧
  w.cell? ⟨b, o + i * 6, none⟩ = some (.int .i64 x.a) ∧ w.cell? ⟨b, o + i * 6 + 1, none⟩ = some (.int .i64 x.b) ∧ w.cell? ⟨b, o + i * 6 + 2, none⟩ = some (.int .i64 x.c) ∧
  w.cell? ⟨b, o + i * 6 + 3, none⟩ = some (.int .i64 x.d) ∧ w.cell? ⟨b, o + i * 6 + 4, none⟩ = some (.int .i64 x.e) ∧ w.cell? ⟨b, o + i * 6 + 5, none⟩ = some (.int .i64 x.f)
theorem X6At.upd {n₀ : Nat} {w w' : World} {a : Option Addr} {xs : List X6} {l : List Nat} (h : X6At n₀ w a xs) (hu : Upd l w w') (hn : n₀ ≤ w.heap.size) (hl : ∀ x ∈ l, n₀ ≤ x) : X6At n₀ w' a xs := by
  intro i x hx
  obtain ⟨b, o, e, h1, f1, c0, c1, c2, c3, c4, c5⟩ := h i x hx
  have hk : b ∉ l := fun hm => by have := hl b hm; omega
  have k : ∀ j, w'.cell? ⟨b, j, none⟩ = w.cell? ⟨b, j, none⟩ := fun j => hu.cell (p := ⟨b, j, none⟩) (Nat.lt_of_lt_of_le h1 hn) hk
  exact ⟨b, o, e, h1, f1, (k _).trans c0, (k _).trans c1, (k _).trans c2, (k _).trans c3, (k _).trans c4, (k _).trans c5⟩
theorem X6At.take {n₀ : Nat} {w : World} {a : Option Addr} {xs : List X6} (h : X6At n₀ w a xs) (k : Nat) : X6At n₀ w a (xs.take k) := by
  intro i p hp
  rw [List.getElem?_take] at hp
  split at hp
  · exact h i p hp
  · cases hp
def X6Arg (W : World) (a : Option Addr) (len cap : Nat) (xs : List X6) : Prop := xs.length = len ∧ len ≤ cap ∧ cap ≤ maxLen ∧ X6At W.heap.size W a xs
theorem trod_array6 {H : Type} {enc : TypeId × Value → H} {w : World} {base : Nat} {spare : Nat → Bool} {held : Bool} {l : List Value} {fuel : Nat} {x : DataW H × List MemPlace} (hlen : l.length = 6)
    (hf : DataW.trod enc Try.prog w base spare held fuel 89 l = some x) :
    ∃ z : X6, l = [.int .i64 z.a, .int .i64 z.b, .int .i64 z.c, .int .i64 z.d, .int .i64 z.e, .int .i64 z.f] ∧ X6Fits z := by
  obtain ⟨xs, m, _, _, hl, hxl, hi⟩ := DataW.trod_array Try.underlying89 hf
  have hc1 : Try.prog.cellsOf 3 = 1 := by kernel_rfl
  simp only [hc1, Nat.mul_one] at hi
  match l, hlen, xs, hxl with
  | [c0, c1, c2, c3, c4, c5], _, [y0, y1, y2, y3, y4, y5], _ =>
    obtain ⟨z0, q0, _, w0⟩ := DataW.trod_int Try.underlying3 (show _ = some y0 from hi 0 (by omega))
    obtain ⟨z1, q1, _, w1⟩ := DataW.trod_int Try.underlying3 (show _ = some y1 from hi 1 (by omega))
    obtain ⟨z2, q2, _, w2⟩ := DataW.trod_int Try.underlying3 (show _ = some y2 from hi 2 (by omega))
    obtain ⟨z3, q3, _, w3⟩ := DataW.trod_int Try.underlying3 (show _ = some y3 from hi 3 (by omega))
    obtain ⟨z4, q4, _, w4⟩ := DataW.trod_int Try.underlying3 (show _ = some y4 from hi 4 (by omega))
    obtain ⟨z5, q5, _, w5⟩ := DataW.trod_int Try.underlying3 (show _ = some y5 from hi 5 (by omega))
    simp at q0 q1 q2 q3 q4 q5
    subst q0 q1 q2 q3 q4 q5
    exact ⟨⟨z0, z1, z2, z3, z4, z5⟩, rfl, fits_of_wf w0, fits_of_wf w1, fits_of_wf w2, fits_of_wf w3, fits_of_wf w4, fits_of_wf w5⟩
theorem open_x6 {H : Type} {enc : TypeId × Value → H} {w : World} {base : Nat} {spare : Nat → Bool} {held : Bool} {a : Option Addr} {len cap : Nat} {d : DataW H} {p : List MemPlace}
    (h : DataW.Trod enc Try.prog w base spare held 56 (.slice a len cap) d p) : ∃ xs, X6Arg w a len cap xs := by
  obtain ⟨fuel, hf⟩ := h
  rcases open_slice Try.underlying56 hf with ⟨hcs, _⟩ | ⟨x, l, c, m, n, D, Pl, hcs, hb, hl, hm, hmm, hx, hi⟩
  · simp [Value.cells] at hcs
    obtain ⟨rfl, rfl, rfl⟩ := hcs
    exact ⟨[], rfl, Nat.le_refl _, Nat.zero_le _, fun i x hx => by simp at hx⟩
  · simp [Value.cells] at hcs
    obtain ⟨rfl, rfl, rfl⟩ := hcs
    have hle : len ≤ m := by rw [hmm]; split <;> omega
    have hC : Try.prog.cellsOf 89 = 6 := by kernel_rfl
    have hrow : ∀ i, i < len → ∃ z : X6, X6Fits z ∧ w.cell? (x.add (i * 6)) = some (.int .i64 z.a) ∧ w.cell? (x.add (i * 6 + 1)) = some (.int .i64 z.b) ∧ w.cell? (x.add (i * 6 + 2)) = some (.int .i64 z.c) ∧
        w.cell? (x.add (i * 6 + 3)) = some (.int .i64 z.d) ∧ w.cell? (x.add (i * 6 + 4)) = some (.int .i64 z.e) ∧ w.cell? (x.add (i * 6 + 5)) = some (.int .i64 z.f) := by
      intro i hil
      obtain ⟨cs', hc, ht'⟩ := hi i (by omega)
      rw [hC] at hc
      obtain ⟨_, hcl, hat⟩ := World.cells?_some hc
      obtain ⟨z, rfl, hz⟩ := trod_array6 hcl ht'
      refine ⟨z, hz, ?_, ?_, ?_, ?_, ?_, ?_⟩
      · have := hat 0 (by omega); rw [Go.Deep.add_add] at this; simpa using this
      · have := hat 1 (by omega); rw [Go.Deep.add_add] at this; simpa using this
      · have := hat 2 (by omega); rw [Go.Deep.add_add] at this; simpa using this
      · have := hat 3 (by omega); rw [Go.Deep.add_add] at this; simpa using this
      · have := hat 4 (by omega); rw [Go.Deep.add_add] at this; simpa using this
      · have := hat 5 (by omega); rw [Go.Deep.add_add] at this; simpa using this
    obtain ⟨zs, hzl, hzs⟩ := choose_list hrow
    refine ⟨zs, hzl, hl, hm, fun i z hz => ?_⟩
    obtain ⟨hfit, g0, g1, g2, g3, g4, g5⟩ := hzs i z hz
    have hlen : 0 < len := by have := (List.getElem?_eq_some_iff.1 hz).1; omega
    obtain ⟨z0, hz0⟩ : ∃ z0, zs[0]? = some z0 := ⟨_, List.getElem?_eq_getElem (by omega)⟩
    have hs := spot_of (hzs 0 z0 hz0).2.1 rfl
    have hb := World.block_lt_of_cell? w _ g0
    rw [plain_add hs] at g0 g1 g2 g3 g4 g5 hb
    exact ⟨x.block, x.off, by obtain ⟨b, o, s⟩ := x; simp only at hs; subst hs; rfl, hb, hfit, g0, g1, g2, g3, g4, g5⟩
end Go.Proofs.Yteehjciepccomaa

namespace Go.Proofs.Yteehjciepccomaa
open Go.RowKit
set_option maxRecDepth 100000
set_option maxHeartbeats 20000000

theorem info_item : (Try.prog.info? 61).map (fun i => (i.zero, i.size, i.bytes)) = some (some (.agg #[.int .i64 0, .int .i64 0, .int .i64 0, .slice none 0 0, .slice none 0 0, .int .i64 0, .int .i64 0, .int .i64 0]), 8, 96) := by kernel_rfl
theorem lenS_le (x : Int) : lenS x ≤ 400 := by
  have := pickS_bounds x 400 (by omega)
  unfold lenS
  omega
theorem recAll_any {n₀ : Nat} (a : Option Addr) (n c : Nat) (xs : List X6) (w : World) (hX : X6At n₀ w a xs) (hn₀ : n₀ ≤ w.heap.size) (hl : xs.length = n) (hn : n ≤ 6) :
    Calls Try.prog 33 #[.slice a n c] w fun e w' => ∃ A c' qs, e = .returned (.slice A n c') ∧ w'.ownsRow w.heap.size 61 8 (.slice A n c') n (recCells qs) ∧ qs.length = n ∧ RecsOwn w' qs ∧ (∀ q ∈ qs, ItOk q.i ∧ q.i.len ≤ 400) ∧ Upd [] w w' := by
  have HX := hide hX
  have HL := hide hl
  clear hX hl
  go_enter Try.func33, Try.ntmps33
  go_wp2_with fail
  go_loopw [3, 4] (fun s3 s4 wr => ∃ (k : Nat) (A : Option Addr) (c' : Nat) (qs : List Rec), k ≤ n ∧ s4 = .int .i64 k ∧ s3 = .slice A k c' ∧ Hid (qs.length = k) ∧ Hid (wr.ownsRow w.heap.size 61 8 (.slice A k c') k (recCells qs)) ∧ Hid (RecsOwn wr qs) ∧ Hid (∀ q ∈ qs, ItOk q.i ∧ q.i.len ≤ 400) ∧ Hid (Upd [] w wr)) (fun _ k _ => n - (intOf k).toNat)
  case atStart => exact ⟨0, none, 0, [], Nat.zero_le _, rfl, rfl, rfl, World.ownsRow_nil _ _ _ _, fun r hr => by simp at hr, fun r hr => by simp at hr, Upd.refl _ _⟩
  case round =>
    obtain ⟨k, A, c', qs, hk, rfl, rfl, hq, hown, hrec, hok, hu⟩ := hrel
    obtain ⟨wo, rfl⟩ : ∃ wo : World, wo = wr := ⟨_, rfl⟩
    by_cases hkn : k < n
    case neg =>
      obtain rfl : k = n := by omega
      have hki : ¬ (k : Int) < k := by omega
      go_wp2_with fail
      go_ret
      exact ⟨A, c', rfl, qs, hown.out, hq.out, hrec.out, hok.out, hu.out⟩
    have hki : (k : Int) < n := by omega
    have hk20 : (k : Int) < 20 := by omega
    have hkw : IntKind.i64.wrap ((k : Int) + 1) = (k : Int) + 1 := Go.IntWalk.i64_in _ (by omega)
    obtain ⟨x, hx⟩ : ∃ x, xs[k]? = some x := ⟨_, List.getElem?_eq_getElem (by have := HL.out; omega)⟩
    obtain ⟨b, o, ea, hb, hfit, c0, c1, c2, c3, c4, c5⟩ := (HX.out.upd hu.out hn₀ (by simp)) k x hx
    subst ea
    have HF := hide hfit
    obtain ⟨i, hi⟩ : ∃ i, madeS (k : Int) x.a x.b x.c x.d x.e x.f = i := ⟨_, rfl⟩
    have HIO := hide (show ItOk i ∧ i.len ≤ 400 by rw [← hi]; exact ⟨madeS_ok _ _ _ _ _ _ _, lenS_le _⟩)
    have HI := hide hi
    clear hx hb hfit hi
    go_wp2_with fail
    refine (itemMade_any (k : Int) x.a x.b x.c x.d x.e x.f wo (by unfold Fits64; omega) HF.out.1 HF.out.2.1 HF.out.2.2.1 HF.out.2.2.2.1 HF.out.2.2.2.2.1 HF.out.2.2.2.2.2 i HI.out).mono ?_
    rintro e wp ⟨ta, tc, ka, kc, rfl, it, u⟩
    have IT := hide it
    have OP := hide (own_kept hown.out u (by simp))
    have RP := hide (hrec.out.upd u)
    have UP := hide (hu.out.trans u (by simp))
    clear it u c0 c1 c2 c3 c4 c5
    have O1 := hide (recC_ones ⟨i, ta, tc, ka, kc⟩)
    have O3 := hide (show k + 1 ≤ maxLen by unfold maxLen; omega)
    have O4 := hide (show (k + 1) * 96 ≤ 140737488355328 by omega)
    have OB := hide (OP.out.alloc (.cells (recC ⟨i, ta, tc, ka, kc⟩).toArray 61))
    have OS := hide (show w.heap.size ≤ (wp.alloc (.cells (recC ⟨i, ta, tc, ka, kc⟩).toArray 61)).heap.size by have := UP.out.size; rw [World.size_alloc]; omega)
    have AP := hide (show ∀ A5 c5 w5, w5.ownsRow w.heap.size 61 8 (.slice A5 (k + 1) c5) (k + 1) (recCells qs ++ recC ⟨i, ta, tc, ka, kc⟩) → Upd (A.map (·.block)).toList (wp.alloc (.cells (recC ⟨i, ta, tc, ka, kc⟩).toArray 61)) w5 →
        (qs ++ [(⟨i, ta, tc, ka, kc⟩ : Rec)]).length = k + 1 ∧ w5.ownsRow w.heap.size 61 8 (.slice A5 (k + 1) c5) (k + 1) (recCells (qs ++ [(⟨i, ta, tc, ka, kc⟩ : Rec)])) ∧ RecsOwn w5 (qs ++ [(⟨i, ta, tc, ka, kc⟩ : Rec)]) ∧ (∀ q ∈ qs ++ [(⟨i, ta, tc, ka, kc⟩ : Rec)], ItOk q.i ∧ q.i.len ≤ 400) ∧ Upd [] w w5 from fun A5 c5 w5 h5 u5 => by
      have va := (Upd.refl [] wp).alloc (.cells (recC ⟨i, ta, tc, ka, kc⟩).toArray 61)
      refine ⟨by rw [List.length_append, hq.out]; rfl, by rw [recCells_snoc]; exact h5, ((RP.out.upd va).snoc (r := ⟨i, ta, tc, ka, kc⟩) (IT.out.upd va)).stay OB.out (by decide) u5, fun q hq => ?_, (UP.out.alloc _).trans u5 (fun z hz => .inr (it_own_block OP.out z (by rw [ownBlock_slice]; simpa using hz)))⟩
      rcases List.mem_append.1 hq with hq | hq
      · exact hok.out q hq
      · obtain rfl := List.mem_singleton.1 hq
        exact HIO.out)
    go_wp2_with (at_builtin; refine wpList_append_base rfl (.tmp 15) (.tmp 22) _ rfl w.heap.size 61 _ 8 96 Try.underlying57 info_item rfl (by decide) A k c' _ rfl OB.out ⟨_, 0, none⟩ 1 1 (recC ⟨i, ta, tc, ka, kc⟩) rfl rfl (list_new _ _ _) O1.out O3.out O4.out OS.out ?_; intro A5 c5 w5 h5 u5 _; have H5 := hide (AP.out A5 c5 w5 h5 u5); clear h5 u5)
    go_roundw
    case rel => exact ⟨k + 1, A5, c5, qs ++ [⟨i, ta, tc, ka, kc⟩], by omega, by go_num, rfl, hide H5.out.1, hide H5.out.2.1, hide H5.out.2.2.1, hide H5.out.2.2.2.1, hide H5.out.2.2.2.2⟩
    case measure => simp [intOf] <;> omega
end Go.Proofs.Yteehjciepccomaa
