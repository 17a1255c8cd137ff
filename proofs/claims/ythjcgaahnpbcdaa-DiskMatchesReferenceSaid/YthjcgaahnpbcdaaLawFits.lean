/-
  The statements' own functions on writes: fits, put; a slice of writes that came in.
-/
import Derived.Test.YthjcgaahnpbcdaaLawBase
namespace Go.Proofs.Ythjcgaahnpbcdaa
open Go.RowKit
set_option maxRecDepth 100000
set_option maxHeartbeats 1000000

/-- A write that came in. -/
abbrev WriteP := Int × ByteArray × Bool
def WriteR (_W : World) (x : WriteP) (vs : List Value) : Prop := vs = [.int .i64 x.1, .string x.2.1, .bool x.2.2] ∧ (Lit.int .i64 x.1).wf = true ∧ x.2.1.size ≤ maxLen
def WritesArg (W : World) (a : Option Addr) (len cap : Nat) (xs : List WriteP) : Prop := RowArg W a len cap 3 WriteR xs
theorem open_writes {H : Type} {enc : TypeId × Value → H} {w : World} {base : Nat} {spare : Nat → Bool} {held : Bool} {a : Option Addr} {len cap : Nat} {d : DataW H} {p : List MemPlace}
    (h : DataW.Trod enc Try.prog w base spare held 51 (.slice a len cap) d p) : ∃ xs, WritesArg w a len cap xs := by
  refine open_rows Try.underlying51 Try.underlying53 (by kernel_rfl) (by kernel_rfl) (by decide) WriteR (fun n vs hl hv => ?_) h
  match vs, hl with
  | [v0, v1, v2], _ =>
    obtain ⟨y0, h0⟩ := hv 0 _ v0 rfl rfl
    obtain ⟨y1, h1⟩ := hv 1 _ v1 rfl rfl
    obtain ⟨y2, h2⟩ := hv 2 _ v2 rfl rfl
    obtain ⟨x0, e0, _, w0⟩ := DataW.trod_int Try.underlying3 h0
    obtain ⟨x1, e1, _, w1⟩ := DataW.trod_string Try.underlying9 h1
    obtain ⟨x2, e2, _⟩ := DataW.trod_bool Try.underlying4 h2
    simp at e0 e1 e2
    subst e0 e1 e2
    exact ⟨(x0, x1, x2), rfl, w0, w1⟩
/-- Element i, in every later world. -/
theorem WritesArg.at_ {W w : World} {a : Option Addr} {len cap : Nat} {xs : List WriteP} (h : WritesArg W a len cap xs) (hb : Below W.heap.size W w) {i : Nat} (hi : i < len) :
    ∃ b off x, a = some ⟨b, off, none⟩ ∧ b < W.heap.size ∧ xs[i]? = some x ∧ (Lit.int .i64 x.1).wf = true ∧ x.2.1.size ≤ maxLen ∧
      w.cell? ⟨b, off + i * 3, none⟩ = some (.int .i64 x.1) ∧ w.cell? ⟨b, off + i * 3 + 1, none⟩ = some (.string x.2.1) ∧ w.cell? ⟨b, off + i * 3 + 2, none⟩ = some (.bool x.2.2) := by
  obtain ⟨hl, _, _, hc⟩ := h
  obtain ⟨b, off, rfl, hbl, hx⟩ := hc (by omega)
  have hxi : xs[i]? = some (xs[i]'(by omega)) := List.getElem?_eq_getElem _
  obtain ⟨vs, ⟨rfl, w1, w2⟩, hvs⟩ := hx i _ hxi
  refine ⟨b, off, _, rfl, hbl, hxi, w1, w2, ?_, ?_, ?_⟩
  · exact (hb.cell (p := ⟨b, off + i * 3, none⟩) hbl).trans (hvs 0 _ rfl)
  · exact (hb.cell (p := ⟨b, off + i * 3 + 1, none⟩) hbl).trans (hvs 1 _ rfl)
  · exact (hb.cell (p := ⟨b, off + i * 3 + 2, none⟩) hbl).trans (hvs 2 _ rfl)

/-- What fits makes of a write. -/
def fitOff (size : Nat) (x : WriteP) : Nat := (pickN x.1 (size + 1)).toNat
def fitS (size : Nat) (x : WriteP) : List UInt8 := x.2.1.data.toList.take (size - fitOff size x)
theorem fit_le (size : Nat) (x : WriteP) : fitOff size x ≤ size := by
  have := pickN_lt x.1 (n := (size : Int) + 1) (by omega)
  unfold fitOff
  omega
theorem fitS_le (size : Nat) (x : WriteP) : fitOff size x + (fitS size x).length ≤ size := by
  have := fit_le size x
  simp [fitS]
  omega

theorem fits_any (size : Nat) (x : WriteP) (w : World) (hx : (Lit.int .i64 x.1).wf = true) (hs : x.2.1.size ≤ maxLen) (hn : size ≤ 4194304) :
    Calls Try.prog 26 #[.agg #[.int .i64 x.1, .string x.2.1, .bool x.2.2], .int .i64 (size : Int)] w fun e w' => e = .returned (.agg #[.int .i64 (fitOff size x : Int), .string ⟨(fitS size x).toArray⟩, .bool x.2.2]) ∧ Upd [] w w' := by
  obtain ⟨x0, x1, x2⟩ := x
  simp only at hx hs
  have hf := fit_le size (x0, x1, x2)
  have e1 : pickN x0 ((size : Int) + 1) = (fitOff size (x0, x1, x2) : Int) := by
    have := pickN_lt x0 (n := (size : Int) + 1) (by omega)
    show _ = (((pickN x0 ((size : Int) + 1)).toNat : Nat) : Int)
    omega
  have E1 := hide e1
  have HX := hide hx
  have HS := hide hs
  obtain ⟨o, Eo⟩ : ∃ o, Hid (fitOff size (x0, x1, x2) = o) := ⟨_, rfl⟩
  rw [Eo.out] at hf
  clear e1 hx hs
  go_enter Try.func26, Try.ntmps26
  go_wp2_with fail
  refine (pick_any x0 ((size : Int) + 1) _ HX.out (by omega) (by omega)).mono ?_
  rintro e w' ⟨rfl, rfl⟩
  rw [E1.out, Eo.out]
  go_wp2_with fail
  rw [show ((size : Int) - (o : Int)) = ((size - o : Nat) : Int) by omega]
  refine (cut_str x1 (size - o) _ HS.out (by omega)).mono ?_
  rintro e w' ⟨rfl, rfl⟩
  have es : x1.data.toList.take (size - o) = fitS size (x0, x1, x2) := by simp [fitS, Eo.out]
  rw [es]
  obtain ⟨fs, Ef⟩ : ∃ fs, Hid (fitS size (x0, x1, x2) = fs) := ⟨_, rfl⟩
  rw [Ef.out]
  clear es
  go_wp2_with fail
  refine bodyPost_ret (v := .agg #[.int .i64 (o : Int), .string ⟨fs.toArray⟩, .bool x2]) (by simp [results, Try.results26, go_sem]) rfl ?_
  refine ⟨by rw [Eo.out, Ef.out], ((Upd.refl [] w).alloc _).alloc _⟩

theorem put_step (b : List UInt8) (off k : Nat) (s : List UInt8) (h : off + s.length ≤ b.length) (hk : k < s.length) : (put b off (s.take k)).set (off + k) s[k] = put b off (s.take (k + 1)) := by
  unfold put
  rw [List.take_succ_eq_append_getElem hk]
  have h1 : (b.take off).length = off := by simp; omega
  have h2 : (s.take k).length = k := by simp; omega
  rw [List.set_append_right _ _ (by omega), List.set_append_right _ _ (by omega), h1, h2, show off + k - off - k = 0 by omega]
  simp only [List.length_append, h2, List.length_cons, List.length_nil]
  have h3 : b.drop (off + k) = b[off + k]'(by omega) :: b.drop (off + k + 1) := List.drop_eq_getElem_cons (by omega)
  rw [h3, show off + (k + (0 + 1)) = off + k + 1 by omega]
  simp only [List.set_cons_zero, List.append_assoc, List.cons_append, List.nil_append]

/-- put -/
theorem put_any {g off n : Nat} (s : ByteArray) (b : List UInt8) (w : World) (hb : Blk w g 5 (bCells b)) (hn : b.length = n) (hf : off + s.size ≤ n) (hx : n ≤ 4194304) :
    Calls Try.prog 27 #[.slice (some ⟨g, 0, none⟩) n n, .int .i64 (off : Int), .string s] w fun e w' => e = .returned (.tuple #[]) ∧ Blk w' g 5 (bCells (put b off s.data.toList)) ∧ Upd [g] w w' := by
  have Hb := hide hb
  have Hn := hide hn
  have hsl : s.data.toList.length = s.size := by rw [← Lib.size_eq]
  have Hsl := hide hsl
  clear hb hn hsl
  go_enter Try.func27, Try.ntmps27
  go_wp2_with fail
  go_loopw [6] (fun i wr => ∃ k : Nat, k ≤ s.size ∧ i = .int .i64 k ∧ Upd [g] w wr ∧ Blk wr g 5 (bCells (put b off (s.data.toList.take k))))
    (fun i _ => s.size - (intOf i).toNat)
  case atStart => exact ⟨0, Nat.zero_le _, rfl, Upd.refl _ _, by
    have := Hb.out
    have e : put b off (s.data.toList.take 0) = b := by simp [put]
    rw [e]; exact this⟩
  case round =>
    obtain ⟨k, hk, rfl, uk, bk⟩ := hrel
    have UK := hide uk
    have BK := hide bk
    clear uk bk
    by_cases hlt : k < s.size
    · obtain ⟨u, hu⟩ : ∃ u, wr.cell? ⟨g, off + k, none⟩ = some u := by
        have hl : (put b off (s.data.toList.take k)).length = n := by
          rw [put_length _ _ _ (by rw [Hn.out]; have := List.length_take_le k s.data.toList; have := Hsl.out; simp; omega), Hn.out]
        rw [BK.out.cell, bCells, List.getElem?_map, List.getElem?_eq_getElem (by omega)]
        exact ⟨_, rfl⟩
      have hfr : wr.frozen? ⟨g, off + k, none⟩ = false := BK.out.frozen _
      go_wp2_with fail
      go_roundw
      case rel =>
        refine ⟨k + 1, by omega, by go_num, UK.out.setCell (.inl (by simp)) _, ?_⟩
        have h := BK.out.set_ (off + k) (.int .u8 (s[k].toNat : Int))
        have e : (bCells (put b off (s.data.toList.take k))).set (off + k) (.int .u8 (s[k].toNat : Int)) = bCells (put b off (s.data.toList.take (k + 1))) := by
          rw [← put_step b off k s.data.toList (by rw [Hn.out, Hsl.out]; exact hf) (by rw [Hsl.out]; exact hlt), bCells, bCells, List.map_set]
          rfl
        rw [e] at h
        exact h
      case measure => simp [intOf]; omega
    · obtain rfl : k = s.size := by omega
      go_wp2_with fail
      go_end0
      refine ⟨rfl, ?_, UK.out⟩
      have h := BK.out
      rwa [List.take_of_length_le (by rw [Hsl.out]; exact Nat.le_refl _)] at h
end Go.Proofs.Ythjcgaahnpbcdaa
