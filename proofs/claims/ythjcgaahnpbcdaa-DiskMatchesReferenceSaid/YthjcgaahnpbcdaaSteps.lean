/-
  A slice of calls that came in.
-/
import Derived.Test.YthjcgaahnpbcdaaPair
namespace Go.Proofs.Ythjcgaahnpbcdaa
open Go.RowKit
set_option maxRecDepth 100000
set_option maxHeartbeats 1000000

/-- A call that came in: which, an offset, a number, a string, a list of numbers. -/
structure StepP where
  call : Int
  off : Int
  n : Int
  s : ByteArray
  a : Option Addr
  len : Nat
  cap : Nat
  keep : List Int
def StepR (W : World) (x : StepP) (vs : List Value) : Prop := vs = [.int .i64 x.call, .int .i64 x.off, .int .i64 x.n, .string x.s, .slice x.a x.len x.cap] ∧
  (Lit.int .i64 x.call).wf = true ∧ (Lit.int .i64 x.off).wf = true ∧ (Lit.int .i64 x.n).wf = true ∧ x.s.size ≤ maxLen ∧ IntsArg W x.a x.len x.cap x.keep
def StepsArg (W : World) (a : Option Addr) (len cap : Nat) (xs : List StepP) : Prop := RowArg W a len cap 5 StepR xs
open Go.Deep Go.ChangeShapes in
theorem open_steps {H : Type} {enc : TypeId × Value → H} {w : World} {base : Nat} {spare : Nat → Bool} {held : Bool} {a : Option Addr} {len cap : Nat} {d : DataW H} {p : List MemPlace}
    (h : DataW.Trod enc Try.prog w base spare held 32 (.slice a len cap) d p) : ∃ xs, StepsArg w a len cap xs := by
  refine open_rows Try.underlying32 Try.underlying39 (by kernel_rfl) (by kernel_rfl) (by decide) StepR (fun n vs hl hv => ?_) h
  match vs, hl with
  | [v0, v1, v2, v3, v4], _ =>
    obtain ⟨y0, h0⟩ := hv 0 _ v0 rfl rfl
    obtain ⟨y1, h1⟩ := hv 1 _ v1 rfl rfl
    obtain ⟨y2, h2⟩ := hv 2 _ v2 rfl rfl
    obtain ⟨y3, h3⟩ := hv 3 _ v3 rfl rfl
    obtain ⟨y4, h4⟩ := hv 4 _ v4 rfl rfl
    obtain ⟨x0, e0, _, w0⟩ := DataW.trod_int Try.underlying3 h0
    obtain ⟨x1, e1, _, w1⟩ := DataW.trod_int Try.underlying3 h1
    obtain ⟨x2, e2, _, w2⟩ := DataW.trod_int Try.underlying3 h2
    obtain ⟨x3, e3, _, w3⟩ := DataW.trod_string Try.underlying9 h3
    simp at e0 e1 e2 e3
    subst e0 e1 e2 e3
    obtain ⟨y4a, y4b⟩ := y4
    have hsl : ∃ aa l c, v4 = .slice aa l c := by
      rcases open_slice1 Try.underlying37 (by kernel_rfl) h4 with ⟨hcs, _⟩ | ⟨x, l, c, m, n, V, Dt, Pl, hcs, _⟩
      · exact ⟨none, 0, 0, by simpa using hcs⟩
      · exact ⟨_, _, _, by simpa using hcs⟩
    obtain ⟨aa, l, c, rfl⟩ := hsl
    obtain ⟨zs, hz⟩ := open_ints_arg Try.underlying37 Try.underlying3 (by kernel_rfl) (show DataW.Trod enc Try.prog w base spare held 37 (.slice aa l c) y4a y4b from ⟨n, h4⟩)
    exact ⟨⟨x0, x1, x2, x3, aa, l, c, zs⟩, rfl, w0, w1, w2, w3, hz⟩
end Go.Proofs.Ythjcgaahnpbcdaa
