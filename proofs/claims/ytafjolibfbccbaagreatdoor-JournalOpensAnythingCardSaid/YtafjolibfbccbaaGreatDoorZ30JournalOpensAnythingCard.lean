/-
  What a row's listed variables give the walks: the table of digest, the error of journal.
-/
import Derived.Test.YtafjolibfbccbaaGreatDoorRows
import Derived.Test.YtafjolibfbccbaaGreatDoorZ27JournalOpensAnythingCard
import Derived.Stop.LaidErr
import Derived.Lib.LaidTab
import Derived.MakeChecks

namespace Go.Proofs.YtafjolibfbccbaaGreatDoor
open Go.RowKit
set_option maxRecDepth 100000

def ksOf : DataW Unit → List Int
  | .agg l => l.map fun | .lit (.int _ z) => z | _ => 0
  | _ => []
def keysL : List Int := ksOf Rows.laid_aircheck_digest_round
theorem keys_data : (Rows.laid_aircheck_digest_round : DataW Unit) = Lib.tabData .u32 keysL := rfl
theorem keys_len : keysL.length = 64 := by kernel_rfl
def laidL : List (String × DataW Unit) := [("unicode/utf8.acceptRanges", Rows.laid_unicode_utf8_acceptRanges), ("aircheck/digest.round", Rows.laid_aircheck_digest_round), ("aircheck/journal.errDamaged", Rows.laid_aircheck_journal_errDamaged), ("unicode/utf8.first", Rows.laid_unicode_utf8_first)]
theorem gRound : Tryz.prog.globalNamed "aircheck/digest.round" = some 3 := by kernel_rfl
theorem gRoundT : (Tryz.prog.globals[(3 : Nat)]?).map (·.type) = some 214 := by kernel_rfl
theorem gErr : Tryz.prog.globalNamed "aircheck/journal.errDamaged" = some 0 := by kernel_rfl
theorem gErrT : (Tryz.prog.globals[(0 : Nat)]?).map (·.type) = some 80 := by kernel_rfl
theorem star : "*" ++ "errors.errorString" = "*errors.errorString" := by decide
theorem rowErr (u : TypeId) (h : Tryz.prog.typeName? 3 u = some "*errors.errorString") : u = 222 :=
  typeName_ptr_named (nm := "errors.errorString") (by rw [star]; kernel_rfl) (by kernel_rfl) (by decide) u (by rw [star]; exact h)
theorem laid_of {W : World} (h0 : laidMetH Tryz.prog laidL W) : ∃ a0, Laid W.heap.size keysL a0 W := by
  rw [MakeChecks.laidMetH_plain _ _ _ (by kernel_rfl)] at h0
  have h1 := h0.tail
  rw [keys_data] at h1
  have hT := Lib.tabIs_of_head gRound gRoundT Tryz.underlying214 Tryz.underlying109 (by kernel_rfl) (by kernel_rfl) h1
  obtain ⟨a0, s, hv, hc, _, _⟩ := laid_sentinel h1.tail gErr gErrT Tryz.underlying80 rowErr Tryz.underlying222 Tryz.underlying244 rfl rfl Tryz.underlying9 (by kernel_rfl) (by kernel_rfl)
  have hE : ErrAt W a0 := by
    unfold ErrAt
    have := World.var?_cell gErr hv 0
    simpa using this
  have hR : RoundAt W keysL := by
    unfold Lib.TabIs World.var? at hT
    rw [gRound] at hT
    simp only [Option.bind_some] at hT
    unfold RoundAt
    revert hT
    generalize W.heap[(3 : Nat)]? = o
    intro hT
    match o, hT with
    | some (.cells cs t fr), hT => exact ⟨t, fr, by rw [Option.some.inj hT]⟩
  refine ⟨a0, hR, keys_len, hE, ?_, ?_⟩
  · obtain ⟨t, fr, hg⟩ := hR
    exact (Array.getElem?_eq_some_iff.1 hg).1
  · exact World.block_lt_of_cell? _ _ hE
end Go.Proofs.YtafjolibfbccbaaGreatDoor
