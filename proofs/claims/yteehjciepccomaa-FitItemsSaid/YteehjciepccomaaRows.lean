/-
  No cell of these rows narrows 'for every input' (looked for: loops, veiled, ifaces, maps, wideKeys, modest, calm, conditions, laid).
  DERIVED. THE GIVEN ROWS OF THIS SEAT. 7 by the template 'for every input the law returns true; each argument reads behind the call as it read before'; 0 by the template 'total and deterministic' (their statements: YteehjciepccomaaTotals.lean).
  GIVEN WITH THE SEED: the statements are not yours to turn. If you find one false, say at which input.
  Laid BY PROGRAM, IN A SANDBOX (cutbox-rows.mjs): the forced cells as the released guide's own fill.sh prints them over the translation 5c5a5f4b7529516c… (all of the seat's roots in one cut). By AI agents, Wed Nov 11 2026. No macro, syntax, notation, axiom, sorry.
-/
import Derived.Test.YteehjciepccomaaChecked
import GoSem.Claim
import GoSem.ClaimJoined
import GoSem.ClaimMapViews
import Derived.JoinedTies
import Derived.KernelRfl
namespace Go.Proofs.Yteehjciepccomaa
/- THE CELL 'sum', in the pinned program and in every row, IS THE sha256 OF THE DUMP (.gsa) THAT YteehjciepccomaaProg.lean LOADS. Nothing in Lean hashes anything: it is a label: what it is worth is what the hold of that sum in a sandbox is worth. -/
noncomputable def Try.pinned : Pinned := { name := "yteehjciepccomaa", sum := "5c5a5f4b7529516cafc15a2ff83d0fb7704910d3e06cabac2a22649e5c47349a", checked := Try.checked }
namespace Rows
def none {H : Type} : Left H := { results := [], args := [] }

/-- 'airchecklaw10.FitMatchesReference': WHATEVER THE INPUT: true; the input reads as it did. -/
def fitMatchesReferenceSpec : ChangeSpec := { name := "fitMatchesReference", fn := fun _ => fun
  | [d1, d2, d3, d4, d5, d6, d7, d8, d9] => { results := [.lit (.bool true)], args := [d1, d2, d3, d4, d5, d6, d7, d8, d9] }
  | _ => none }
def fitMatchesReferenceRow : OpenClaim := { program := "yteehjciepccomaa", sum := "5c5a5f4b7529516cafc15a2ff83d0fb7704910d3e06cabac2a22649e5c47349a", func := "aircheck/airchecklaw10.FitMatchesReference", spec := "fitMatchesReference", unfollowed := true, recurses := true, apart := false }
def FitMatchesReferenceSaid : Prop := fitMatchesReferenceRow.holds Try.pinned (OpenSpec.ofChange fitMatchesReferenceSpec)

/-- ITS FALSE NEIGHBOUR: 'it returns false'. Refute it at one input. -/
def fitMatchesReferenceWrong : ChangeSpec := { name := "fitMatchesReference", fn := fun _ => fun
  | [d1, d2, d3, d4, d5, d6, d7, d8, d9] => { results := [.lit (.bool false)], args := [d1, d2, d3, d4, d5, d6, d7, d8, d9] }
  | _ => none }
def FitMatchesReferenceWrongFalsely : Prop := fitMatchesReferenceRow.holds Try.pinned (OpenSpec.ofChange fitMatchesReferenceWrong)

/-- 'airchecklaw10.FitBest': WHATEVER THE INPUT: true; the input reads as it did. -/
def fitBestSpec : ChangeSpec := { name := "fitBest", fn := fun _ => fun
  | [d1, d2, d3] => { results := [.lit (.bool true)], args := [d1, d2, d3] }
  | _ => none }
def fitBestRow : OpenClaim := { program := "yteehjciepccomaa", sum := "5c5a5f4b7529516cafc15a2ff83d0fb7704910d3e06cabac2a22649e5c47349a", func := "aircheck/airchecklaw10.FitBest", spec := "fitBest", unfollowed := true, recurses := true, apart := false }
def FitBestSaid : Prop := fitBestRow.holds Try.pinned (OpenSpec.ofChange fitBestSpec)

/-- ITS FALSE NEIGHBOUR: 'it returns false'. Refute it at one input. -/
def fitBestWrong : ChangeSpec := { name := "fitBest", fn := fun _ => fun
  | [d1, d2, d3] => { results := [.lit (.bool false)], args := [d1, d2, d3] }
  | _ => none }
def FitBestWrongFalsely : Prop := fitBestRow.holds Try.pinned (OpenSpec.ofChange fitBestWrong)

/-- 'airchecklaw10.FitBlame': WHATEVER THE INPUT: true; the input reads as it did. -/
def fitBlameSpec : ChangeSpec := { name := "fitBlame", fn := fun _ => fun
  | [d1, d2] => { results := [.lit (.bool true)], args := [d1, d2] }
  | _ => none }
def fitBlameRow : OpenClaim := { program := "yteehjciepccomaa", sum := "5c5a5f4b7529516cafc15a2ff83d0fb7704910d3e06cabac2a22649e5c47349a", func := "aircheck/airchecklaw10.FitBlame", spec := "fitBlame", unfollowed := true, recurses := true, apart := false }
def FitBlameSaid : Prop := fitBlameRow.holds Try.pinned (OpenSpec.ofChange fitBlameSpec)

/-- ITS FALSE NEIGHBOUR: 'it returns false'. Refute it at one input. -/
def fitBlameWrong : ChangeSpec := { name := "fitBlame", fn := fun _ => fun
  | [d1, d2] => { results := [.lit (.bool false)], args := [d1, d2] }
  | _ => none }
def FitBlameWrongFalsely : Prop := fitBlameRow.holds Try.pinned (OpenSpec.ofChange fitBlameWrong)

/-- 'airchecklaw10.FitSteps': WHATEVER THE INPUT: true; the input reads as it did. -/
def fitStepsSpec : ChangeSpec := { name := "fitSteps", fn := fun _ => fun
  | [d1, d2, d3] => { results := [.lit (.bool true)], args := [d1, d2, d3] }
  | _ => none }
def fitStepsRow : OpenClaim := { program := "yteehjciepccomaa", sum := "5c5a5f4b7529516cafc15a2ff83d0fb7704910d3e06cabac2a22649e5c47349a", func := "aircheck/airchecklaw10.FitSteps", spec := "fitSteps", unfollowed := true, recurses := true, apart := false }
def FitStepsSaid : Prop := fitStepsRow.holds Try.pinned (OpenSpec.ofChange fitStepsSpec)

/-- ITS FALSE NEIGHBOUR: 'it returns false'. Refute it at one input. -/
def fitStepsWrong : ChangeSpec := { name := "fitSteps", fn := fun _ => fun
  | [d1, d2, d3] => { results := [.lit (.bool false)], args := [d1, d2, d3] }
  | _ => none }
def FitStepsWrongFalsely : Prop := fitStepsRow.holds Try.pinned (OpenSpec.ofChange fitStepsWrong)

/-- 'airchecklaw10.FitRest': WHATEVER THE INPUT: true; the input reads as it did. -/
def fitRestSpec : ChangeSpec := { name := "fitRest", fn := fun _ => fun
  | [d1, d2, d3, d4] => { results := [.lit (.bool true)], args := [d1, d2, d3, d4] }
  | _ => none }
def fitRestRow : OpenClaim := { program := "yteehjciepccomaa", sum := "5c5a5f4b7529516cafc15a2ff83d0fb7704910d3e06cabac2a22649e5c47349a", func := "aircheck/airchecklaw10.FitRest", spec := "fitRest", unfollowed := true, recurses := true, apart := false }
def FitRestSaid : Prop := fitRestRow.holds Try.pinned (OpenSpec.ofChange fitRestSpec)

/-- ITS FALSE NEIGHBOUR: 'it returns false'. Refute it at one input. -/
def fitRestWrong : ChangeSpec := { name := "fitRest", fn := fun _ => fun
  | [d1, d2, d3, d4] => { results := [.lit (.bool false)], args := [d1, d2, d3, d4] }
  | _ => none }
def FitRestWrongFalsely : Prop := fitRestRow.holds Try.pinned (OpenSpec.ofChange fitRestWrong)

/-- 'airchecklaw10.FitMore': WHATEVER THE INPUT: true; the input reads as it did. -/
def fitMoreSpec : ChangeSpec := { name := "fitMore", fn := fun _ => fun
  | [d1, d2, d3, d4] => { results := [.lit (.bool true)], args := [d1, d2, d3, d4] }
  | _ => none }
def fitMoreRow : OpenClaim := { program := "yteehjciepccomaa", sum := "5c5a5f4b7529516cafc15a2ff83d0fb7704910d3e06cabac2a22649e5c47349a", func := "aircheck/airchecklaw10.FitMore", spec := "fitMore", unfollowed := true, recurses := true, apart := false }
def FitMoreSaid : Prop := fitMoreRow.holds Try.pinned (OpenSpec.ofChange fitMoreSpec)

/-- ITS FALSE NEIGHBOUR: 'it returns false'. Refute it at one input. -/
def fitMoreWrong : ChangeSpec := { name := "fitMore", fn := fun _ => fun
  | [d1, d2, d3, d4] => { results := [.lit (.bool false)], args := [d1, d2, d3, d4] }
  | _ => none }
def FitMoreWrongFalsely : Prop := fitMoreRow.holds Try.pinned (OpenSpec.ofChange fitMoreWrong)

/-- 'airchecklaw10.FitItems': WHATEVER THE INPUT: true; the input reads as it did. -/
def fitItemsSpec : ChangeSpec := { name := "fitItems", fn := fun _ => fun
  | [d1, d2, d3] => { results := [.lit (.bool true)], args := [d1, d2, d3] }
  | _ => none }
def fitItemsRow : OpenClaim := { program := "yteehjciepccomaa", sum := "5c5a5f4b7529516cafc15a2ff83d0fb7704910d3e06cabac2a22649e5c47349a", func := "aircheck/airchecklaw10.FitItems", spec := "fitItems", unfollowed := true, recurses := true, apart := false }
def FitItemsSaid : Prop := fitItemsRow.holds Try.pinned (OpenSpec.ofChange fitItemsSpec)

/-- ITS FALSE NEIGHBOUR: 'it returns false'. Refute it at one input. -/
def fitItemsWrong : ChangeSpec := { name := "fitItems", fn := fun _ => fun
  | [d1, d2, d3] => { results := [.lit (.bool false)], args := [d1, d2, d3] }
  | _ => none }
def FitItemsWrongFalsely : Prop := fitItemsRow.holds Try.pinned (OpenSpec.ofChange fitItemsWrong)

/- THE SECOND FORM. 'bulk': how many values and letters a reading holds, each counted each time it is reached (what is shared counts as often as it is met; a slice's spare places count too). A statement '..UptoSaid' is the law's where the arguments, and the package variables that the reading takes, are together of bulk at most 1048576: NARROWER than '..Said'. Prove '..Said' where nothing that the law and all that it calls make is longer than what came in: it says more and counts as full. Else prove '..UptoSaid'. A law counts once. -/
mutual
def uptoBulk {H : Type} : DataW H → Nat
  | .lit (.string bytes) => bytes.length + 1
  | .lit _ => 1
  | .nil => 1
  | .ptr d => uptoBulk d + 1
  | .slice elems spare => uptoBulkAll elems + uptoBulkAll spare + 1
  | .agg parts => uptoBulkAll parts + 1
  | .iface _ d => uptoBulk d + 1
  | .map entries => uptoBulkEntries entries + 1
  | .held _ => 1
def uptoBulkAll {H : Type} : List (DataW H) → Nat
  | [] => 0
  | d :: r => uptoBulk d + uptoBulkAll r
def uptoBulkEntries {H : Type} : List (Lit × DataW H) → Nat
  | [] => 0
  | x :: r => uptoBulkEntry x + uptoBulkEntries r
def uptoBulkEntry {H : Type} : Lit × DataW H → Nat
  | (.string bytes, d) => bytes.length + uptoBulk d + 1
  | (_, d) => uptoBulk d + 1
 end
def uptoSmall : (H : Type) → List (DataW H) → Bool := fun _ ds => decide (uptoBulkAll ds ≤ 1048576)
def OpenSpec.upto (s : _root_.Go.ChangeSpec) : _root_.Go.OpenSpec := { _root_.Go.OpenSpec.ofChange s with cond := some uptoSmall }

/-- 'airchecklaw10.FitMatchesReference', WHERE WHAT IT READS IS OF BULK AT MOST 1048576: true; the input reads as it did. -/
def fitMatchesReferenceUptoRow : OpenClaim := { program := "yteehjciepccomaa", sum := "5c5a5f4b7529516cafc15a2ff83d0fb7704910d3e06cabac2a22649e5c47349a", func := "aircheck/airchecklaw10.FitMatchesReference", spec := "fitMatchesReference", unfollowed := true, recurses := true, apart := false, narrowed := true }
def FitMatchesReferenceUptoSaid : Prop := fitMatchesReferenceUptoRow.holds Try.pinned (OpenSpec.upto fitMatchesReferenceSpec)

/-- 'airchecklaw10.FitBest', WHERE WHAT IT READS IS OF BULK AT MOST 1048576: true; the input reads as it did. -/
def fitBestUptoRow : OpenClaim := { program := "yteehjciepccomaa", sum := "5c5a5f4b7529516cafc15a2ff83d0fb7704910d3e06cabac2a22649e5c47349a", func := "aircheck/airchecklaw10.FitBest", spec := "fitBest", unfollowed := true, recurses := true, apart := false, narrowed := true }
def FitBestUptoSaid : Prop := fitBestUptoRow.holds Try.pinned (OpenSpec.upto fitBestSpec)

/-- 'airchecklaw10.FitBlame', WHERE WHAT IT READS IS OF BULK AT MOST 1048576: true; the input reads as it did. -/
def fitBlameUptoRow : OpenClaim := { program := "yteehjciepccomaa", sum := "5c5a5f4b7529516cafc15a2ff83d0fb7704910d3e06cabac2a22649e5c47349a", func := "aircheck/airchecklaw10.FitBlame", spec := "fitBlame", unfollowed := true, recurses := true, apart := false, narrowed := true }
def FitBlameUptoSaid : Prop := fitBlameUptoRow.holds Try.pinned (OpenSpec.upto fitBlameSpec)

/-- 'airchecklaw10.FitSteps', WHERE WHAT IT READS IS OF BULK AT MOST 1048576: true; the input reads as it did. -/
def fitStepsUptoRow : OpenClaim := { program := "yteehjciepccomaa", sum := "5c5a5f4b7529516cafc15a2ff83d0fb7704910d3e06cabac2a22649e5c47349a", func := "aircheck/airchecklaw10.FitSteps", spec := "fitSteps", unfollowed := true, recurses := true, apart := false, narrowed := true }
def FitStepsUptoSaid : Prop := fitStepsUptoRow.holds Try.pinned (OpenSpec.upto fitStepsSpec)

/-- 'airchecklaw10.FitRest', WHERE WHAT IT READS IS OF BULK AT MOST 1048576: true; the input reads as it did. -/
def fitRestUptoRow : OpenClaim := { program := "yteehjciepccomaa", sum := "5c5a5f4b7529516cafc15a2ff83d0fb7704910d3e06cabac2a22649e5c47349a", func := "aircheck/airchecklaw10.FitRest", spec := "fitRest", unfollowed := true, recurses := true, apart := false, narrowed := true }
def FitRestUptoSaid : Prop := fitRestUptoRow.holds Try.pinned (OpenSpec.upto fitRestSpec)

/-- 'airchecklaw10.FitMore', WHERE WHAT IT READS IS OF BULK AT MOST 1048576: true; the input reads as it did. -/
def fitMoreUptoRow : OpenClaim := { program := "yteehjciepccomaa", sum := "5c5a5f4b7529516cafc15a2ff83d0fb7704910d3e06cabac2a22649e5c47349a", func := "aircheck/airchecklaw10.FitMore", spec := "fitMore", unfollowed := true, recurses := true, apart := false, narrowed := true }
def FitMoreUptoSaid : Prop := fitMoreUptoRow.holds Try.pinned (OpenSpec.upto fitMoreSpec)

/-- 'airchecklaw10.FitItems', WHERE WHAT IT READS IS OF BULK AT MOST 1048576: true; the input reads as it did. -/
def fitItemsUptoRow : OpenClaim := { program := "yteehjciepccomaa", sum := "5c5a5f4b7529516cafc15a2ff83d0fb7704910d3e06cabac2a22649e5c47349a", func := "aircheck/airchecklaw10.FitItems", spec := "fitItems", unfollowed := true, recurses := true, apart := false, narrowed := true }
def FitItemsUptoSaid : Prop := fitItemsUptoRow.holds Try.pinned (OpenSpec.upto fitItemsSpec)

end Rows
end Go.Proofs.Yteehjciepccomaa
