/-
  No cell of these rows narrows 'for every input' (looked for: loops, veiled, ifaces, maps, wideKeys, modest, calm, conditions, laid).
  DERIVED. THE GIVEN ROWS OF THIS SEAT. 6 by the template 'for every input the law returns true; each argument reads behind the call as it read before'; 0 by the template 'total and deterministic' (their statements: YtpkeimdlcafcnaaTotals.lean).
  GIVEN WITH THE SEED: the statements are not yours to turn. If you find one false, say at which input.
  Laid BY PROGRAM, IN A SANDBOX (cutbox-rows.mjs): the forced cells as the released guide's own fill.sh prints them over the translation 3288aab9a0b0b626… (all of the seat's roots in one cut). By AI agents, Wed Nov 11 2026. No macro, syntax, notation, axiom, sorry.
-/
import Derived.Test.YtpkeimdlcafcnaaChecked
import GoSem.Claim
import GoSem.ClaimJoined
import GoSem.ClaimMapViews
import Derived.JoinedTies
import Derived.KernelRfl
namespace Go.Proofs.Ytpkeimdlcafcnaa
/- THE CELL 'sum', in the pinned program and in every row, IS THE sha256 OF THE DUMP (.gsa) THAT YtpkeimdlcafcnaaProg.lean LOADS. Nothing in Lean hashes anything: it is a label: what it is worth is what the hold of that sum in a sandbox is worth. -/
noncomputable def Try.pinned : Pinned := { name := "ytpkeimdlcafcnaa", sum := "3288aab9a0b0b62661c01a96db0ca0ef07e6b94a219737b47633c38df0ad22be", checked := Try.checked }
namespace Rows
def none {H : Type} : Left H := { results := [], args := [] }

/-- 'airchecklaw07.ItemMatchesReference': WHATEVER THE INPUT: true; the input reads as it did. -/
def itemMatchesReferenceSpec : ChangeSpec := { name := "itemMatchesReference", fn := fun _ => fun
  | [d1, d2, d3, d4, d5, d6, d7, d8, d9, d10] => { results := [.lit (.bool true)], args := [d1, d2, d3, d4, d5, d6, d7, d8, d9, d10] }
  | _ => none }
def itemMatchesReferenceRow : OpenClaim := { program := "ytpkeimdlcafcnaa", sum := "3288aab9a0b0b62661c01a96db0ca0ef07e6b94a219737b47633c38df0ad22be", func := "aircheck/airchecklaw07.ItemMatchesReference", spec := "itemMatchesReference", inPlace := ["internal/abi.NoEscape"], unfollowed := true, recurses := true, apart := false }
def ItemMatchesReferenceSaid : Prop := itemMatchesReferenceRow.holds Try.pinned (OpenSpec.ofChange itemMatchesReferenceSpec)

/-- ITS FALSE NEIGHBOUR: 'it returns false'. Refute it at one input. -/
def itemMatchesReferenceWrong : ChangeSpec := { name := "itemMatchesReference", fn := fun _ => fun
  | [d1, d2, d3, d4, d5, d6, d7, d8, d9, d10] => { results := [.lit (.bool false)], args := [d1, d2, d3, d4, d5, d6, d7, d8, d9, d10] }
  | _ => none }
def ItemMatchesReferenceWrongFalsely : Prop := itemMatchesReferenceRow.holds Try.pinned (OpenSpec.ofChange itemMatchesReferenceWrong)

/-- 'airchecklaw07.ItemLengths': WHATEVER THE INPUT: true; the input reads as it did. -/
def itemLengthsSpec : ChangeSpec := { name := "itemLengths", fn := fun _ => fun
  | [d1, d2, d3] => { results := [.lit (.bool true)], args := [d1, d2, d3] }
  | _ => none }
def itemLengthsRow : OpenClaim := { program := "ytpkeimdlcafcnaa", sum := "3288aab9a0b0b62661c01a96db0ca0ef07e6b94a219737b47633c38df0ad22be", func := "aircheck/airchecklaw07.ItemLengths", spec := "itemLengths", inPlace := ["internal/abi.NoEscape"], unfollowed := true, recurses := true, apart := false }
def ItemLengthsSaid : Prop := itemLengthsRow.holds Try.pinned (OpenSpec.ofChange itemLengthsSpec)

/-- ITS FALSE NEIGHBOUR: 'it returns false'. Refute it at one input. -/
def itemLengthsWrong : ChangeSpec := { name := "itemLengths", fn := fun _ => fun
  | [d1, d2, d3] => { results := [.lit (.bool false)], args := [d1, d2, d3] }
  | _ => none }
def ItemLengthsWrongFalsely : Prop := itemLengthsRow.holds Try.pinned (OpenSpec.ofChange itemLengthsWrong)

/-- 'airchecklaw07.ItemFewest': WHATEVER THE INPUT: true; the input reads as it did. -/
def itemFewestSpec : ChangeSpec := { name := "itemFewest", fn := fun _ => fun
  | [d1, d2, d3, d4] => { results := [.lit (.bool true)], args := [d1, d2, d3, d4] }
  | _ => none }
def itemFewestRow : OpenClaim := { program := "ytpkeimdlcafcnaa", sum := "3288aab9a0b0b62661c01a96db0ca0ef07e6b94a219737b47633c38df0ad22be", func := "aircheck/airchecklaw07.ItemFewest", spec := "itemFewest", inPlace := ["internal/abi.NoEscape"], unfollowed := true, recurses := true, apart := false }
def ItemFewestSaid : Prop := itemFewestRow.holds Try.pinned (OpenSpec.ofChange itemFewestSpec)

/-- ITS FALSE NEIGHBOUR: 'it returns false'. Refute it at one input. -/
def itemFewestWrong : ChangeSpec := { name := "itemFewest", fn := fun _ => fun
  | [d1, d2, d3, d4] => { results := [.lit (.bool false)], args := [d1, d2, d3, d4] }
  | _ => none }
def ItemFewestWrongFalsely : Prop := itemFewestRow.holds Try.pinned (OpenSpec.ofChange itemFewestWrong)

/-- 'airchecklaw07.ItemPlaces': WHATEVER THE INPUT: true; the input reads as it did. -/
def itemPlacesSpec : ChangeSpec := { name := "itemPlaces", fn := fun _ => fun
  | [d1, d2, d3, d4] => { results := [.lit (.bool true)], args := [d1, d2, d3, d4] }
  | _ => none }
def itemPlacesRow : OpenClaim := { program := "ytpkeimdlcafcnaa", sum := "3288aab9a0b0b62661c01a96db0ca0ef07e6b94a219737b47633c38df0ad22be", func := "aircheck/airchecklaw07.ItemPlaces", spec := "itemPlaces", inPlace := ["internal/abi.NoEscape"], unfollowed := true, recurses := true, apart := false }
def ItemPlacesSaid : Prop := itemPlacesRow.holds Try.pinned (OpenSpec.ofChange itemPlacesSpec)

/-- ITS FALSE NEIGHBOUR: 'it returns false'. Refute it at one input. -/
def itemPlacesWrong : ChangeSpec := { name := "itemPlaces", fn := fun _ => fun
  | [d1, d2, d3, d4] => { results := [.lit (.bool false)], args := [d1, d2, d3, d4] }
  | _ => none }
def ItemPlacesWrongFalsely : Prop := itemPlacesRow.holds Try.pinned (OpenSpec.ofChange itemPlacesWrong)

/-- 'airchecklaw07.ItemTalk': WHATEVER THE INPUT: true; the input reads as it did. -/
def itemTalkSpec : ChangeSpec := { name := "itemTalk", fn := fun _ => fun
  | [d1, d2, d3, d4, d5] => { results := [.lit (.bool true)], args := [d1, d2, d3, d4, d5] }
  | _ => none }
def itemTalkRow : OpenClaim := { program := "ytpkeimdlcafcnaa", sum := "3288aab9a0b0b62661c01a96db0ca0ef07e6b94a219737b47633c38df0ad22be", func := "aircheck/airchecklaw07.ItemTalk", spec := "itemTalk", inPlace := ["internal/abi.NoEscape"], unfollowed := true, recurses := true, apart := false }
def ItemTalkSaid : Prop := itemTalkRow.holds Try.pinned (OpenSpec.ofChange itemTalkSpec)

/-- ITS FALSE NEIGHBOUR: 'it returns false'. Refute it at one input. -/
def itemTalkWrong : ChangeSpec := { name := "itemTalk", fn := fun _ => fun
  | [d1, d2, d3, d4, d5] => { results := [.lit (.bool false)], args := [d1, d2, d3, d4, d5] }
  | _ => none }
def ItemTalkWrongFalsely : Prop := itemTalkRow.holds Try.pinned (OpenSpec.ofChange itemTalkWrong)

/-- 'airchecklaw07.ItemEncoding': WHATEVER THE INPUT: true; the input reads as it did. -/
def itemEncodingSpec : ChangeSpec := { name := "itemEncoding", fn := fun _ => fun
  | [d1, d2, d3, d4, d5, d6, d7] => { results := [.lit (.bool true)], args := [d1, d2, d3, d4, d5, d6, d7] }
  | _ => none }
def itemEncodingRow : OpenClaim := { program := "ytpkeimdlcafcnaa", sum := "3288aab9a0b0b62661c01a96db0ca0ef07e6b94a219737b47633c38df0ad22be", func := "aircheck/airchecklaw07.ItemEncoding", spec := "itemEncoding", inPlace := ["internal/abi.NoEscape"], unfollowed := true, recurses := true, apart := false }
def ItemEncodingSaid : Prop := itemEncodingRow.holds Try.pinned (OpenSpec.ofChange itemEncodingSpec)

/-- ITS FALSE NEIGHBOUR: 'it returns false'. Refute it at one input. -/
def itemEncodingWrong : ChangeSpec := { name := "itemEncoding", fn := fun _ => fun
  | [d1, d2, d3, d4, d5, d6, d7] => { results := [.lit (.bool false)], args := [d1, d2, d3, d4, d5, d6, d7] }
  | _ => none }
def ItemEncodingWrongFalsely : Prop := itemEncodingRow.holds Try.pinned (OpenSpec.ofChange itemEncodingWrong)

/- THE SECOND FORM. 'bulk': how many values and letters a reading holds, each counted each time it is reached (what is shared counts as often as it is met; a slice's spare places count too). A statement '..UptoSaid' is the law's where the arguments, and the package variables that the reading takes, are together of bulk at most 1048576: NARROWER than '..Said'. Prove '..Said' where nothing that the law and all that it calls make is longer than what came in: it says more and counts as full. Else prove '..UptoSaid'. A law counts once. -/
mutual
def uptoBulk {H : Type} : DataW H → Nat
  | .lit (.string bytes) => bytes.length + 1
  | .lit _ => 1
  | .nil => 1
  | .ptr d => uptoBulk d + 1
  | .slice elems spare => uptoBulkAll elems + uptoBulkAll spare + 1
  | .agg parts => uptoBulkAll parts + 1
  | .iface _ d => uptoBulk d + 1
  | .map entries => uptoBulkEntries entries + 1
  | .held _ => 1
def uptoBulkAll {H : Type} : List (DataW H) → Nat
  | [] => 0
  | d :: r => uptoBulk d + uptoBulkAll r
def uptoBulkEntries {H : Type} : List (Lit × DataW H) → Nat
  | [] => 0
  | x :: r => uptoBulkEntry x + uptoBulkEntries r
def uptoBulkEntry {H : Type} : Lit × DataW H → Nat
  | (.string bytes, d) => bytes.length + uptoBulk d + 1
  | (_, d) => uptoBulk d + 1
 end
def uptoSmall : (H : Type) → List (DataW H) → Bool := fun _ ds => decide (uptoBulkAll ds ≤ 1048576)
def OpenSpec.upto (s : _root_.Go.ChangeSpec) : _root_.Go.OpenSpec := { _root_.Go.OpenSpec.ofChange s with cond := some uptoSmall }

/-- 'airchecklaw07.ItemMatchesReference', WHERE WHAT IT READS IS OF BULK AT MOST 1048576: true; the input reads as it did. -/
def itemMatchesReferenceUptoRow : OpenClaim := { program := "ytpkeimdlcafcnaa", sum := "3288aab9a0b0b62661c01a96db0ca0ef07e6b94a219737b47633c38df0ad22be", func := "aircheck/airchecklaw07.ItemMatchesReference", spec := "itemMatchesReference", inPlace := ["internal/abi.NoEscape"], unfollowed := true, recurses := true, apart := false, narrowed := true }
def ItemMatchesReferenceUptoSaid : Prop := itemMatchesReferenceUptoRow.holds Try.pinned (OpenSpec.upto itemMatchesReferenceSpec)

/-- 'airchecklaw07.ItemLengths', WHERE WHAT IT READS IS OF BULK AT MOST 1048576: true; the input reads as it did. -/
def itemLengthsUptoRow : OpenClaim := { program := "ytpkeimdlcafcnaa", sum := "3288aab9a0b0b62661c01a96db0ca0ef07e6b94a219737b47633c38df0ad22be", func := "aircheck/airchecklaw07.ItemLengths", spec := "itemLengths", inPlace := ["internal/abi.NoEscape"], unfollowed := true, recurses := true, apart := false, narrowed := true }
def ItemLengthsUptoSaid : Prop := itemLengthsUptoRow.holds Try.pinned (OpenSpec.upto itemLengthsSpec)

/-- 'airchecklaw07.ItemFewest', WHERE WHAT IT READS IS OF BULK AT MOST 1048576: true; the input reads as it did. -/
def itemFewestUptoRow : OpenClaim := { program := "ytpkeimdlcafcnaa", sum := "3288aab9a0b0b62661c01a96db0ca0ef07e6b94a219737b47633c38df0ad22be", func := "aircheck/airchecklaw07.ItemFewest", spec := "itemFewest", inPlace := ["internal/abi.NoEscape"], unfollowed := true, recurses := true, apart := false, narrowed := true }
def ItemFewestUptoSaid : Prop := itemFewestUptoRow.holds Try.pinned (OpenSpec.upto itemFewestSpec)

/-- 'airchecklaw07.ItemPlaces', WHERE WHAT IT READS IS OF BULK AT MOST 1048576: true; the input reads as it did. -/
def itemPlacesUptoRow : OpenClaim := { program := "ytpkeimdlcafcnaa", sum := "3288aab9a0b0b62661c01a96db0ca0ef07e6b94a219737b47633c38df0ad22be", func := "aircheck/airchecklaw07.ItemPlaces", spec := "itemPlaces", inPlace := ["internal/abi.NoEscape"], unfollowed := true, recurses := true, apart := false, narrowed := true }
def ItemPlacesUptoSaid : Prop := itemPlacesUptoRow.holds Try.pinned (OpenSpec.upto itemPlacesSpec)

/-- 'airchecklaw07.ItemTalk', WHERE WHAT IT READS IS OF BULK AT MOST 1048576: true; the input reads as it did. -/
def itemTalkUptoRow : OpenClaim := { program := "ytpkeimdlcafcnaa", sum := "3288aab9a0b0b62661c01a96db0ca0ef07e6b94a219737b47633c38df0ad22be", func := "aircheck/airchecklaw07.ItemTalk", spec := "itemTalk", inPlace := ["internal/abi.NoEscape"], unfollowed := true, recurses := true, apart := false, narrowed := true }
def ItemTalkUptoSaid : Prop := itemTalkUptoRow.holds Try.pinned (OpenSpec.upto itemTalkSpec)

/-- 'airchecklaw07.ItemEncoding', WHERE WHAT IT READS IS OF BULK AT MOST 1048576: true; the input reads as it did. -/
def itemEncodingUptoRow : OpenClaim := { program := "ytpkeimdlcafcnaa", sum := "3288aab9a0b0b62661c01a96db0ca0ef07e6b94a219737b47633c38df0ad22be", func := "aircheck/airchecklaw07.ItemEncoding", spec := "itemEncoding", inPlace := ["internal/abi.NoEscape"], unfollowed := true, recurses := true, apart := false, narrowed := true }
def ItemEncodingUptoSaid : Prop := itemEncodingUptoRow.holds Try.pinned (OpenSpec.upto itemEncodingSpec)

end Rows
end Go.Proofs.Ytpkeimdlcafcnaa
