/-
  No cell of these rows narrows 'for every input' (looked for: loops, veiled, ifaces, maps, wideKeys, modest, calm, conditions, laid).
  DERIVED. THE GIVEN ROWS OF THIS SEAT. 12 by the template 'for every input the law returns true; each argument reads behind the call as it read before'; 0 by the template 'total and deterministic' (their statements: YthkbaaclbjnkiaaTotals.lean).
  GIVEN WITH THE SEED: the statements are not yours to turn. If you find one false, say at which input.
  Laid BY PROGRAM, IN A SANDBOX (cutbox-rows.mjs): the forced cells as the released guide's own fill.sh prints them over the translation d17996940d08726d… (all of the seat's roots in one cut). By AI agents, Wed Nov 11 2026. No macro, syntax, notation, axiom, sorry.
-/
import Derived.Test.YthkbaaclbjnkiaaChecked
import GoSem.Claim
import GoSem.ClaimJoined
import GoSem.ClaimMapViews
import Derived.JoinedTies
import Derived.KernelRfl
namespace Go.Proofs.Ythkbaaclbjnkiaa
/- THE CELL 'sum', in the pinned program and in every row, IS THE sha256 OF THE DUMP (.gsa) THAT YthkbaaclbjnkiaaProg.lean LOADS. Nothing in Lean hashes anything: it is a label: what it is worth is what the hold of that sum in a sandbox is worth. -/
noncomputable def Try.pinned : Pinned := { name := "ythkbaaclbjnkiaa", sum := "d17996940d08726d87e828cbb60a1eb2dcc851a3bb3756530cb3a5f75358a75b", checked := Try.checked }
namespace Rows
def none {H : Type} : Left H := { results := [], args := [] }

/-- 'laws.FnExactNewMix': WHATEVER THE INPUT: true; the input reads as it did. -/
def fnExactNewMixSpec : ChangeSpec := { name := "fnExactNewMix", fn := fun _ => fun
  | [d] => { results := [.lit (.bool true)], args := [d] }
  | _ => none }
def fnExactNewMixRow : OpenClaim := { program := "ythkbaaclbjnkiaa", sum := "d17996940d08726d87e828cbb60a1eb2dcc851a3bb3756530cb3a5f75358a75b", func := "loop.example/g00537/laws.FnExactNewMix", spec := "fnExactNewMix", apart := false }
def FnExactNewMixSaid : Prop := fnExactNewMixRow.holds Try.pinned (OpenSpec.ofChange fnExactNewMixSpec)

/-- ITS FALSE NEIGHBOUR: 'it returns false'. Refute it at one input. -/
def fnExactNewMixWrong : ChangeSpec := { name := "fnExactNewMix", fn := fun _ => fun
  | [d] => { results := [.lit (.bool false)], args := [d] }
  | _ => none }
def FnExactNewMixWrongFalsely : Prop := fnExactNewMixRow.holds Try.pinned (OpenSpec.ofChange fnExactNewMixWrong)

/-- 'laws.FnExactGoodMix': WHATEVER THE INPUT: true; the input reads as it did. -/
def fnExactGoodMixSpec : ChangeSpec := { name := "fnExactGoodMix", fn := fun _ => fun
  | [d] => { results := [.lit (.bool true)], args := [d] }
  | _ => none }
def fnExactGoodMixRow : OpenClaim := { program := "ythkbaaclbjnkiaa", sum := "d17996940d08726d87e828cbb60a1eb2dcc851a3bb3756530cb3a5f75358a75b", func := "loop.example/g00537/laws.FnExactGoodMix", spec := "fnExactGoodMix", apart := false }
def FnExactGoodMixSaid : Prop := fnExactGoodMixRow.holds Try.pinned (OpenSpec.ofChange fnExactGoodMixSpec)

/-- ITS FALSE NEIGHBOUR: 'it returns false'. Refute it at one input. -/
def fnExactGoodMixWrong : ChangeSpec := { name := "fnExactGoodMix", fn := fun _ => fun
  | [d] => { results := [.lit (.bool false)], args := [d] }
  | _ => none }
def FnExactGoodMixWrongFalsely : Prop := fnExactGoodMixRow.holds Try.pinned (OpenSpec.ofChange fnExactGoodMixWrong)

/-- 'laws.FnExactEndMix': WHATEVER THE INPUT: true; the input reads as it did. -/
def fnExactEndMixSpec : ChangeSpec := { name := "fnExactEndMix", fn := fun _ => fun
  | [d] => { results := [.lit (.bool true)], args := [d] }
  | _ => none }
def fnExactEndMixRow : OpenClaim := { program := "ythkbaaclbjnkiaa", sum := "d17996940d08726d87e828cbb60a1eb2dcc851a3bb3756530cb3a5f75358a75b", func := "loop.example/g00537/laws.FnExactEndMix", spec := "fnExactEndMix", apart := false }
def FnExactEndMixSaid : Prop := fnExactEndMixRow.holds Try.pinned (OpenSpec.ofChange fnExactEndMixSpec)

/-- ITS FALSE NEIGHBOUR: 'it returns false'. Refute it at one input. -/
def fnExactEndMixWrong : ChangeSpec := { name := "fnExactEndMix", fn := fun _ => fun
  | [d] => { results := [.lit (.bool false)], args := [d] }
  | _ => none }
def FnExactEndMixWrongFalsely : Prop := fnExactEndMixRow.holds Try.pinned (OpenSpec.ofChange fnExactEndMixWrong)

/-- 'laws.FnExactJoinMixes': WHATEVER THE INPUT: true; the input reads as it did. -/
def fnExactJoinMixesSpec : ChangeSpec := { name := "fnExactJoinMixes", fn := fun _ => fun
  | [d1, d2] => { results := [.lit (.bool true)], args := [d1, d2] }
  | _ => none }
def fnExactJoinMixesRow : OpenClaim := { program := "ythkbaaclbjnkiaa", sum := "d17996940d08726d87e828cbb60a1eb2dcc851a3bb3756530cb3a5f75358a75b", func := "loop.example/g00537/laws.FnExactJoinMixes", spec := "fnExactJoinMixes", apart := false }
def FnExactJoinMixesSaid : Prop := fnExactJoinMixesRow.holds Try.pinned (OpenSpec.ofChange fnExactJoinMixesSpec)

/-- ITS FALSE NEIGHBOUR: 'it returns false'. Refute it at one input. -/
def fnExactJoinMixesWrong : ChangeSpec := { name := "fnExactJoinMixes", fn := fun _ => fun
  | [d1, d2] => { results := [.lit (.bool false)], args := [d1, d2] }
  | _ => none }
def FnExactJoinMixesWrongFalsely : Prop := fnExactJoinMixesRow.holds Try.pinned (OpenSpec.ofChange fnExactJoinMixesWrong)

/-- 'laws.FnExactFeedMix': WHATEVER THE INPUT: true; the input reads as it did. -/
def fnExactFeedMixSpec : ChangeSpec := { name := "fnExactFeedMix", fn := fun _ => fun
  | [d1, d2] => { results := [.lit (.bool true)], args := [d1, d2] }
  | _ => none }
def fnExactFeedMixRow : OpenClaim := { program := "ythkbaaclbjnkiaa", sum := "d17996940d08726d87e828cbb60a1eb2dcc851a3bb3756530cb3a5f75358a75b", func := "loop.example/g00537/laws.FnExactFeedMix", spec := "fnExactFeedMix", apart := false }
def FnExactFeedMixSaid : Prop := fnExactFeedMixRow.holds Try.pinned (OpenSpec.ofChange fnExactFeedMixSpec)

/-- ITS FALSE NEIGHBOUR: 'it returns false'. Refute it at one input. -/
def fnExactFeedMixWrong : ChangeSpec := { name := "fnExactFeedMix", fn := fun _ => fun
  | [d1, d2] => { results := [.lit (.bool false)], args := [d1, d2] }
  | _ => none }
def FnExactFeedMixWrongFalsely : Prop := fnExactFeedMixRow.holds Try.pinned (OpenSpec.ofChange fnExactFeedMixWrong)

/-- 'laws.FnMixes': WHATEVER THE INPUT: true; the input reads as it did. -/
def fnMixesSpec : ChangeSpec := { name := "fnMixes", fn := fun _ => fun
  | [d1, d2] => { results := [.lit (.bool true)], args := [d1, d2] }
  | _ => none }
def fnMixesRow : OpenClaim := { program := "ythkbaaclbjnkiaa", sum := "d17996940d08726d87e828cbb60a1eb2dcc851a3bb3756530cb3a5f75358a75b", func := "loop.example/g00537/laws.FnMixes", spec := "fnMixes", apart := false }
def FnMixesSaid : Prop := fnMixesRow.holds Try.pinned (OpenSpec.ofChange fnMixesSpec)

/-- ITS FALSE NEIGHBOUR: 'it returns false'. Refute it at one input. -/
def fnMixesWrong : ChangeSpec := { name := "fnMixes", fn := fun _ => fun
  | [d1, d2] => { results := [.lit (.bool false)], args := [d1, d2] }
  | _ => none }
def FnMixesWrongFalsely : Prop := fnMixesRow.holds Try.pinned (OpenSpec.ofChange fnMixesWrong)

/-- 'laws.FnExactConstants': WHATEVER THE INPUT: true; the input reads as it did. -/
def fnExactConstantsSpec : ChangeSpec := { name := "fnExactConstants", fn := fun _ => fun
  | [] => { results := [.lit (.bool true)], args := [] }
  | _ => none }
def fnExactConstantsRow : OpenClaim := { program := "ythkbaaclbjnkiaa", sum := "d17996940d08726d87e828cbb60a1eb2dcc851a3bb3756530cb3a5f75358a75b", func := "loop.example/g00537/laws.FnExactConstants", spec := "fnExactConstants", apart := false }
def FnExactConstantsSaid : Prop := fnExactConstantsRow.holds Try.pinned (OpenSpec.ofChange fnExactConstantsSpec)

/-- ITS FALSE NEIGHBOUR: 'it returns false'. Refute it at one input. -/
def fnExactConstantsWrong : ChangeSpec := { name := "fnExactConstants", fn := fun _ => fun
  | [] => { results := [.lit (.bool false)], args := [] }
  | _ => none }
def FnExactConstantsWrongFalsely : Prop := fnExactConstantsRow.holds Try.pinned (OpenSpec.ofChange fnExactConstantsWrong)

/-- 'laws.FnExactGoodSigner': WHATEVER THE INPUT: true; the input reads as it did. -/
def fnExactGoodSignerSpec : ChangeSpec := { name := "fnExactGoodSigner", fn := fun _ => fun
  | [d] => { results := [.lit (.bool true)], args := [d] }
  | _ => none }
def fnExactGoodSignerRow : OpenClaim := { program := "ythkbaaclbjnkiaa", sum := "d17996940d08726d87e828cbb60a1eb2dcc851a3bb3756530cb3a5f75358a75b", func := "loop.example/g00537/laws.FnExactGoodSigner", spec := "fnExactGoodSigner", apart := false }
def FnExactGoodSignerSaid : Prop := fnExactGoodSignerRow.holds Try.pinned (OpenSpec.ofChange fnExactGoodSignerSpec)

/-- ITS FALSE NEIGHBOUR: 'it returns false'. Refute it at one input. -/
def fnExactGoodSignerWrong : ChangeSpec := { name := "fnExactGoodSigner", fn := fun _ => fun
  | [d] => { results := [.lit (.bool false)], args := [d] }
  | _ => none }
def FnExactGoodSignerWrongFalsely : Prop := fnExactGoodSignerRow.holds Try.pinned (OpenSpec.ofChange fnExactGoodSignerWrong)

/-- 'laws.FnExactLeftIn': WHATEVER THE INPUT: true; the input reads as it did. -/
def fnExactLeftInSpec : ChangeSpec := { name := "fnExactLeftIn", fn := fun _ => fun
  | [d] => { results := [.lit (.bool true)], args := [d] }
  | _ => none }
def fnExactLeftInRow : OpenClaim := { program := "ythkbaaclbjnkiaa", sum := "d17996940d08726d87e828cbb60a1eb2dcc851a3bb3756530cb3a5f75358a75b", func := "loop.example/g00537/laws.FnExactLeftIn", spec := "fnExactLeftIn", apart := false }
def FnExactLeftInSaid : Prop := fnExactLeftInRow.holds Try.pinned (OpenSpec.ofChange fnExactLeftInSpec)

/-- ITS FALSE NEIGHBOUR: 'it returns false'. Refute it at one input. -/
def fnExactLeftInWrong : ChangeSpec := { name := "fnExactLeftIn", fn := fun _ => fun
  | [d] => { results := [.lit (.bool false)], args := [d] }
  | _ => none }
def FnExactLeftInWrongFalsely : Prop := fnExactLeftInRow.holds Try.pinned (OpenSpec.ofChange fnExactLeftInWrong)

/-- 'laws.FnExactIsBelow': WHATEVER THE INPUT: true; the input reads as it did. -/
def fnExactIsBelowSpec : ChangeSpec := { name := "fnExactIsBelow", fn := fun _ => fun
  | [d1, d2] => { results := [.lit (.bool true)], args := [d1, d2] }
  | _ => none }
def fnExactIsBelowRow : OpenClaim := { program := "ythkbaaclbjnkiaa", sum := "d17996940d08726d87e828cbb60a1eb2dcc851a3bb3756530cb3a5f75358a75b", func := "loop.example/g00537/laws.FnExactIsBelow", spec := "fnExactIsBelow", unfollowed := true, recurses := true, apart := false }
def FnExactIsBelowSaid : Prop := fnExactIsBelowRow.holds Try.pinned (OpenSpec.ofChange fnExactIsBelowSpec)

/-- ITS FALSE NEIGHBOUR: 'it returns false'. Refute it at one input. -/
def fnExactIsBelowWrong : ChangeSpec := { name := "fnExactIsBelow", fn := fun _ => fun
  | [d1, d2] => { results := [.lit (.bool false)], args := [d1, d2] }
  | _ => none }
def FnExactIsBelowWrongFalsely : Prop := fnExactIsBelowRow.holds Try.pinned (OpenSpec.ofChange fnExactIsBelowWrong)

/-- 'laws.FnExactLowFor': WHATEVER THE INPUT: true; the input reads as it did. -/
def fnExactLowForSpec : ChangeSpec := { name := "fnExactLowFor", fn := fun _ => fun
  | [d1, d2] => { results := [.lit (.bool true)], args := [d1, d2] }
  | _ => none }
def fnExactLowForRow : OpenClaim := { program := "ythkbaaclbjnkiaa", sum := "d17996940d08726d87e828cbb60a1eb2dcc851a3bb3756530cb3a5f75358a75b", func := "loop.example/g00537/laws.FnExactLowFor", spec := "fnExactLowFor", apart := false }
def FnExactLowForSaid : Prop := fnExactLowForRow.holds Try.pinned (OpenSpec.ofChange fnExactLowForSpec)

/-- ITS FALSE NEIGHBOUR: 'it returns false'. Refute it at one input. -/
def fnExactLowForWrong : ChangeSpec := { name := "fnExactLowFor", fn := fun _ => fun
  | [d1, d2] => { results := [.lit (.bool false)], args := [d1, d2] }
  | _ => none }
def FnExactLowForWrongFalsely : Prop := fnExactLowForRow.holds Try.pinned (OpenSpec.ofChange fnExactLowForWrong)

/-- 'laws.FnExactGoodValue': WHATEVER THE INPUT: true; the input reads as it did. -/
def fnExactGoodValueSpec : ChangeSpec := { name := "fnExactGoodValue", fn := fun _ => fun
  | [d] => { results := [.lit (.bool true)], args := [d] }
  | _ => none }
def fnExactGoodValueRow : OpenClaim := { program := "ythkbaaclbjnkiaa", sum := "d17996940d08726d87e828cbb60a1eb2dcc851a3bb3756530cb3a5f75358a75b", func := "loop.example/g00537/laws.FnExactGoodValue", spec := "fnExactGoodValue", apart := false }
def FnExactGoodValueSaid : Prop := fnExactGoodValueRow.holds Try.pinned (OpenSpec.ofChange fnExactGoodValueSpec)

/-- ITS FALSE NEIGHBOUR: 'it returns false'. Refute it at one input. -/
def fnExactGoodValueWrong : ChangeSpec := { name := "fnExactGoodValue", fn := fun _ => fun
  | [d] => { results := [.lit (.bool false)], args := [d] }
  | _ => none }
def FnExactGoodValueWrongFalsely : Prop := fnExactGoodValueRow.holds Try.pinned (OpenSpec.ofChange fnExactGoodValueWrong)

/- THE SECOND FORM. 'bulk': how many values and letters a reading holds, each counted each time it is reached (what is shared counts as often as it is met; a slice's spare places count too). A statement '..UptoSaid' is the law's where the arguments, and the package variables that the reading takes, are together of bulk at most 1048576: NARROWER than '..Said'. Prove '..Said' where nothing that the law and all that it calls make is longer than what came in: it says more and counts as full. Else prove '..UptoSaid'. A law counts once. -/
mutual
def uptoBulk {H : Type} : DataW H → Nat
  | .lit (.string bytes) => bytes.length + 1
  | .lit _ => 1
  | .nil => 1
  | .ptr d => uptoBulk d + 1
  | .slice elems spare => uptoBulkAll elems + uptoBulkAll spare + 1
  | .agg parts => uptoBulkAll parts + 1
  | .iface _ d => uptoBulk d + 1
  | .map entries => uptoBulkEntries entries + 1
  | .held _ => 1
def uptoBulkAll {H : Type} : List (DataW H) → Nat
  | [] => 0
  | d :: r => uptoBulk d + uptoBulkAll r
def uptoBulkEntries {H : Type} : List (Lit × DataW H) → Nat
  | [] => 0
  | x :: r => uptoBulkEntry x + uptoBulkEntries r
def uptoBulkEntry {H : Type} : Lit × DataW H → Nat
  | (.string bytes, d) => bytes.length + uptoBulk d + 1
  | (_, d) => uptoBulk d + 1
 end
def uptoSmall : (H : Type) → List (DataW H) → Bool := fun _ ds => decide (uptoBulkAll ds ≤ 1048576)
def OpenSpec.upto (s : _root_.Go.ChangeSpec) : _root_.Go.OpenSpec := { _root_.Go.OpenSpec.ofChange s with cond := some uptoSmall }

/-- 'laws.FnExactNewMix', WHERE WHAT IT READS IS OF BULK AT MOST 1048576: true; the input reads as it did. -/
def fnExactNewMixUptoRow : OpenClaim := { program := "ythkbaaclbjnkiaa", sum := "d17996940d08726d87e828cbb60a1eb2dcc851a3bb3756530cb3a5f75358a75b", func := "loop.example/g00537/laws.FnExactNewMix", spec := "fnExactNewMix", apart := false, narrowed := true }
def FnExactNewMixUptoSaid : Prop := fnExactNewMixUptoRow.holds Try.pinned (OpenSpec.upto fnExactNewMixSpec)

/-- 'laws.FnExactGoodMix', WHERE WHAT IT READS IS OF BULK AT MOST 1048576: true; the input reads as it did. -/
def fnExactGoodMixUptoRow : OpenClaim := { program := "ythkbaaclbjnkiaa", sum := "d17996940d08726d87e828cbb60a1eb2dcc851a3bb3756530cb3a5f75358a75b", func := "loop.example/g00537/laws.FnExactGoodMix", spec := "fnExactGoodMix", apart := false, narrowed := true }
def FnExactGoodMixUptoSaid : Prop := fnExactGoodMixUptoRow.holds Try.pinned (OpenSpec.upto fnExactGoodMixSpec)

/-- 'laws.FnExactEndMix', WHERE WHAT IT READS IS OF BULK AT MOST 1048576: true; the input reads as it did. -/
def fnExactEndMixUptoRow : OpenClaim := { program := "ythkbaaclbjnkiaa", sum := "d17996940d08726d87e828cbb60a1eb2dcc851a3bb3756530cb3a5f75358a75b", func := "loop.example/g00537/laws.FnExactEndMix", spec := "fnExactEndMix", apart := false, narrowed := true }
def FnExactEndMixUptoSaid : Prop := fnExactEndMixUptoRow.holds Try.pinned (OpenSpec.upto fnExactEndMixSpec)

/-- 'laws.FnExactJoinMixes', WHERE WHAT IT READS IS OF BULK AT MOST 1048576: true; the input reads as it did. -/
def fnExactJoinMixesUptoRow : OpenClaim := { program := "ythkbaaclbjnkiaa", sum := "d17996940d08726d87e828cbb60a1eb2dcc851a3bb3756530cb3a5f75358a75b", func := "loop.example/g00537/laws.FnExactJoinMixes", spec := "fnExactJoinMixes", apart := false, narrowed := true }
def FnExactJoinMixesUptoSaid : Prop := fnExactJoinMixesUptoRow.holds Try.pinned (OpenSpec.upto fnExactJoinMixesSpec)

/-- 'laws.FnExactFeedMix', WHERE WHAT IT READS IS OF BULK AT MOST 1048576: true; the input reads as it did. -/
def fnExactFeedMixUptoRow : OpenClaim := { program := "ythkbaaclbjnkiaa", sum := "d17996940d08726d87e828cbb60a1eb2dcc851a3bb3756530cb3a5f75358a75b", func := "loop.example/g00537/laws.FnExactFeedMix", spec := "fnExactFeedMix", apart := false, narrowed := true }
def FnExactFeedMixUptoSaid : Prop := fnExactFeedMixUptoRow.holds Try.pinned (OpenSpec.upto fnExactFeedMixSpec)

/-- 'laws.FnMixes', WHERE WHAT IT READS IS OF BULK AT MOST 1048576: true; the input reads as it did. -/
def fnMixesUptoRow : OpenClaim := { program := "ythkbaaclbjnkiaa", sum := "d17996940d08726d87e828cbb60a1eb2dcc851a3bb3756530cb3a5f75358a75b", func := "loop.example/g00537/laws.FnMixes", spec := "fnMixes", apart := false, narrowed := true }
def FnMixesUptoSaid : Prop := fnMixesUptoRow.holds Try.pinned (OpenSpec.upto fnMixesSpec)

/-- 'laws.FnExactConstants', WHERE WHAT IT READS IS OF BULK AT MOST 1048576: true; the input reads as it did. -/
def fnExactConstantsUptoRow : OpenClaim := { program := "ythkbaaclbjnkiaa", sum := "d17996940d08726d87e828cbb60a1eb2dcc851a3bb3756530cb3a5f75358a75b", func := "loop.example/g00537/laws.FnExactConstants", spec := "fnExactConstants", apart := false, narrowed := true }
def FnExactConstantsUptoSaid : Prop := fnExactConstantsUptoRow.holds Try.pinned (OpenSpec.upto fnExactConstantsSpec)

/-- 'laws.FnExactGoodSigner', WHERE WHAT IT READS IS OF BULK AT MOST 1048576: true; the input reads as it did. -/
def fnExactGoodSignerUptoRow : OpenClaim := { program := "ythkbaaclbjnkiaa", sum := "d17996940d08726d87e828cbb60a1eb2dcc851a3bb3756530cb3a5f75358a75b", func := "loop.example/g00537/laws.FnExactGoodSigner", spec := "fnExactGoodSigner", apart := false, narrowed := true }
def FnExactGoodSignerUptoSaid : Prop := fnExactGoodSignerUptoRow.holds Try.pinned (OpenSpec.upto fnExactGoodSignerSpec)

/-- 'laws.FnExactLeftIn', WHERE WHAT IT READS IS OF BULK AT MOST 1048576: true; the input reads as it did. -/
def fnExactLeftInUptoRow : OpenClaim := { program := "ythkbaaclbjnkiaa", sum := "d17996940d08726d87e828cbb60a1eb2dcc851a3bb3756530cb3a5f75358a75b", func := "loop.example/g00537/laws.FnExactLeftIn", spec := "fnExactLeftIn", apart := false, narrowed := true }
def FnExactLeftInUptoSaid : Prop := fnExactLeftInUptoRow.holds Try.pinned (OpenSpec.upto fnExactLeftInSpec)

/-- 'laws.FnExactIsBelow', WHERE WHAT IT READS IS OF BULK AT MOST 1048576: true; the input reads as it did. -/
def fnExactIsBelowUptoRow : OpenClaim := { program := "ythkbaaclbjnkiaa", sum := "d17996940d08726d87e828cbb60a1eb2dcc851a3bb3756530cb3a5f75358a75b", func := "loop.example/g00537/laws.FnExactIsBelow", spec := "fnExactIsBelow", unfollowed := true, recurses := true, apart := false, narrowed := true }
def FnExactIsBelowUptoSaid : Prop := fnExactIsBelowUptoRow.holds Try.pinned (OpenSpec.upto fnExactIsBelowSpec)

/-- 'laws.FnExactLowFor', WHERE WHAT IT READS IS OF BULK AT MOST 1048576: true; the input reads as it did. -/
def fnExactLowForUptoRow : OpenClaim := { program := "ythkbaaclbjnkiaa", sum := "d17996940d08726d87e828cbb60a1eb2dcc851a3bb3756530cb3a5f75358a75b", func := "loop.example/g00537/laws.FnExactLowFor", spec := "fnExactLowFor", apart := false, narrowed := true }
def FnExactLowForUptoSaid : Prop := fnExactLowForUptoRow.holds Try.pinned (OpenSpec.upto fnExactLowForSpec)

/-- 'laws.FnExactGoodValue', WHERE WHAT IT READS IS OF BULK AT MOST 1048576: true; the input reads as it did. -/
def fnExactGoodValueUptoRow : OpenClaim := { program := "ythkbaaclbjnkiaa", sum := "d17996940d08726d87e828cbb60a1eb2dcc851a3bb3756530cb3a5f75358a75b", func := "loop.example/g00537/laws.FnExactGoodValue", spec := "fnExactGoodValue", apart := false, narrowed := true }
def FnExactGoodValueUptoSaid : Prop := fnExactGoodValueUptoRow.holds Try.pinned (OpenSpec.upto fnExactGoodValueSpec)

end Rows
end Go.Proofs.Ythkbaaclbjnkiaa
