/-
  No cell of these rows narrows 'for every input' (looked for: loops, veiled, ifaces, maps, wideKeys, modest, calm, conditions, laid).
  DERIVED. THE GIVEN ROWS OF THIS SEAT. 12 by the template 'for every input the law returns true; each argument reads behind the call as it read before'; 0 by the template 'total and deterministic' (their statements: YtoddejmlcnbdmaaTotals.lean).
  GIVEN WITH THE SEED: the statements are not yours to turn. If you find one false, say at which input.
  Laid BY PROGRAM, IN A SANDBOX (cutbox-rows.mjs): the forced cells as the released guide's own fill.sh prints them over the translation e849267b11c26268… (all of the seat's roots in one cut). By AI agents, Wed Nov 11 2026. No macro, syntax, notation, axiom, sorry.
-/
import Derived.Test.YtoddejmlcnbdmaaChecked
import GoSem.Claim
import GoSem.ClaimJoined
import GoSem.ClaimMapViews
import Derived.JoinedTies
import Derived.KernelRfl
namespace Go.Proofs.Ytoddejmlcnbdmaa
/- THE CELL 'sum', in the pinned program and in every row, IS THE sha256 OF THE DUMP (.gsa) THAT YtoddejmlcnbdmaaProg.lean LOADS. Nothing in Lean hashes anything: it is a label: what it is worth is what the hold of that sum in a sandbox is worth. -/
noncomputable def Try.pinned : Pinned := { name := "ytoddejmlcnbdmaa", sum := "e849267b11c262680552c931b70c44c1d78e870757b304894a2930798a73b184", checked := Try.checked }
namespace Rows
def none {H : Type} : Left H := { results := [], args := [] }

/-- 'laws.FnExactGoodTree': WHATEVER THE INPUT: true; the input reads as it did. -/
def fnExactGoodTreeSpec : ChangeSpec := { name := "fnExactGoodTree", fn := fun _ => fun
  | [d] => { results := [.lit (.bool true)], args := [d] }
  | _ => none }
def fnExactGoodTreeRow : OpenClaim := { program := "ytoddejmlcnbdmaa", sum := "e849267b11c262680552c931b70c44c1d78e870757b304894a2930798a73b184", func := "loop.example/g00537/laws.FnExactGoodTree", spec := "fnExactGoodTree", unfollowed := true, recurses := true, apart := false }
def FnExactGoodTreeSaid : Prop := fnExactGoodTreeRow.holds Try.pinned (OpenSpec.ofChange fnExactGoodTreeSpec)

/-- ITS FALSE NEIGHBOUR: 'it returns false'. Refute it at one input. -/
def fnExactGoodTreeWrong : ChangeSpec := { name := "fnExactGoodTree", fn := fun _ => fun
  | [d] => { results := [.lit (.bool false)], args := [d] }
  | _ => none }
def FnExactGoodTreeWrongFalsely : Prop := fnExactGoodTreeRow.holds Try.pinned (OpenSpec.ofChange fnExactGoodTreeWrong)

/-- 'laws.FnExactDepthOf': WHATEVER THE INPUT: true; the input reads as it did. -/
def fnExactDepthOfSpec : ChangeSpec := { name := "fnExactDepthOf", fn := fun _ => fun
  | [d] => { results := [.lit (.bool true)], args := [d] }
  | _ => none }
def fnExactDepthOfRow : OpenClaim := { program := "ytoddejmlcnbdmaa", sum := "e849267b11c262680552c931b70c44c1d78e870757b304894a2930798a73b184", func := "loop.example/g00537/laws.FnExactDepthOf", spec := "fnExactDepthOf", unfollowed := true, recurses := true, apart := false }
def FnExactDepthOfSaid : Prop := fnExactDepthOfRow.holds Try.pinned (OpenSpec.ofChange fnExactDepthOfSpec)

/-- ITS FALSE NEIGHBOUR: 'it returns false'. Refute it at one input. -/
def fnExactDepthOfWrong : ChangeSpec := { name := "fnExactDepthOf", fn := fun _ => fun
  | [d] => { results := [.lit (.bool false)], args := [d] }
  | _ => none }
def FnExactDepthOfWrongFalsely : Prop := fnExactDepthOfRow.holds Try.pinned (OpenSpec.ofChange fnExactDepthOfWrong)

/-- 'laws.FnExactGetKey': WHATEVER THE INPUT: true; the input reads as it did. -/
def fnExactGetKeySpec : ChangeSpec := { name := "fnExactGetKey", fn := fun _ => fun
  | [d1, d2] => { results := [.lit (.bool true)], args := [d1, d2] }
  | _ => none }
def fnExactGetKeyRow : OpenClaim := { program := "ytoddejmlcnbdmaa", sum := "e849267b11c262680552c931b70c44c1d78e870757b304894a2930798a73b184", func := "loop.example/g00537/laws.FnExactGetKey", spec := "fnExactGetKey", unfollowed := true, recurses := true, apart := false }
def FnExactGetKeySaid : Prop := fnExactGetKeyRow.holds Try.pinned (OpenSpec.ofChange fnExactGetKeySpec)

/-- ITS FALSE NEIGHBOUR: 'it returns false'. Refute it at one input. -/
def fnExactGetKeyWrong : ChangeSpec := { name := "fnExactGetKey", fn := fun _ => fun
  | [d1, d2] => { results := [.lit (.bool false)], args := [d1, d2] }
  | _ => none }
def FnExactGetKeyWrongFalsely : Prop := fnExactGetKeyRow.holds Try.pinned (OpenSpec.ofChange fnExactGetKeyWrong)

/-- 'laws.FnExactKeysIn': WHATEVER THE INPUT: true; the input reads as it did. -/
def fnExactKeysInSpec : ChangeSpec := { name := "fnExactKeysIn", fn := fun _ => fun
  | [d] => { results := [.lit (.bool true)], args := [d] }
  | _ => none }
def fnExactKeysInRow : OpenClaim := { program := "ytoddejmlcnbdmaa", sum := "e849267b11c262680552c931b70c44c1d78e870757b304894a2930798a73b184", func := "loop.example/g00537/laws.FnExactKeysIn", spec := "fnExactKeysIn", unfollowed := true, recurses := true, apart := false }
def FnExactKeysInSaid : Prop := fnExactKeysInRow.holds Try.pinned (OpenSpec.ofChange fnExactKeysInSpec)

/-- ITS FALSE NEIGHBOUR: 'it returns false'. Refute it at one input. -/
def fnExactKeysInWrong : ChangeSpec := { name := "fnExactKeysIn", fn := fun _ => fun
  | [d] => { results := [.lit (.bool false)], args := [d] }
  | _ => none }
def FnExactKeysInWrongFalsely : Prop := fnExactKeysInRow.holds Try.pinned (OpenSpec.ofChange fnExactKeysInWrong)

/-- 'laws.FnExactAtPlace': WHATEVER THE INPUT: true; the input reads as it did. -/
def fnExactAtPlaceSpec : ChangeSpec := { name := "fnExactAtPlace", fn := fun _ => fun
  | [d1, d2] => { results := [.lit (.bool true)], args := [d1, d2] }
  | _ => none }
def fnExactAtPlaceRow : OpenClaim := { program := "ytoddejmlcnbdmaa", sum := "e849267b11c262680552c931b70c44c1d78e870757b304894a2930798a73b184", func := "loop.example/g00537/laws.FnExactAtPlace", spec := "fnExactAtPlace", unfollowed := true, recurses := true, apart := false }
def FnExactAtPlaceSaid : Prop := fnExactAtPlaceRow.holds Try.pinned (OpenSpec.ofChange fnExactAtPlaceSpec)

/-- ITS FALSE NEIGHBOUR: 'it returns false'. Refute it at one input. -/
def fnExactAtPlaceWrong : ChangeSpec := { name := "fnExactAtPlace", fn := fun _ => fun
  | [d1, d2] => { results := [.lit (.bool false)], args := [d1, d2] }
  | _ => none }
def FnExactAtPlaceWrongFalsely : Prop := fnExactAtPlaceRow.holds Try.pinned (OpenSpec.ofChange fnExactAtPlaceWrong)

/-- 'laws.FnExactCountIn': WHATEVER THE INPUT: true; the input reads as it did. -/
def fnExactCountInSpec : ChangeSpec := { name := "fnExactCountIn", fn := fun _ => fun
  | [d1, d2, d3] => { results := [.lit (.bool true)], args := [d1, d2, d3] }
  | _ => none }
def fnExactCountInRow : OpenClaim := { program := "ytoddejmlcnbdmaa", sum := "e849267b11c262680552c931b70c44c1d78e870757b304894a2930798a73b184", func := "loop.example/g00537/laws.FnExactCountIn", spec := "fnExactCountIn", unfollowed := true, recurses := true, apart := false }
def FnExactCountInSaid : Prop := fnExactCountInRow.holds Try.pinned (OpenSpec.ofChange fnExactCountInSpec)

/-- ITS FALSE NEIGHBOUR: 'it returns false'. Refute it at one input. -/
def fnExactCountInWrong : ChangeSpec := { name := "fnExactCountIn", fn := fun _ => fun
  | [d1, d2, d3] => { results := [.lit (.bool false)], args := [d1, d2, d3] }
  | _ => none }
def FnExactCountInWrongFalsely : Prop := fnExactCountInRow.holds Try.pinned (OpenSpec.ofChange fnExactCountInWrong)

/-- 'laws.FnExactRangeOf': WHATEVER THE INPUT: true; the input reads as it did. -/
def fnExactRangeOfSpec : ChangeSpec := { name := "fnExactRangeOf", fn := fun _ => fun
  | [d1, d2, d3] => { results := [.lit (.bool true)], args := [d1, d2, d3] }
  | _ => none }
def fnExactRangeOfRow : OpenClaim := { program := "ytoddejmlcnbdmaa", sum := "e849267b11c262680552c931b70c44c1d78e870757b304894a2930798a73b184", func := "loop.example/g00537/laws.FnExactRangeOf", spec := "fnExactRangeOf", unfollowed := true, recurses := true, apart := false }
def FnExactRangeOfSaid : Prop := fnExactRangeOfRow.holds Try.pinned (OpenSpec.ofChange fnExactRangeOfSpec)

/-- ITS FALSE NEIGHBOUR: 'it returns false'. Refute it at one input. -/
def fnExactRangeOfWrong : ChangeSpec := { name := "fnExactRangeOf", fn := fun _ => fun
  | [d1, d2, d3] => { results := [.lit (.bool false)], args := [d1, d2, d3] }
  | _ => none }
def FnExactRangeOfWrongFalsely : Prop := fnExactRangeOfRow.holds Try.pinned (OpenSpec.ofChange fnExactRangeOfWrong)

/-- 'laws.FnExactPutKey': WHATEVER THE INPUT: true; the input reads as it did. -/
def fnExactPutKeySpec : ChangeSpec := { name := "fnExactPutKey", fn := fun _ => fun
  | [d1, d2, d3] => { results := [.lit (.bool true)], args := [d1, d2, d3] }
  | _ => none }
def fnExactPutKeyRow : OpenClaim := { program := "ytoddejmlcnbdmaa", sum := "e849267b11c262680552c931b70c44c1d78e870757b304894a2930798a73b184", func := "loop.example/g00537/laws.FnExactPutKey", spec := "fnExactPutKey", inPlace := ["slices.overlaps[string]", "slices.overlaps[*loop.example/g00537/impl.node]"], unfollowed := true, recurses := true, apart := false }
def FnExactPutKeySaid : Prop := fnExactPutKeyRow.holds Try.pinned (OpenSpec.ofChange fnExactPutKeySpec)

/-- ITS FALSE NEIGHBOUR: 'it returns false'. Refute it at one input. -/
def fnExactPutKeyWrong : ChangeSpec := { name := "fnExactPutKey", fn := fun _ => fun
  | [d1, d2, d3] => { results := [.lit (.bool false)], args := [d1, d2, d3] }
  | _ => none }
def FnExactPutKeyWrongFalsely : Prop := fnExactPutKeyRow.holds Try.pinned (OpenSpec.ofChange fnExactPutKeyWrong)

/-- 'laws.FnExactDropKey': WHATEVER THE INPUT: true; the input reads as it did. -/
def fnExactDropKeySpec : ChangeSpec := { name := "fnExactDropKey", fn := fun _ => fun
  | [d1, d2] => { results := [.lit (.bool true)], args := [d1, d2] }
  | _ => none }
def fnExactDropKeyRow : OpenClaim := { program := "ytoddejmlcnbdmaa", sum := "e849267b11c262680552c931b70c44c1d78e870757b304894a2930798a73b184", func := "loop.example/g00537/laws.FnExactDropKey", spec := "fnExactDropKey", inPlace := ["slices.overlaps[string]", "slices.overlaps[*loop.example/g00537/impl.node]"], unfollowed := true, recurses := true, apart := false }
def FnExactDropKeySaid : Prop := fnExactDropKeyRow.holds Try.pinned (OpenSpec.ofChange fnExactDropKeySpec)

/-- ITS FALSE NEIGHBOUR: 'it returns false'. Refute it at one input. -/
def fnExactDropKeyWrong : ChangeSpec := { name := "fnExactDropKey", fn := fun _ => fun
  | [d1, d2] => { results := [.lit (.bool false)], args := [d1, d2] }
  | _ => none }
def FnExactDropKeyWrongFalsely : Prop := fnExactDropKeyRow.holds Try.pinned (OpenSpec.ofChange fnExactDropKeyWrong)

/-- 'laws.FnExactBuildTree': WHATEVER THE INPUT: true; the input reads as it did. -/
def fnExactBuildTreeSpec : ChangeSpec := { name := "fnExactBuildTree", fn := fun _ => fun
  | [d1, d2] => { results := [.lit (.bool true)], args := [d1, d2] }
  | _ => none }
def fnExactBuildTreeRow : OpenClaim := { program := "ytoddejmlcnbdmaa", sum := "e849267b11c262680552c931b70c44c1d78e870757b304894a2930798a73b184", func := "loop.example/g00537/laws.FnExactBuildTree", spec := "fnExactBuildTree", inPlace := ["slices.overlaps[string]", "slices.overlaps[*loop.example/g00537/impl.node]"], unfollowed := true, recurses := true, apart := false }
def FnExactBuildTreeSaid : Prop := fnExactBuildTreeRow.holds Try.pinned (OpenSpec.ofChange fnExactBuildTreeSpec)

/-- ITS FALSE NEIGHBOUR: 'it returns false'. Refute it at one input. -/
def fnExactBuildTreeWrong : ChangeSpec := { name := "fnExactBuildTree", fn := fun _ => fun
  | [d1, d2] => { results := [.lit (.bool false)], args := [d1, d2] }
  | _ => none }
def FnExactBuildTreeWrongFalsely : Prop := fnExactBuildTreeRow.holds Try.pinned (OpenSpec.ofChange fnExactBuildTreeWrong)

/-- 'laws.FnPages': WHATEVER THE INPUT: true; the input reads as it did. -/
def fnPagesSpec : ChangeSpec := { name := "fnPages", fn := fun _ => fun
  | [d1, d2] => { results := [.lit (.bool true)], args := [d1, d2] }
  | _ => none }
def fnPagesRow : OpenClaim := { program := "ytoddejmlcnbdmaa", sum := "e849267b11c262680552c931b70c44c1d78e870757b304894a2930798a73b184", func := "loop.example/g00537/laws.FnPages", spec := "fnPages", inPlace := ["slices.overlaps[string]", "slices.overlaps[*loop.example/g00537/impl.node]"], unfollowed := true, recurses := true, apart := false }
def FnPagesSaid : Prop := fnPagesRow.holds Try.pinned (OpenSpec.ofChange fnPagesSpec)

/-- ITS FALSE NEIGHBOUR: 'it returns false'. Refute it at one input. -/
def fnPagesWrong : ChangeSpec := { name := "fnPages", fn := fun _ => fun
  | [d1, d2] => { results := [.lit (.bool false)], args := [d1, d2] }
  | _ => none }
def FnPagesWrongFalsely : Prop := fnPagesRow.holds Try.pinned (OpenSpec.ofChange fnPagesWrong)

/-- 'laws.FnTrees': WHATEVER THE INPUT: true; the input reads as it did. -/
def fnTreesSpec : ChangeSpec := { name := "fnTrees", fn := fun _ => fun
  | [d1, d2] => { results := [.lit (.bool true)], args := [d1, d2] }
  | _ => none }
def fnTreesRow : OpenClaim := { program := "ytoddejmlcnbdmaa", sum := "e849267b11c262680552c931b70c44c1d78e870757b304894a2930798a73b184", func := "loop.example/g00537/laws.FnTrees", spec := "fnTrees", inPlace := ["slices.overlaps[string]", "slices.overlaps[*loop.example/g00537/impl.node]"], unfollowed := true, recurses := true, apart := false }
def FnTreesSaid : Prop := fnTreesRow.holds Try.pinned (OpenSpec.ofChange fnTreesSpec)

/-- ITS FALSE NEIGHBOUR: 'it returns false'. Refute it at one input. -/
def fnTreesWrong : ChangeSpec := { name := "fnTrees", fn := fun _ => fun
  | [d1, d2] => { results := [.lit (.bool false)], args := [d1, d2] }
  | _ => none }
def FnTreesWrongFalsely : Prop := fnTreesRow.holds Try.pinned (OpenSpec.ofChange fnTreesWrong)

/- THE SECOND FORM. 'bulk': how many values and letters a reading holds, each counted each time it is reached (what is shared counts as often as it is met; a slice's spare places count too). A statement '..UptoSaid' is the law's where the arguments, and the package variables that the reading takes, are together of bulk at most 1048576: NARROWER than '..Said'. Prove '..Said' where nothing that the law and all that it calls make is longer than what came in: it says more and counts as full. Else prove '..UptoSaid'. A law counts once. -/
mutual
def uptoBulk {H : Type} : DataW H → Nat
  | .lit (.string bytes) => bytes.length + 1
  | .lit _ => 1
  | .nil => 1
  | .ptr d => uptoBulk d + 1
  | .slice elems spare => uptoBulkAll elems + uptoBulkAll spare + 1
  | .agg parts => uptoBulkAll parts + 1
  | .iface _ d => uptoBulk d + 1
  | .map entries => uptoBulkEntries entries + 1
  | .held _ => 1
def uptoBulkAll {H : Type} : List (DataW H) → Nat
  | [] => 0
  | d :: r => uptoBulk d + uptoBulkAll r
def uptoBulkEntries {H : Type} : List (Lit × DataW H) → Nat
  | [] => 0
  | x :: r => uptoBulkEntry x + uptoBulkEntries r
def uptoBulkEntry {H : Type} : Lit × DataW H → Nat
  | (.string bytes, d) => bytes.length + uptoBulk d + 1
  | (_, d) => uptoBulk d + 1
 end
def uptoSmall : (H : Type) → List (DataW H) → Bool := fun _ ds => decide (uptoBulkAll ds ≤ 1048576)
def OpenSpec.upto (s : _root_.Go.ChangeSpec) : _root_.Go.OpenSpec := { _root_.Go.OpenSpec.ofChange s with cond := some uptoSmall }

/-- 'laws.FnExactGoodTree', WHERE WHAT IT READS IS OF BULK AT MOST 1048576: true; the input reads as it did. -/
def fnExactGoodTreeUptoRow : OpenClaim := { program := "ytoddejmlcnbdmaa", sum := "e849267b11c262680552c931b70c44c1d78e870757b304894a2930798a73b184", func := "loop.example/g00537/laws.FnExactGoodTree", spec := "fnExactGoodTree", unfollowed := true, recurses := true, apart := false, narrowed := true }
def FnExactGoodTreeUptoSaid : Prop := fnExactGoodTreeUptoRow.holds Try.pinned (OpenSpec.upto fnExactGoodTreeSpec)

/-- 'laws.FnExactDepthOf', WHERE WHAT IT READS IS OF BULK AT MOST 1048576: true; the input reads as it did. -/
def fnExactDepthOfUptoRow : OpenClaim := { program := "ytoddejmlcnbdmaa", sum := "e849267b11c262680552c931b70c44c1d78e870757b304894a2930798a73b184", func := "loop.example/g00537/laws.FnExactDepthOf", spec := "fnExactDepthOf", unfollowed := true, recurses := true, apart := false, narrowed := true }
def FnExactDepthOfUptoSaid : Prop := fnExactDepthOfUptoRow.holds Try.pinned (OpenSpec.upto fnExactDepthOfSpec)

/-- 'laws.FnExactGetKey', WHERE WHAT IT READS IS OF BULK AT MOST 1048576: true; the input reads as it did. -/
def fnExactGetKeyUptoRow : OpenClaim := { program := "ytoddejmlcnbdmaa", sum := "e849267b11c262680552c931b70c44c1d78e870757b304894a2930798a73b184", func := "loop.example/g00537/laws.FnExactGetKey", spec := "fnExactGetKey", unfollowed := true, recurses := true, apart := false, narrowed := true }
def FnExactGetKeyUptoSaid : Prop := fnExactGetKeyUptoRow.holds Try.pinned (OpenSpec.upto fnExactGetKeySpec)

/-- 'laws.FnExactKeysIn', WHERE WHAT IT READS IS OF BULK AT MOST 1048576: true; the input reads as it did. -/
def fnExactKeysInUptoRow : OpenClaim := { program := "ytoddejmlcnbdmaa", sum := "e849267b11c262680552c931b70c44c1d78e870757b304894a2930798a73b184", func := "loop.example/g00537/laws.FnExactKeysIn", spec := "fnExactKeysIn", unfollowed := true, recurses := true, apart := false, narrowed := true }
def FnExactKeysInUptoSaid : Prop := fnExactKeysInUptoRow.holds Try.pinned (OpenSpec.upto fnExactKeysInSpec)

/-- 'laws.FnExactAtPlace', WHERE WHAT IT READS IS OF BULK AT MOST 1048576: true; the input reads as it did. -/
def fnExactAtPlaceUptoRow : OpenClaim := { program := "ytoddejmlcnbdmaa", sum := "e849267b11c262680552c931b70c44c1d78e870757b304894a2930798a73b184", func := "loop.example/g00537/laws.FnExactAtPlace", spec := "fnExactAtPlace", unfollowed := true, recurses := true, apart := false, narrowed := true }
def FnExactAtPlaceUptoSaid : Prop := fnExactAtPlaceUptoRow.holds Try.pinned (OpenSpec.upto fnExactAtPlaceSpec)

/-- 'laws.FnExactCountIn', WHERE WHAT IT READS IS OF BULK AT MOST 1048576: true; the input reads as it did. -/
def fnExactCountInUptoRow : OpenClaim := { program := "ytoddejmlcnbdmaa", sum := "e849267b11c262680552c931b70c44c1d78e870757b304894a2930798a73b184", func := "loop.example/g00537/laws.FnExactCountIn", spec := "fnExactCountIn", unfollowed := true, recurses := true, apart := false, narrowed := true }
def FnExactCountInUptoSaid : Prop := fnExactCountInUptoRow.holds Try.pinned (OpenSpec.upto fnExactCountInSpec)

/-- 'laws.FnExactRangeOf', WHERE WHAT IT READS IS OF BULK AT MOST 1048576: true; the input reads as it did. -/
def fnExactRangeOfUptoRow : OpenClaim := { program := "ytoddejmlcnbdmaa", sum := "e849267b11c262680552c931b70c44c1d78e870757b304894a2930798a73b184", func := "loop.example/g00537/laws.FnExactRangeOf", spec := "fnExactRangeOf", unfollowed := true, recurses := true, apart := false, narrowed := true }
def FnExactRangeOfUptoSaid : Prop := fnExactRangeOfUptoRow.holds Try.pinned (OpenSpec.upto fnExactRangeOfSpec)

/-- 'laws.FnExactPutKey', WHERE WHAT IT READS IS OF BULK AT MOST 1048576: true; the input reads as it did. -/
def fnExactPutKeyUptoRow : OpenClaim := { program := "ytoddejmlcnbdmaa", sum := "e849267b11c262680552c931b70c44c1d78e870757b304894a2930798a73b184", func := "loop.example/g00537/laws.FnExactPutKey", spec := "fnExactPutKey", inPlace := ["slices.overlaps[string]", "slices.overlaps[*loop.example/g00537/impl.node]"], unfollowed := true, recurses := true, apart := false, narrowed := true }
def FnExactPutKeyUptoSaid : Prop := fnExactPutKeyUptoRow.holds Try.pinned (OpenSpec.upto fnExactPutKeySpec)

/-- 'laws.FnExactDropKey', WHERE WHAT IT READS IS OF BULK AT MOST 1048576: true; the input reads as it did. -/
def fnExactDropKeyUptoRow : OpenClaim := { program := "ytoddejmlcnbdmaa", sum := "e849267b11c262680552c931b70c44c1d78e870757b304894a2930798a73b184", func := "loop.example/g00537/laws.FnExactDropKey", spec := "fnExactDropKey", inPlace := ["slices.overlaps[string]", "slices.overlaps[*loop.example/g00537/impl.node]"], unfollowed := true, recurses := true, apart := false, narrowed := true }
def FnExactDropKeyUptoSaid : Prop := fnExactDropKeyUptoRow.holds Try.pinned (OpenSpec.upto fnExactDropKeySpec)

/-- 'laws.FnExactBuildTree', WHERE WHAT IT READS IS OF BULK AT MOST 1048576: true; the input reads as it did. -/
def fnExactBuildTreeUptoRow : OpenClaim := { program := "ytoddejmlcnbdmaa", sum := "e849267b11c262680552c931b70c44c1d78e870757b304894a2930798a73b184", func := "loop.example/g00537/laws.FnExactBuildTree", spec := "fnExactBuildTree", inPlace := ["slices.overlaps[string]", "slices.overlaps[*loop.example/g00537/impl.node]"], unfollowed := true, recurses := true, apart := false, narrowed := true }
def FnExactBuildTreeUptoSaid : Prop := fnExactBuildTreeUptoRow.holds Try.pinned (OpenSpec.upto fnExactBuildTreeSpec)

/-- 'laws.FnPages', WHERE WHAT IT READS IS OF BULK AT MOST 1048576: true; the input reads as it did. -/
def fnPagesUptoRow : OpenClaim := { program := "ytoddejmlcnbdmaa", sum := "e849267b11c262680552c931b70c44c1d78e870757b304894a2930798a73b184", func := "loop.example/g00537/laws.FnPages", spec := "fnPages", inPlace := ["slices.overlaps[string]", "slices.overlaps[*loop.example/g00537/impl.node]"], unfollowed := true, recurses := true, apart := false, narrowed := true }
def FnPagesUptoSaid : Prop := fnPagesUptoRow.holds Try.pinned (OpenSpec.upto fnPagesSpec)

/-- 'laws.FnTrees', WHERE WHAT IT READS IS OF BULK AT MOST 1048576: true; the input reads as it did. -/
def fnTreesUptoRow : OpenClaim := { program := "ytoddejmlcnbdmaa", sum := "e849267b11c262680552c931b70c44c1d78e870757b304894a2930798a73b184", func := "loop.example/g00537/laws.FnTrees", spec := "fnTrees", inPlace := ["slices.overlaps[string]", "slices.overlaps[*loop.example/g00537/impl.node]"], unfollowed := true, recurses := true, apart := false, narrowed := true }
def FnTreesUptoSaid : Prop := fnTreesUptoRow.holds Try.pinned (OpenSpec.upto fnTreesSpec)

end Rows
end Go.Proofs.Ytoddejmlcnbdmaa
