/-
  No cell of these rows narrows 'for every input' (looked for: loops, veiled, ifaces, maps, wideKeys, modest, calm, conditions, laid).
  DERIVED. THE GIVEN ROWS OF THIS SEAT. 9 by the template 'for every input the law returns true; each argument reads behind the call as it read before'; 0 by the template 'total and deterministic' (their statements: YtcjebflldmiajaaTotals.lean).
  GIVEN WITH THE SEED: the statements are not yours to turn. If you find one false, say at which input.
  Laid BY PROGRAM, IN A SANDBOX (cutbox-rows.mjs): the forced cells as the released guide's own fill.sh prints them over the translation f6dedba5c3f77b28… (all of the seat's roots in one cut). By AI agents, Wed Nov 11 2026. No macro, syntax, notation, axiom, sorry.
-/
import Derived.Test.YtcjebflldmiajaaChecked
import GoSem.Claim
import GoSem.ClaimJoined
import GoSem.ClaimMapViews
import Derived.JoinedTies
import Derived.KernelRfl
namespace Go.Proofs.Ytcjebflldmiajaa
/- THE CELL 'sum', in the pinned program and in every row, IS THE sha256 OF THE DUMP (.gsa) THAT YtcjebflldmiajaaProg.lean LOADS. Nothing in Lean hashes anything: it is a label: what it is worth is what the hold of that sum in a sandbox is worth. -/
noncomputable def Try.pinned : Pinned := { name := "ytcjebflldmiajaa", sum := "f6dedba5c3f77b28529b439e028b9587d114e806f4619e06d44de0b1ccc032ae", checked := Try.checked }
namespace Rows
def none {H : Type} : Left H := { results := [], args := [] }

/-- 'laws.FnExactPackList': WHATEVER THE INPUT: true; the input reads as it did. -/
def fnExactPackListSpec : ChangeSpec := { name := "fnExactPackList", fn := fun _ => fun
  | [d] => { results := [.lit (.bool true)], args := [d] }
  | _ => none }
def fnExactPackListRow : OpenClaim := { program := "ytcjebflldmiajaa", sum := "f6dedba5c3f77b28529b439e028b9587d114e806f4619e06d44de0b1ccc032ae", func := "loop.example/g00537/laws.FnExactPackList", spec := "fnExactPackList", apart := false }
def FnExactPackListSaid : Prop := fnExactPackListRow.holds Try.pinned (OpenSpec.ofChange fnExactPackListSpec)

/-- ITS FALSE NEIGHBOUR: 'it returns false'. Refute it at one input. -/
def fnExactPackListWrong : ChangeSpec := { name := "fnExactPackList", fn := fun _ => fun
  | [d] => { results := [.lit (.bool false)], args := [d] }
  | _ => none }
def FnExactPackListWrongFalsely : Prop := fnExactPackListRow.holds Try.pinned (OpenSpec.ofChange fnExactPackListWrong)

/-- 'laws.FnExactGoodPacked': WHATEVER THE INPUT: true; the input reads as it did. -/
def fnExactGoodPackedSpec : ChangeSpec := { name := "fnExactGoodPacked", fn := fun _ => fun
  | [d] => { results := [.lit (.bool true)], args := [d] }
  | _ => none }
def fnExactGoodPackedRow : OpenClaim := { program := "ytcjebflldmiajaa", sum := "f6dedba5c3f77b28529b439e028b9587d114e806f4619e06d44de0b1ccc032ae", func := "loop.example/g00537/laws.FnExactGoodPacked", spec := "fnExactGoodPacked", apart := false }
def FnExactGoodPackedSaid : Prop := fnExactGoodPackedRow.holds Try.pinned (OpenSpec.ofChange fnExactGoodPackedSpec)

/-- ITS FALSE NEIGHBOUR: 'it returns false'. Refute it at one input. -/
def fnExactGoodPackedWrong : ChangeSpec := { name := "fnExactGoodPacked", fn := fun _ => fun
  | [d] => { results := [.lit (.bool false)], args := [d] }
  | _ => none }
def FnExactGoodPackedWrongFalsely : Prop := fnExactGoodPackedRow.holds Try.pinned (OpenSpec.ofChange fnExactGoodPackedWrong)

/-- 'laws.FnExactUnpackList': WHATEVER THE INPUT: true; the input reads as it did. -/
def fnExactUnpackListSpec : ChangeSpec := { name := "fnExactUnpackList", fn := fun _ => fun
  | [d] => { results := [.lit (.bool true)], args := [d] }
  | _ => none }
def fnExactUnpackListRow : OpenClaim := { program := "ytcjebflldmiajaa", sum := "f6dedba5c3f77b28529b439e028b9587d114e806f4619e06d44de0b1ccc032ae", func := "loop.example/g00537/laws.FnExactUnpackList", spec := "fnExactUnpackList", apart := false }
def FnExactUnpackListSaid : Prop := fnExactUnpackListRow.holds Try.pinned (OpenSpec.ofChange fnExactUnpackListSpec)

/-- ITS FALSE NEIGHBOUR: 'it returns false'. Refute it at one input. -/
def fnExactUnpackListWrong : ChangeSpec := { name := "fnExactUnpackList", fn := fun _ => fun
  | [d] => { results := [.lit (.bool false)], args := [d] }
  | _ => none }
def FnExactUnpackListWrongFalsely : Prop := fnExactUnpackListRow.holds Try.pinned (OpenSpec.ofChange fnExactUnpackListWrong)

/-- 'laws.FnExactNumberAt': WHATEVER THE INPUT: true; the input reads as it did. -/
def fnExactNumberAtSpec : ChangeSpec := { name := "fnExactNumberAt", fn := fun _ => fun
  | [d1, d2] => { results := [.lit (.bool true)], args := [d1, d2] }
  | _ => none }
def fnExactNumberAtRow : OpenClaim := { program := "ytcjebflldmiajaa", sum := "f6dedba5c3f77b28529b439e028b9587d114e806f4619e06d44de0b1ccc032ae", func := "loop.example/g00537/laws.FnExactNumberAt", spec := "fnExactNumberAt", apart := false }
def FnExactNumberAtSaid : Prop := fnExactNumberAtRow.holds Try.pinned (OpenSpec.ofChange fnExactNumberAtSpec)

/-- ITS FALSE NEIGHBOUR: 'it returns false'. Refute it at one input. -/
def fnExactNumberAtWrong : ChangeSpec := { name := "fnExactNumberAt", fn := fun _ => fun
  | [d1, d2] => { results := [.lit (.bool false)], args := [d1, d2] }
  | _ => none }
def FnExactNumberAtWrongFalsely : Prop := fnExactNumberAtRow.holds Try.pinned (OpenSpec.ofChange fnExactNumberAtWrong)

/-- 'laws.FnExactNextFrom': WHATEVER THE INPUT: true; the input reads as it did. -/
def fnExactNextFromSpec : ChangeSpec := { name := "fnExactNextFrom", fn := fun _ => fun
  | [d1, d2] => { results := [.lit (.bool true)], args := [d1, d2] }
  | _ => none }
def fnExactNextFromRow : OpenClaim := { program := "ytcjebflldmiajaa", sum := "f6dedba5c3f77b28529b439e028b9587d114e806f4619e06d44de0b1ccc032ae", func := "loop.example/g00537/laws.FnExactNextFrom", spec := "fnExactNextFrom", apart := false }
def FnExactNextFromSaid : Prop := fnExactNextFromRow.holds Try.pinned (OpenSpec.ofChange fnExactNextFromSpec)

/-- ITS FALSE NEIGHBOUR: 'it returns false'. Refute it at one input. -/
def fnExactNextFromWrong : ChangeSpec := { name := "fnExactNextFrom", fn := fun _ => fun
  | [d1, d2] => { results := [.lit (.bool false)], args := [d1, d2] }
  | _ => none }
def FnExactNextFromWrongFalsely : Prop := fnExactNextFromRow.holds Try.pinned (OpenSpec.ofChange fnExactNextFromWrong)

/-- 'laws.FnExactBitsIn': WHATEVER THE INPUT: true; the input reads as it did. -/
def fnExactBitsInSpec : ChangeSpec := { name := "fnExactBitsIn", fn := fun _ => fun
  | [d] => { results := [.lit (.bool true)], args := [d] }
  | _ => none }
def fnExactBitsInRow : OpenClaim := { program := "ytcjebflldmiajaa", sum := "f6dedba5c3f77b28529b439e028b9587d114e806f4619e06d44de0b1ccc032ae", func := "loop.example/g00537/laws.FnExactBitsIn", spec := "fnExactBitsIn", apart := false }
def FnExactBitsInSaid : Prop := fnExactBitsInRow.holds Try.pinned (OpenSpec.ofChange fnExactBitsInSpec)

/-- ITS FALSE NEIGHBOUR: 'it returns false'. Refute it at one input. -/
def fnExactBitsInWrong : ChangeSpec := { name := "fnExactBitsIn", fn := fun _ => fun
  | [d] => { results := [.lit (.bool false)], args := [d] }
  | _ => none }
def FnExactBitsInWrongFalsely : Prop := fnExactBitsInRow.holds Try.pinned (OpenSpec.ofChange fnExactBitsInWrong)

/-- 'laws.FnExactMeetPacked': WHATEVER THE INPUT: true; the input reads as it did. -/
def fnExactMeetPackedSpec : ChangeSpec := { name := "fnExactMeetPacked", fn := fun _ => fun
  | [d1, d2] => { results := [.lit (.bool true)], args := [d1, d2] }
  | _ => none }
def fnExactMeetPackedRow : OpenClaim := { program := "ytcjebflldmiajaa", sum := "f6dedba5c3f77b28529b439e028b9587d114e806f4619e06d44de0b1ccc032ae", func := "loop.example/g00537/laws.FnExactMeetPacked", spec := "fnExactMeetPacked", unfollowed := true, recurses := true, apart := false }
def FnExactMeetPackedSaid : Prop := fnExactMeetPackedRow.holds Try.pinned (OpenSpec.ofChange fnExactMeetPackedSpec)

/-- ITS FALSE NEIGHBOUR: 'it returns false'. Refute it at one input. -/
def fnExactMeetPackedWrong : ChangeSpec := { name := "fnExactMeetPacked", fn := fun _ => fun
  | [d1, d2] => { results := [.lit (.bool false)], args := [d1, d2] }
  | _ => none }
def FnExactMeetPackedWrongFalsely : Prop := fnExactMeetPackedRow.holds Try.pinned (OpenSpec.ofChange fnExactMeetPackedWrong)

/-- 'laws.FnPacked': WHATEVER THE INPUT: true; the input reads as it did. -/
def fnPackedSpec : ChangeSpec := { name := "fnPacked", fn := fun _ => fun
  | [d1, d2] => { results := [.lit (.bool true)], args := [d1, d2] }
  | _ => none }
def fnPackedRow : OpenClaim := { program := "ytcjebflldmiajaa", sum := "f6dedba5c3f77b28529b439e028b9587d114e806f4619e06d44de0b1ccc032ae", func := "loop.example/g00537/laws.FnPacked", spec := "fnPacked", apart := false }
def FnPackedSaid : Prop := fnPackedRow.holds Try.pinned (OpenSpec.ofChange fnPackedSpec)

/-- ITS FALSE NEIGHBOUR: 'it returns false'. Refute it at one input. -/
def fnPackedWrong : ChangeSpec := { name := "fnPacked", fn := fun _ => fun
  | [d1, d2] => { results := [.lit (.bool false)], args := [d1, d2] }
  | _ => none }
def FnPackedWrongFalsely : Prop := fnPackedRow.holds Try.pinned (OpenSpec.ofChange fnPackedWrong)

/-- 'laws.FnNext': WHATEVER THE INPUT: true; the input reads as it did. -/
def fnNextSpec : ChangeSpec := { name := "fnNext", fn := fun _ => fun
  | [d1, d2] => { results := [.lit (.bool true)], args := [d1, d2] }
  | _ => none }
def fnNextRow : OpenClaim := { program := "ytcjebflldmiajaa", sum := "f6dedba5c3f77b28529b439e028b9587d114e806f4619e06d44de0b1ccc032ae", func := "loop.example/g00537/laws.FnNext", spec := "fnNext", unfollowed := true, recurses := true, apart := false }
def FnNextSaid : Prop := fnNextRow.holds Try.pinned (OpenSpec.ofChange fnNextSpec)

/-- ITS FALSE NEIGHBOUR: 'it returns false'. Refute it at one input. -/
def fnNextWrong : ChangeSpec := { name := "fnNext", fn := fun _ => fun
  | [d1, d2] => { results := [.lit (.bool false)], args := [d1, d2] }
  | _ => none }
def FnNextWrongFalsely : Prop := fnNextRow.holds Try.pinned (OpenSpec.ofChange fnNextWrong)

/- THE SECOND FORM. 'bulk': how many values and letters a reading holds, each counted each time it is reached (what is shared counts as often as it is met; a slice's spare places count too). A statement '..UptoSaid' is the law's where the arguments, and the package variables that the reading takes, are together of bulk at most 1048576: NARROWER than '..Said'. Prove '..Said' where nothing that the law and all that it calls make is longer than what came in: it says more and counts as full. Else prove '..UptoSaid'. A law counts once. -/
mutual
def uptoBulk {H : Type} : DataW H → Nat
  | .lit (.string bytes) => bytes.length + 1
  | .lit _ => 1
  | .nil => 1
  | .ptr d => uptoBulk d + 1
  | .slice elems spare => uptoBulkAll elems + uptoBulkAll spare + 1
  | .agg parts => uptoBulkAll parts + 1
  | .iface _ d => uptoBulk d + 1
  | .map entries => uptoBulkEntries entries + 1
  | .held _ => 1
def uptoBulkAll {H : Type} : List (DataW H) → Nat
  | [] => 0
  | d :: r => uptoBulk d + uptoBulkAll r
def uptoBulkEntries {H : Type} : List (Lit × DataW H) → Nat
  | [] => 0
  | x :: r => uptoBulkEntry x + uptoBulkEntries r
def uptoBulkEntry {H : Type} : Lit × DataW H → Nat
  | (.string bytes, d) => bytes.length + uptoBulk d + 1
  | (_, d) => uptoBulk d + 1
 end
def uptoSmall : (H : Type) → List (DataW H) → Bool := fun _ ds => decide (uptoBulkAll ds ≤ 1048576)
def OpenSpec.upto (s : _root_.Go.ChangeSpec) : _root_.Go.OpenSpec := { _root_.Go.OpenSpec.ofChange s with cond := some uptoSmall }

/-- 'laws.FnExactPackList', WHERE WHAT IT READS IS OF BULK AT MOST 1048576: true; the input reads as it did. -/
def fnExactPackListUptoRow : OpenClaim := { program := "ytcjebflldmiajaa", sum := "f6dedba5c3f77b28529b439e028b9587d114e806f4619e06d44de0b1ccc032ae", func := "loop.example/g00537/laws.FnExactPackList", spec := "fnExactPackList", apart := false, narrowed := true }
def FnExactPackListUptoSaid : Prop := fnExactPackListUptoRow.holds Try.pinned (OpenSpec.upto fnExactPackListSpec)

/-- 'laws.FnExactGoodPacked', WHERE WHAT IT READS IS OF BULK AT MOST 1048576: true; the input reads as it did. -/
def fnExactGoodPackedUptoRow : OpenClaim := { program := "ytcjebflldmiajaa", sum := "f6dedba5c3f77b28529b439e028b9587d114e806f4619e06d44de0b1ccc032ae", func := "loop.example/g00537/laws.FnExactGoodPacked", spec := "fnExactGoodPacked", apart := false, narrowed := true }
def FnExactGoodPackedUptoSaid : Prop := fnExactGoodPackedUptoRow.holds Try.pinned (OpenSpec.upto fnExactGoodPackedSpec)

/-- 'laws.FnExactUnpackList', WHERE WHAT IT READS IS OF BULK AT MOST 1048576: true; the input reads as it did. -/
def fnExactUnpackListUptoRow : OpenClaim := { program := "ytcjebflldmiajaa", sum := "f6dedba5c3f77b28529b439e028b9587d114e806f4619e06d44de0b1ccc032ae", func := "loop.example/g00537/laws.FnExactUnpackList", spec := "fnExactUnpackList", apart := false, narrowed := true }
def FnExactUnpackListUptoSaid : Prop := fnExactUnpackListUptoRow.holds Try.pinned (OpenSpec.upto fnExactUnpackListSpec)

/-- 'laws.FnExactNumberAt', WHERE WHAT IT READS IS OF BULK AT MOST 1048576: true; the input reads as it did. -/
def fnExactNumberAtUptoRow : OpenClaim := { program := "ytcjebflldmiajaa", sum := "f6dedba5c3f77b28529b439e028b9587d114e806f4619e06d44de0b1ccc032ae", func := "loop.example/g00537/laws.FnExactNumberAt", spec := "fnExactNumberAt", apart := false, narrowed := true }
def FnExactNumberAtUptoSaid : Prop := fnExactNumberAtUptoRow.holds Try.pinned (OpenSpec.upto fnExactNumberAtSpec)

/-- 'laws.FnExactNextFrom', WHERE WHAT IT READS IS OF BULK AT MOST 1048576: true; the input reads as it did. -/
def fnExactNextFromUptoRow : OpenClaim := { program := "ytcjebflldmiajaa", sum := "f6dedba5c3f77b28529b439e028b9587d114e806f4619e06d44de0b1ccc032ae", func := "loop.example/g00537/laws.FnExactNextFrom", spec := "fnExactNextFrom", apart := false, narrowed := true }
def FnExactNextFromUptoSaid : Prop := fnExactNextFromUptoRow.holds Try.pinned (OpenSpec.upto fnExactNextFromSpec)

/-- 'laws.FnExactBitsIn', WHERE WHAT IT READS IS OF BULK AT MOST 1048576: true; the input reads as it did. -/
def fnExactBitsInUptoRow : OpenClaim := { program := "ytcjebflldmiajaa", sum := "f6dedba5c3f77b28529b439e028b9587d114e806f4619e06d44de0b1ccc032ae", func := "loop.example/g00537/laws.FnExactBitsIn", spec := "fnExactBitsIn", apart := false, narrowed := true }
def FnExactBitsInUptoSaid : Prop := fnExactBitsInUptoRow.holds Try.pinned (OpenSpec.upto fnExactBitsInSpec)

/-- 'laws.FnExactMeetPacked', WHERE WHAT IT READS IS OF BULK AT MOST 1048576: true; the input reads as it did. -/
def fnExactMeetPackedUptoRow : OpenClaim := { program := "ytcjebflldmiajaa", sum := "f6dedba5c3f77b28529b439e028b9587d114e806f4619e06d44de0b1ccc032ae", func := "loop.example/g00537/laws.FnExactMeetPacked", spec := "fnExactMeetPacked", unfollowed := true, recurses := true, apart := false, narrowed := true }
def FnExactMeetPackedUptoSaid : Prop := fnExactMeetPackedUptoRow.holds Try.pinned (OpenSpec.upto fnExactMeetPackedSpec)

/-- 'laws.FnPacked', WHERE WHAT IT READS IS OF BULK AT MOST 1048576: true; the input reads as it did. -/
def fnPackedUptoRow : OpenClaim := { program := "ytcjebflldmiajaa", sum := "f6dedba5c3f77b28529b439e028b9587d114e806f4619e06d44de0b1ccc032ae", func := "loop.example/g00537/laws.FnPacked", spec := "fnPacked", apart := false, narrowed := true }
def FnPackedUptoSaid : Prop := fnPackedUptoRow.holds Try.pinned (OpenSpec.upto fnPackedSpec)

/-- 'laws.FnNext', WHERE WHAT IT READS IS OF BULK AT MOST 1048576: true; the input reads as it did. -/
def fnNextUptoRow : OpenClaim := { program := "ytcjebflldmiajaa", sum := "f6dedba5c3f77b28529b439e028b9587d114e806f4619e06d44de0b1ccc032ae", func := "loop.example/g00537/laws.FnNext", spec := "fnNext", unfollowed := true, recurses := true, apart := false, narrowed := true }
def FnNextUptoSaid : Prop := fnNextUptoRow.holds Try.pinned (OpenSpec.upto fnNextSpec)

end Rows
end Go.Proofs.Ytcjebflldmiajaa
