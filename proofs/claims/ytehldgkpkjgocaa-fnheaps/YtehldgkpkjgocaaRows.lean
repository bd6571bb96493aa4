/-
  No cell of these rows narrows 'for every input' (looked for: loops, veiled, ifaces, maps, wideKeys, modest, calm, conditions, laid).
  DERIVED. THE GIVEN ROWS OF THIS SEAT. 7 by the template 'for every input the law returns true; each argument reads behind the call as it read before'; 0 by the template 'total and deterministic' (their statements: YtehldgkpkjgocaaTotals.lean).
  GIVEN WITH THE SEED: the statements are not yours to turn. If you find one false, say at which input.
  Laid BY PROGRAM, IN A SANDBOX (cutbox-rows.mjs): the forced cells as the released guide's own fill.sh prints them over the translation 3d36753fbf28cf96… (all of the seat's roots in one cut). By AI agents, Wed Nov 11 2026. No macro, syntax, notation, axiom, sorry.
-/
import Derived.Test.YtehldgkpkjgocaaChecked
import GoSem.Claim
import GoSem.ClaimJoined
import GoSem.ClaimMapViews
import Derived.JoinedTies
import Derived.KernelRfl
namespace Go.Proofs.Ytehldgkpkjgocaa
/- THE CELL 'sum', in the pinned program and in every row, IS THE sha256 OF THE DUMP (.gsa) THAT YtehldgkpkjgocaaProg.lean LOADS. Nothing in Lean hashes anything: it is a label: what it is worth is what the hold of that sum in a sandbox is worth. -/
noncomputable def Try.pinned : Pinned := { name := "ytehldgkpkjgocaa", sum := "3d36753fbf28cf9632507606770f8dcad9bf643a317f2fee830708958b153765", checked := Try.checked }
namespace Rows
def none {H : Type} : Left H := { results := [], args := [] }

/-- 'laws.FnExactGoodRow': WHATEVER THE INPUT: true; the input reads as it did. -/
def fnExactGoodRowSpec : ChangeSpec := { name := "fnExactGoodRow", fn := fun _ => fun
  | [d] => { results := [.lit (.bool true)], args := [d] }
  | _ => none }
def fnExactGoodRowRow : OpenClaim := { program := "ytehldgkpkjgocaa", sum := "3d36753fbf28cf9632507606770f8dcad9bf643a317f2fee830708958b153765", func := "loop.example/g00537/laws.FnExactGoodRow", spec := "fnExactGoodRow", apart := false }
def FnExactGoodRowSaid : Prop := fnExactGoodRowRow.holds Try.pinned (OpenSpec.ofChange fnExactGoodRowSpec)

/-- ITS FALSE NEIGHBOUR: 'it returns false'. Refute it at one input. -/
def fnExactGoodRowWrong : ChangeSpec := { name := "fnExactGoodRow", fn := fun _ => fun
  | [d] => { results := [.lit (.bool false)], args := [d] }
  | _ => none }
def FnExactGoodRowWrongFalsely : Prop := fnExactGoodRowRow.holds Try.pinned (OpenSpec.ofChange fnExactGoodRowWrong)

/-- 'laws.FnExactTotalOf': WHATEVER THE INPUT: true; the input reads as it did. -/
def fnExactTotalOfSpec : ChangeSpec := { name := "fnExactTotalOf", fn := fun _ => fun
  | [d1, d2] => { results := [.lit (.bool true)], args := [d1, d2] }
  | _ => none }
def fnExactTotalOfRow : OpenClaim := { program := "ytehldgkpkjgocaa", sum := "3d36753fbf28cf9632507606770f8dcad9bf643a317f2fee830708958b153765", func := "loop.example/g00537/laws.FnExactTotalOf", spec := "fnExactTotalOf", unfollowed := true, recurses := true, apart := false }
def FnExactTotalOfSaid : Prop := fnExactTotalOfRow.holds Try.pinned (OpenSpec.ofChange fnExactTotalOfSpec)

/-- ITS FALSE NEIGHBOUR: 'it returns false'. Refute it at one input. -/
def fnExactTotalOfWrong : ChangeSpec := { name := "fnExactTotalOf", fn := fun _ => fun
  | [d1, d2] => { results := [.lit (.bool false)], args := [d1, d2] }
  | _ => none }
def FnExactTotalOfWrongFalsely : Prop := fnExactTotalOfRow.holds Try.pinned (OpenSpec.ofChange fnExactTotalOfWrong)

/-- 'laws.FnExactBoundAt': WHATEVER THE INPUT: true; the input reads as it did. -/
def fnExactBoundAtSpec : ChangeSpec := { name := "fnExactBoundAt", fn := fun _ => fun
  | [d1, d2] => { results := [.lit (.bool true)], args := [d1, d2] }
  | _ => none }
def fnExactBoundAtRow : OpenClaim := { program := "ytehldgkpkjgocaa", sum := "3d36753fbf28cf9632507606770f8dcad9bf643a317f2fee830708958b153765", func := "loop.example/g00537/laws.FnExactBoundAt", spec := "fnExactBoundAt", unfollowed := true, recurses := true, apart := false }
def FnExactBoundAtSaid : Prop := fnExactBoundAtRow.holds Try.pinned (OpenSpec.ofChange fnExactBoundAtSpec)

/-- ITS FALSE NEIGHBOUR: 'it returns false'. Refute it at one input. -/
def fnExactBoundAtWrong : ChangeSpec := { name := "fnExactBoundAt", fn := fun _ => fun
  | [d1, d2] => { results := [.lit (.bool false)], args := [d1, d2] }
  | _ => none }
def FnExactBoundAtWrongFalsely : Prop := fnExactBoundAtRow.holds Try.pinned (OpenSpec.ofChange fnExactBoundAtWrong)

/-- 'laws.FnExactIsHeap': WHATEVER THE INPUT: true; the input reads as it did. -/
def fnExactIsHeapSpec : ChangeSpec := { name := "fnExactIsHeap", fn := fun _ => fun
  | [d] => { results := [.lit (.bool true)], args := [d] }
  | _ => none }
def fnExactIsHeapRow : OpenClaim := { program := "ytehldgkpkjgocaa", sum := "3d36753fbf28cf9632507606770f8dcad9bf643a317f2fee830708958b153765", func := "loop.example/g00537/laws.FnExactIsHeap", spec := "fnExactIsHeap", unfollowed := true, recurses := true, apart := false }
def FnExactIsHeapSaid : Prop := fnExactIsHeapRow.holds Try.pinned (OpenSpec.ofChange fnExactIsHeapSpec)

/-- ITS FALSE NEIGHBOUR: 'it returns false'. Refute it at one input. -/
def fnExactIsHeapWrong : ChangeSpec := { name := "fnExactIsHeap", fn := fun _ => fun
  | [d] => { results := [.lit (.bool false)], args := [d] }
  | _ => none }
def FnExactIsHeapWrongFalsely : Prop := fnExactIsHeapRow.holds Try.pinned (OpenSpec.ofChange fnExactIsHeapWrong)

/-- 'laws.FnExactHeapPush': WHATEVER THE INPUT: true; the input reads as it did. -/
def fnExactHeapPushSpec : ChangeSpec := { name := "fnExactHeapPush", fn := fun _ => fun
  | [d1, d2] => { results := [.lit (.bool true)], args := [d1, d2] }
  | _ => none }
def fnExactHeapPushRow : OpenClaim := { program := "ytehldgkpkjgocaa", sum := "3d36753fbf28cf9632507606770f8dcad9bf643a317f2fee830708958b153765", func := "loop.example/g00537/laws.FnExactHeapPush", spec := "fnExactHeapPush", unfollowed := true, recurses := true, apart := false }
def FnExactHeapPushSaid : Prop := fnExactHeapPushRow.holds Try.pinned (OpenSpec.ofChange fnExactHeapPushSpec)

/-- ITS FALSE NEIGHBOUR: 'it returns false'. Refute it at one input. -/
def fnExactHeapPushWrong : ChangeSpec := { name := "fnExactHeapPush", fn := fun _ => fun
  | [d1, d2] => { results := [.lit (.bool false)], args := [d1, d2] }
  | _ => none }
def FnExactHeapPushWrongFalsely : Prop := fnExactHeapPushRow.holds Try.pinned (OpenSpec.ofChange fnExactHeapPushWrong)

/-- 'laws.FnExactHeapPop': WHATEVER THE INPUT: true; the input reads as it did. -/
def fnExactHeapPopSpec : ChangeSpec := { name := "fnExactHeapPop", fn := fun _ => fun
  | [d] => { results := [.lit (.bool true)], args := [d] }
  | _ => none }
def fnExactHeapPopRow : OpenClaim := { program := "ytehldgkpkjgocaa", sum := "3d36753fbf28cf9632507606770f8dcad9bf643a317f2fee830708958b153765", func := "loop.example/g00537/laws.FnExactHeapPop", spec := "fnExactHeapPop", unfollowed := true, recurses := true, apart := false }
def FnExactHeapPopSaid : Prop := fnExactHeapPopRow.holds Try.pinned (OpenSpec.ofChange fnExactHeapPopSpec)

/-- ITS FALSE NEIGHBOUR: 'it returns false'. Refute it at one input. -/
def fnExactHeapPopWrong : ChangeSpec := { name := "fnExactHeapPop", fn := fun _ => fun
  | [d] => { results := [.lit (.bool false)], args := [d] }
  | _ => none }
def FnExactHeapPopWrongFalsely : Prop := fnExactHeapPopRow.holds Try.pinned (OpenSpec.ofChange fnExactHeapPopWrong)

/-- 'laws.FnHeaps': WHATEVER THE INPUT: true; the input reads as it did. -/
def fnHeapsSpec : ChangeSpec := { name := "fnHeaps", fn := fun _ => fun
  | [d1, d2] => { results := [.lit (.bool true)], args := [d1, d2] }
  | _ => none }
def fnHeapsRow : OpenClaim := { program := "ytehldgkpkjgocaa", sum := "3d36753fbf28cf9632507606770f8dcad9bf643a317f2fee830708958b153765", func := "loop.example/g00537/laws.FnHeaps", spec := "fnHeaps", unfollowed := true, recurses := true, apart := false }
def FnHeapsSaid : Prop := fnHeapsRow.holds Try.pinned (OpenSpec.ofChange fnHeapsSpec)

/-- ITS FALSE NEIGHBOUR: 'it returns false'. Refute it at one input. -/
def fnHeapsWrong : ChangeSpec := { name := "fnHeaps", fn := fun _ => fun
  | [d1, d2] => { results := [.lit (.bool false)], args := [d1, d2] }
  | _ => none }
def FnHeapsWrongFalsely : Prop := fnHeapsRow.holds Try.pinned (OpenSpec.ofChange fnHeapsWrong)

/- THE SECOND FORM. 'bulk': how many values and letters a reading holds, each counted each time it is reached (what is shared counts as often as it is met; a slice's spare places count too). A statement '..UptoSaid' is the law's where the arguments, and the package variables that the reading takes, are together of bulk at most 1048576: NARROWER than '..Said'. Prove '..Said' where nothing that the law and all that it calls make is longer than what came in: it says more and counts as full. Else prove '..UptoSaid'. A law counts once. -/
mutual
def uptoBulk {H : Type} : DataW H → Nat
  | .lit (.string bytes) => bytes.length + 1
  | .lit _ => 1
  | .nil => 1
  | .ptr d => uptoBulk d + 1
  | .slice elems spare => uptoBulkAll elems + uptoBulkAll spare + 1
  | .agg parts => uptoBulkAll parts + 1
  | .iface _ d => uptoBulk d + 1
  | .map entries => uptoBulkEntries entries + 1
  | .held _ => 1
def uptoBulkAll {H : Type} : List (DataW H) → Nat
  | [] => 0
  | d :: r => uptoBulk d + uptoBulkAll r
def uptoBulkEntries {H : Type} : List (Lit × DataW H) → Nat
  | [] => 0
  | x :: r => uptoBulkEntry x + uptoBulkEntries r
def uptoBulkEntry {H : Type} : Lit × DataW H → Nat
  | (.string bytes, d) => bytes.length + uptoBulk d + 1
  | (_, d) => uptoBulk d + 1
 end
def uptoSmall : (H : Type) → List (DataW H) → Bool := fun _ ds => decide (uptoBulkAll ds ≤ 1048576)
def OpenSpec.upto (s : _root_.Go.ChangeSpec) : _root_.Go.OpenSpec := { _root_.Go.OpenSpec.ofChange s with cond := some uptoSmall }

/-- 'laws.FnExactGoodRow', WHERE WHAT IT READS IS OF BULK AT MOST 1048576: true; the input reads as it did. -/
def fnExactGoodRowUptoRow : OpenClaim := { program := "ytehldgkpkjgocaa", sum := "3d36753fbf28cf9632507606770f8dcad9bf643a317f2fee830708958b153765", func := "loop.example/g00537/laws.FnExactGoodRow", spec := "fnExactGoodRow", apart := false, narrowed := true }
def FnExactGoodRowUptoSaid : Prop := fnExactGoodRowUptoRow.holds Try.pinned (OpenSpec.upto fnExactGoodRowSpec)

/-- 'laws.FnExactTotalOf', WHERE WHAT IT READS IS OF BULK AT MOST 1048576: true; the input reads as it did. -/
def fnExactTotalOfUptoRow : OpenClaim := { program := "ytehldgkpkjgocaa", sum := "3d36753fbf28cf9632507606770f8dcad9bf643a317f2fee830708958b153765", func := "loop.example/g00537/laws.FnExactTotalOf", spec := "fnExactTotalOf", unfollowed := true, recurses := true, apart := false, narrowed := true }
def FnExactTotalOfUptoSaid : Prop := fnExactTotalOfUptoRow.holds Try.pinned (OpenSpec.upto fnExactTotalOfSpec)

/-- 'laws.FnExactBoundAt', WHERE WHAT IT READS IS OF BULK AT MOST 1048576: true; the input reads as it did. -/
def fnExactBoundAtUptoRow : OpenClaim := { program := "ytehldgkpkjgocaa", sum := "3d36753fbf28cf9632507606770f8dcad9bf643a317f2fee830708958b153765", func := "loop.example/g00537/laws.FnExactBoundAt", spec := "fnExactBoundAt", unfollowed := true, recurses := true, apart := false, narrowed := true }
def FnExactBoundAtUptoSaid : Prop := fnExactBoundAtUptoRow.holds Try.pinned (OpenSpec.upto fnExactBoundAtSpec)

/-- 'laws.FnExactIsHeap', WHERE WHAT IT READS IS OF BULK AT MOST 1048576: true; the input reads as it did. -/
def fnExactIsHeapUptoRow : OpenClaim := { program := "ytehldgkpkjgocaa", sum := "3d36753fbf28cf9632507606770f8dcad9bf643a317f2fee830708958b153765", func := "loop.example/g00537/laws.FnExactIsHeap", spec := "fnExactIsHeap", unfollowed := true, recurses := true, apart := false, narrowed := true }
def FnExactIsHeapUptoSaid : Prop := fnExactIsHeapUptoRow.holds Try.pinned (OpenSpec.upto fnExactIsHeapSpec)

/-- 'laws.FnExactHeapPush', WHERE WHAT IT READS IS OF BULK AT MOST 1048576: true; the input reads as it did. -/
def fnExactHeapPushUptoRow : OpenClaim := { program := "ytehldgkpkjgocaa", sum := "3d36753fbf28cf9632507606770f8dcad9bf643a317f2fee830708958b153765", func := "loop.example/g00537/laws.FnExactHeapPush", spec := "fnExactHeapPush", unfollowed := true, recurses := true, apart := false, narrowed := true }
def FnExactHeapPushUptoSaid : Prop := fnExactHeapPushUptoRow.holds Try.pinned (OpenSpec.upto fnExactHeapPushSpec)

/-- 'laws.FnExactHeapPop', WHERE WHAT IT READS IS OF BULK AT MOST 1048576: true; the input reads as it did. -/
def fnExactHeapPopUptoRow : OpenClaim := { program := "ytehldgkpkjgocaa", sum := "3d36753fbf28cf9632507606770f8dcad9bf643a317f2fee830708958b153765", func := "loop.example/g00537/laws.FnExactHeapPop", spec := "fnExactHeapPop", unfollowed := true, recurses := true, apart := false, narrowed := true }
def FnExactHeapPopUptoSaid : Prop := fnExactHeapPopUptoRow.holds Try.pinned (OpenSpec.upto fnExactHeapPopSpec)

/-- 'laws.FnHeaps', WHERE WHAT IT READS IS OF BULK AT MOST 1048576: true; the input reads as it did. -/
def fnHeapsUptoRow : OpenClaim := { program := "ytehldgkpkjgocaa", sum := "3d36753fbf28cf9632507606770f8dcad9bf643a317f2fee830708958b153765", func := "loop.example/g00537/laws.FnHeaps", spec := "fnHeaps", unfollowed := true, recurses := true, apart := false, narrowed := true }
def FnHeapsUptoSaid : Prop := fnHeapsUptoRow.holds Try.pinned (OpenSpec.upto fnHeapsSpec)

end Rows
end Go.Proofs.Ytehldgkpkjgocaa
