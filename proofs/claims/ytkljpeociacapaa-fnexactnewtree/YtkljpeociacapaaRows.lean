/-
  No cell of these rows narrows 'for every input' (looked for: loops, veiled, ifaces, maps, wideKeys, modest, calm, conditions, laid).
  DERIVED. THE GIVEN ROWS OF THIS SEAT. 3 by the template 'for every input the law returns true; each argument reads behind the call as it read before'; 0 by the template 'total and deterministic' (their statements: YtkljpeociacapaaTotals.lean).
  GIVEN WITH THE SEED: the statements are not yours to turn. If you find one false, say at which input.
  Laid BY PROGRAM, IN A SANDBOX (cutbox-rows.mjs): the forced cells as the released guide's own fill.sh prints them over the translation 18cc7afa3ba1b36e… (all of the seat's roots in one cut). By AI agents, Wed Nov 11 2026. No macro, syntax, notation, axiom, sorry.
-/
import Derived.Test.YtkljpeociacapaaChecked
import GoSem.Claim
import GoSem.ClaimJoined
import GoSem.ClaimMapViews
import Derived.JoinedTies
import Derived.KernelRfl
namespace Go.Proofs.Ytkljpeociacapaa
/- THE CELL 'sum', in the pinned program and in every row, IS THE sha256 OF THE DUMP (.gsa) THAT YtkljpeociacapaaProg.lean LOADS. Nothing in Lean hashes anything: it is a label: what it is worth is what the hold of that sum in a sandbox is worth. -/
noncomputable def Try.pinned : Pinned := { name := "ytkljpeociacapaa", sum := "18cc7afa3ba1b36ec6111f481afc80ee7ccb9c06843fe9c9ef77dc78b8d732f2", checked := Try.checked }
namespace Rows
def none {H : Type} : Left H := { results := [], args := [] }

/-- 'laws.FnExactGoodShown': WHATEVER THE INPUT: true; the input reads as it did. -/
def fnExactGoodShownSpec : ChangeSpec := { name := "fnExactGoodShown", fn := fun _ => fun
  | [d] => { results := [.lit (.bool true)], args := [d] }
  | _ => none }
def fnExactGoodShownRow : OpenClaim := { program := "ytkljpeociacapaa", sum := "18cc7afa3ba1b36ec6111f481afc80ee7ccb9c06843fe9c9ef77dc78b8d732f2", func := "loop.example/g00537/laws.FnExactGoodShown", spec := "fnExactGoodShown", unfollowed := true, recurses := true, apart := false }
def FnExactGoodShownSaid : Prop := fnExactGoodShownRow.holds Try.pinned (OpenSpec.ofChange fnExactGoodShownSpec)

/-- ITS FALSE NEIGHBOUR: 'it returns false'. Refute it at one input. -/
def fnExactGoodShownWrong : ChangeSpec := { name := "fnExactGoodShown", fn := fun _ => fun
  | [d] => { results := [.lit (.bool false)], args := [d] }
  | _ => none }
def FnExactGoodShownWrongFalsely : Prop := fnExactGoodShownRow.holds Try.pinned (OpenSpec.ofChange fnExactGoodShownWrong)

/-- 'laws.FnExactNeedsKid': WHATEVER THE INPUT: true; the input reads as it did. -/
def fnExactNeedsKidSpec : ChangeSpec := { name := "fnExactNeedsKid", fn := fun _ => fun
  | [d1, d2, d3, d4] => { results := [.lit (.bool true)], args := [d1, d2, d3, d4] }
  | _ => none }
def fnExactNeedsKidRow : OpenClaim := { program := "ytkljpeociacapaa", sum := "18cc7afa3ba1b36ec6111f481afc80ee7ccb9c06843fe9c9ef77dc78b8d732f2", func := "loop.example/g00537/laws.FnExactNeedsKid", spec := "fnExactNeedsKid", unfollowed := true, recurses := true, apart := false }
def FnExactNeedsKidSaid : Prop := fnExactNeedsKidRow.holds Try.pinned (OpenSpec.ofChange fnExactNeedsKidSpec)

/-- ITS FALSE NEIGHBOUR: 'it returns false'. Refute it at one input. -/
def fnExactNeedsKidWrong : ChangeSpec := { name := "fnExactNeedsKid", fn := fun _ => fun
  | [d1, d2, d3, d4] => { results := [.lit (.bool false)], args := [d1, d2, d3, d4] }
  | _ => none }
def FnExactNeedsKidWrongFalsely : Prop := fnExactNeedsKidRow.holds Try.pinned (OpenSpec.ofChange fnExactNeedsKidWrong)

/-- 'laws.FnExactNewTree': WHATEVER THE INPUT: true; the input reads as it did. -/
def fnExactNewTreeSpec : ChangeSpec := { name := "fnExactNewTree", fn := fun _ => fun
  | [d1, d2] => { results := [.lit (.bool true)], args := [d1, d2] }
  | _ => none }
def fnExactNewTreeRow : OpenClaim := { program := "ytkljpeociacapaa", sum := "18cc7afa3ba1b36ec6111f481afc80ee7ccb9c06843fe9c9ef77dc78b8d732f2", func := "loop.example/g00537/laws.FnExactNewTree", spec := "fnExactNewTree", apart := false }
def FnExactNewTreeSaid : Prop := fnExactNewTreeRow.holds Try.pinned (OpenSpec.ofChange fnExactNewTreeSpec)

/-- ITS FALSE NEIGHBOUR: 'it returns false'. Refute it at one input. -/
def fnExactNewTreeWrong : ChangeSpec := { name := "fnExactNewTree", fn := fun _ => fun
  | [d1, d2] => { results := [.lit (.bool false)], args := [d1, d2] }
  | _ => none }
def FnExactNewTreeWrongFalsely : Prop := fnExactNewTreeRow.holds Try.pinned (OpenSpec.ofChange fnExactNewTreeWrong)

/- THE SECOND FORM. 'bulk': how many values and letters a reading holds, each counted each time it is reached (what is shared counts as often as it is met; a slice's spare places count too). A statement '..UptoSaid' is the law's where the arguments, and the package variables that the reading takes, are together of bulk at most 1048576: NARROWER than '..Said'. Prove '..Said' where nothing that the law and all that it calls make is longer than what came in: it says more and counts as full. Else prove '..UptoSaid'. A law counts once. -/
mutual
def uptoBulk {H : Type} : DataW H → Nat
  | .lit (.string bytes) => bytes.length + 1
  | .lit _ => 1
  | .nil => 1
  | .ptr d => uptoBulk d + 1
  | .slice elems spare => uptoBulkAll elems + uptoBulkAll spare + 1
  | .agg parts => uptoBulkAll parts + 1
  | .iface _ d => uptoBulk d + 1
  | .map entries => uptoBulkEntries entries + 1
  | .held _ => 1
def uptoBulkAll {H : Type} : List (DataW H) → Nat
  | [] => 0
  | d :: r => uptoBulk d + uptoBulkAll r
def uptoBulkEntries {H : Type} : List (Lit × DataW H) → Nat
  | [] => 0
  | x :: r => uptoBulkEntry x + uptoBulkEntries r
def uptoBulkEntry {H : Type} : Lit × DataW H → Nat
  | (.string bytes, d) => bytes.length + uptoBulk d + 1
  | (_, d) => uptoBulk d + 1
 end
def uptoSmall : (H : Type) → List (DataW H) → Bool := fun _ ds => decide (uptoBulkAll ds ≤ 1048576)
def OpenSpec.upto (s : _root_.Go.ChangeSpec) : _root_.Go.OpenSpec := { _root_.Go.OpenSpec.ofChange s with cond := some uptoSmall }

/-- 'laws.FnExactGoodShown', WHERE WHAT IT READS IS OF BULK AT MOST 1048576: true; the input reads as it did. -/
def fnExactGoodShownUptoRow : OpenClaim := { program := "ytkljpeociacapaa", sum := "18cc7afa3ba1b36ec6111f481afc80ee7ccb9c06843fe9c9ef77dc78b8d732f2", func := "loop.example/g00537/laws.FnExactGoodShown", spec := "fnExactGoodShown", unfollowed := true, recurses := true, apart := false, narrowed := true }
def FnExactGoodShownUptoSaid : Prop := fnExactGoodShownUptoRow.holds Try.pinned (OpenSpec.upto fnExactGoodShownSpec)

/-- 'laws.FnExactNeedsKid', WHERE WHAT IT READS IS OF BULK AT MOST 1048576: true; the input reads as it did. -/
def fnExactNeedsKidUptoRow : OpenClaim := { program := "ytkljpeociacapaa", sum := "18cc7afa3ba1b36ec6111f481afc80ee7ccb9c06843fe9c9ef77dc78b8d732f2", func := "loop.example/g00537/laws.FnExactNeedsKid", spec := "fnExactNeedsKid", unfollowed := true, recurses := true, apart := false, narrowed := true }
def FnExactNeedsKidUptoSaid : Prop := fnExactNeedsKidUptoRow.holds Try.pinned (OpenSpec.upto fnExactNeedsKidSpec)

/-- 'laws.FnExactNewTree', WHERE WHAT IT READS IS OF BULK AT MOST 1048576: true; the input reads as it did. -/
def fnExactNewTreeUptoRow : OpenClaim := { program := "ytkljpeociacapaa", sum := "18cc7afa3ba1b36ec6111f481afc80ee7ccb9c06843fe9c9ef77dc78b8d732f2", func := "loop.example/g00537/laws.FnExactNewTree", spec := "fnExactNewTree", apart := false, narrowed := true }
def FnExactNewTreeUptoSaid : Prop := fnExactNewTreeUptoRow.holds Try.pinned (OpenSpec.upto fnExactNewTreeSpec)

end Rows
end Go.Proofs.Ytkljpeociacapaa
