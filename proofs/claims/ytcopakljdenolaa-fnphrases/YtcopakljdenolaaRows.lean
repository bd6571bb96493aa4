/-
  No cell of these rows narrows 'for every input' (looked for: loops, veiled, ifaces, maps, wideKeys, modest, calm, conditions, laid).
  DERIVED. THE GIVEN ROWS OF THIS SEAT. 10 by the template 'for every input the law returns true; each argument reads behind the call as it read before'; 0 by the template 'total and deterministic' (their statements: YtcopakljdenolaaTotals.lean).
  GIVEN WITH THE SEED: the statements are not yours to turn. If you find one false, say at which input.
  Laid BY PROGRAM, IN A SANDBOX (cutbox-rows.mjs): the forced cells as the released guide's own fill.sh prints them over the translation be2d45c4068a9737… (all of the seat's roots in one cut). By AI agents, Wed Nov 11 2026. No macro, syntax, notation, axiom, sorry.
-/
import Derived.Test.YtcopakljdenolaaChecked
import GoSem.Claim
import GoSem.ClaimJoined
import GoSem.ClaimMapViews
import Derived.JoinedTies
import Derived.KernelRfl
namespace Go.Proofs.Ytcopakljdenolaa
/- THE CELL 'sum', in the pinned program and in every row, IS THE sha256 OF THE DUMP (.gsa) THAT YtcopakljdenolaaProg.lean LOADS. Nothing in Lean hashes anything: it is a label: what it is worth is what the hold of that sum in a sandbox is worth. -/
noncomputable def Try.pinned : Pinned := { name := "ytcopakljdenolaa", sum := "be2d45c4068a9737628848f87afec43e074f976113587e2ba1d6c073076e53d4", checked := Try.checked }
namespace Rows
def none {H : Type} : Left H := { results := [], args := [] }

/-- 'laws.FnExactWordsOf': WHATEVER THE INPUT: true; the input reads as it did. -/
def fnExactWordsOfSpec : ChangeSpec := { name := "fnExactWordsOf", fn := fun _ => fun
  | [d] => { results := [.lit (.bool true)], args := [d] }
  | _ => none }
def fnExactWordsOfRow : OpenClaim := { program := "ytcopakljdenolaa", sum := "be2d45c4068a9737628848f87afec43e074f976113587e2ba1d6c073076e53d4", func := "loop.example/g00537/laws.FnExactWordsOf", spec := "fnExactWordsOf", apart := false }
def FnExactWordsOfSaid : Prop := fnExactWordsOfRow.holds Try.pinned (OpenSpec.ofChange fnExactWordsOfSpec)

/-- ITS FALSE NEIGHBOUR: 'it returns false'. Refute it at one input. -/
def fnExactWordsOfWrong : ChangeSpec := { name := "fnExactWordsOf", fn := fun _ => fun
  | [d] => { results := [.lit (.bool false)], args := [d] }
  | _ => none }
def FnExactWordsOfWrongFalsely : Prop := fnExactWordsOfRow.holds Try.pinned (OpenSpec.ofChange fnExactWordsOfWrong)

/-- 'laws.FnExactPostsOf': WHATEVER THE INPUT: true; the input reads as it did. -/
def fnExactPostsOfSpec : ChangeSpec := { name := "fnExactPostsOf", fn := fun _ => fun
  | [d1, d2] => { results := [.lit (.bool true)], args := [d1, d2] }
  | _ => none }
def fnExactPostsOfRow : OpenClaim := { program := "ytcopakljdenolaa", sum := "be2d45c4068a9737628848f87afec43e074f976113587e2ba1d6c073076e53d4", func := "loop.example/g00537/laws.FnExactPostsOf", spec := "fnExactPostsOf", unfollowed := true, recurses := true, apart := false }
def FnExactPostsOfSaid : Prop := fnExactPostsOfRow.holds Try.pinned (OpenSpec.ofChange fnExactPostsOfSpec)

/-- ITS FALSE NEIGHBOUR: 'it returns false'. Refute it at one input. -/
def fnExactPostsOfWrong : ChangeSpec := { name := "fnExactPostsOf", fn := fun _ => fun
  | [d1, d2] => { results := [.lit (.bool false)], args := [d1, d2] }
  | _ => none }
def FnExactPostsOfWrongFalsely : Prop := fnExactPostsOfRow.holds Try.pinned (OpenSpec.ofChange fnExactPostsOfWrong)

/-- 'laws.FnExactCountOf': WHATEVER THE INPUT: true; the input reads as it did. -/
def fnExactCountOfSpec : ChangeSpec := { name := "fnExactCountOf", fn := fun _ => fun
  | [d1, d2] => { results := [.lit (.bool true)], args := [d1, d2] }
  | _ => none }
def fnExactCountOfRow : OpenClaim := { program := "ytcopakljdenolaa", sum := "be2d45c4068a9737628848f87afec43e074f976113587e2ba1d6c073076e53d4", func := "loop.example/g00537/laws.FnExactCountOf", spec := "fnExactCountOf", unfollowed := true, recurses := true, apart := false }
def FnExactCountOfSaid : Prop := fnExactCountOfRow.holds Try.pinned (OpenSpec.ofChange fnExactCountOfSpec)

/-- ITS FALSE NEIGHBOUR: 'it returns false'. Refute it at one input. -/
def fnExactCountOfWrong : ChangeSpec := { name := "fnExactCountOf", fn := fun _ => fun
  | [d1, d2] => { results := [.lit (.bool false)], args := [d1, d2] }
  | _ => none }
def FnExactCountOfWrongFalsely : Prop := fnExactCountOfRow.holds Try.pinned (OpenSpec.ofChange fnExactCountOfWrong)

/-- 'laws.FnExactVocabularyOf': WHATEVER THE INPUT: true; the input reads as it did. -/
def fnExactVocabularyOfSpec : ChangeSpec := { name := "fnExactVocabularyOf", fn := fun _ => fun
  | [d] => { results := [.lit (.bool true)], args := [d] }
  | _ => none }
def fnExactVocabularyOfRow : OpenClaim := { program := "ytcopakljdenolaa", sum := "be2d45c4068a9737628848f87afec43e074f976113587e2ba1d6c073076e53d4", func := "loop.example/g00537/laws.FnExactVocabularyOf", spec := "fnExactVocabularyOf", inPlace := ["internal/abi.NoEscape", "internal/bytealg.MakeNoZero"], unfollowed := true, recurses := true, apart := false }
def FnExactVocabularyOfSaid : Prop := fnExactVocabularyOfRow.holds Try.pinned (OpenSpec.ofChange fnExactVocabularyOfSpec)

/-- ITS FALSE NEIGHBOUR: 'it returns false'. Refute it at one input. -/
def fnExactVocabularyOfWrong : ChangeSpec := { name := "fnExactVocabularyOf", fn := fun _ => fun
  | [d] => { results := [.lit (.bool false)], args := [d] }
  | _ => none }
def FnExactVocabularyOfWrongFalsely : Prop := fnExactVocabularyOfRow.holds Try.pinned (OpenSpec.ofChange fnExactVocabularyOfWrong)

/-- 'laws.FnExactGoodPosts': WHATEVER THE INPUT: true; the input reads as it did. -/
def fnExactGoodPostsSpec : ChangeSpec := { name := "fnExactGoodPosts", fn := fun _ => fun
  | [d] => { results := [.lit (.bool true)], args := [d] }
  | _ => none }
def fnExactGoodPostsRow : OpenClaim := { program := "ytcopakljdenolaa", sum := "be2d45c4068a9737628848f87afec43e074f976113587e2ba1d6c073076e53d4", func := "loop.example/g00537/laws.FnExactGoodPosts", spec := "fnExactGoodPosts", apart := false }
def FnExactGoodPostsSaid : Prop := fnExactGoodPostsRow.holds Try.pinned (OpenSpec.ofChange fnExactGoodPostsSpec)

/-- ITS FALSE NEIGHBOUR: 'it returns false'. Refute it at one input. -/
def fnExactGoodPostsWrong : ChangeSpec := { name := "fnExactGoodPosts", fn := fun _ => fun
  | [d] => { results := [.lit (.bool false)], args := [d] }
  | _ => none }
def FnExactGoodPostsWrongFalsely : Prop := fnExactGoodPostsRow.holds Try.pinned (OpenSpec.ofChange fnExactGoodPostsWrong)

/-- 'laws.FnExactMeetPosts': WHATEVER THE INPUT: true; the input reads as it did. -/
def fnExactMeetPostsSpec : ChangeSpec := { name := "fnExactMeetPosts", fn := fun _ => fun
  | [d1, d2, d3] => { results := [.lit (.bool true)], args := [d1, d2, d3] }
  | _ => none }
def fnExactMeetPostsRow : OpenClaim := { program := "ytcopakljdenolaa", sum := "be2d45c4068a9737628848f87afec43e074f976113587e2ba1d6c073076e53d4", func := "loop.example/g00537/laws.FnExactMeetPosts", spec := "fnExactMeetPosts", unfollowed := true, recurses := true, apart := false }
def FnExactMeetPostsSaid : Prop := fnExactMeetPostsRow.holds Try.pinned (OpenSpec.ofChange fnExactMeetPostsSpec)

/-- ITS FALSE NEIGHBOUR: 'it returns false'. Refute it at one input. -/
def fnExactMeetPostsWrong : ChangeSpec := { name := "fnExactMeetPosts", fn := fun _ => fun
  | [d1, d2, d3] => { results := [.lit (.bool false)], args := [d1, d2, d3] }
  | _ => none }
def FnExactMeetPostsWrongFalsely : Prop := fnExactMeetPostsRow.holds Try.pinned (OpenSpec.ofChange fnExactMeetPostsWrong)

/-- 'laws.FnExactPhraseIn': WHATEVER THE INPUT: true; the input reads as it did. -/
def fnExactPhraseInSpec : ChangeSpec := { name := "fnExactPhraseIn", fn := fun _ => fun
  | [d1, d2] => { results := [.lit (.bool true)], args := [d1, d2] }
  | _ => none }
def fnExactPhraseInRow : OpenClaim := { program := "ytcopakljdenolaa", sum := "be2d45c4068a9737628848f87afec43e074f976113587e2ba1d6c073076e53d4", func := "loop.example/g00537/laws.FnExactPhraseIn", spec := "fnExactPhraseIn", unfollowed := true, recurses := true, apart := false }
def FnExactPhraseInSaid : Prop := fnExactPhraseInRow.holds Try.pinned (OpenSpec.ofChange fnExactPhraseInSpec)

/-- ITS FALSE NEIGHBOUR: 'it returns false'. Refute it at one input. -/
def fnExactPhraseInWrong : ChangeSpec := { name := "fnExactPhraseIn", fn := fun _ => fun
  | [d1, d2] => { results := [.lit (.bool false)], args := [d1, d2] }
  | _ => none }
def FnExactPhraseInWrongFalsely : Prop := fnExactPhraseInRow.holds Try.pinned (OpenSpec.ofChange fnExactPhraseInWrong)

/-- 'laws.FnExactNearIn': WHATEVER THE INPUT: true; the input reads as it did. -/
def fnExactNearInSpec : ChangeSpec := { name := "fnExactNearIn", fn := fun _ => fun
  | [d1, d2, d3, d4] => { results := [.lit (.bool true)], args := [d1, d2, d3, d4] }
  | _ => none }
def fnExactNearInRow : OpenClaim := { program := "ytcopakljdenolaa", sum := "be2d45c4068a9737628848f87afec43e074f976113587e2ba1d6c073076e53d4", func := "loop.example/g00537/laws.FnExactNearIn", spec := "fnExactNearIn", unfollowed := true, recurses := true, apart := false }
def FnExactNearInSaid : Prop := fnExactNearInRow.holds Try.pinned (OpenSpec.ofChange fnExactNearInSpec)

/-- ITS FALSE NEIGHBOUR: 'it returns false'. Refute it at one input. -/
def fnExactNearInWrong : ChangeSpec := { name := "fnExactNearIn", fn := fun _ => fun
  | [d1, d2, d3, d4] => { results := [.lit (.bool false)], args := [d1, d2, d3, d4] }
  | _ => none }
def FnExactNearInWrongFalsely : Prop := fnExactNearInRow.holds Try.pinned (OpenSpec.ofChange fnExactNearInWrong)

/-- 'laws.FnWords': WHATEVER THE INPUT: true; the input reads as it did. -/
def fnWordsSpec : ChangeSpec := { name := "fnWords", fn := fun _ => fun
  | [d1, d2] => { results := [.lit (.bool true)], args := [d1, d2] }
  | _ => none }
def fnWordsRow : OpenClaim := { program := "ytcopakljdenolaa", sum := "be2d45c4068a9737628848f87afec43e074f976113587e2ba1d6c073076e53d4", func := "loop.example/g00537/laws.FnWords", spec := "fnWords", inPlace := ["internal/abi.NoEscape", "internal/bytealg.MakeNoZero"], unfollowed := true, recurses := true, apart := false }
def FnWordsSaid : Prop := fnWordsRow.holds Try.pinned (OpenSpec.ofChange fnWordsSpec)

/-- ITS FALSE NEIGHBOUR: 'it returns false'. Refute it at one input. -/
def fnWordsWrong : ChangeSpec := { name := "fnWords", fn := fun _ => fun
  | [d1, d2] => { results := [.lit (.bool false)], args := [d1, d2] }
  | _ => none }
def FnWordsWrongFalsely : Prop := fnWordsRow.holds Try.pinned (OpenSpec.ofChange fnWordsWrong)

/-- 'laws.FnPhrases': WHATEVER THE INPUT: true; the input reads as it did. -/
def fnPhrasesSpec : ChangeSpec := { name := "fnPhrases", fn := fun _ => fun
  | [d1, d2] => { results := [.lit (.bool true)], args := [d1, d2] }
  | _ => none }
def fnPhrasesRow : OpenClaim := { program := "ytcopakljdenolaa", sum := "be2d45c4068a9737628848f87afec43e074f976113587e2ba1d6c073076e53d4", func := "loop.example/g00537/laws.FnPhrases", spec := "fnPhrases", unfollowed := true, recurses := true, apart := false }
def FnPhrasesSaid : Prop := fnPhrasesRow.holds Try.pinned (OpenSpec.ofChange fnPhrasesSpec)

/-- ITS FALSE NEIGHBOUR: 'it returns false'. Refute it at one input. -/
def fnPhrasesWrong : ChangeSpec := { name := "fnPhrases", fn := fun _ => fun
  | [d1, d2] => { results := [.lit (.bool false)], args := [d1, d2] }
  | _ => none }
def FnPhrasesWrongFalsely : Prop := fnPhrasesRow.holds Try.pinned (OpenSpec.ofChange fnPhrasesWrong)

/- THE SECOND FORM. 'bulk': how many values and letters a reading holds, each counted each time it is reached (what is shared counts as often as it is met; a slice's spare places count too). A statement '..UptoSaid' is the law's where the arguments, and the package variables that the reading takes, are together of bulk at most 1048576: NARROWER than '..Said'. Prove '..Said' where nothing that the law and all that it calls make is longer than what came in: it says more and counts as full. Else prove '..UptoSaid'. A law counts once. -/
mutual
def uptoBulk {H : Type} : DataW H → Nat
  | .lit (.string bytes) => bytes.length + 1
  | .lit _ => 1
  | .nil => 1
  | .ptr d => uptoBulk d + 1
  | .slice elems spare => uptoBulkAll elems + uptoBulkAll spare + 1
  | .agg parts => uptoBulkAll parts + 1
  | .iface _ d => uptoBulk d + 1
  | .map entries => uptoBulkEntries entries + 1
  | .held _ => 1
def uptoBulkAll {H : Type} : List (DataW H) → Nat
  | [] => 0
  | d :: r => uptoBulk d + uptoBulkAll r
def uptoBulkEntries {H : Type} : List (Lit × DataW H) → Nat
  | [] => 0
  | x :: r => uptoBulkEntry x + uptoBulkEntries r
def uptoBulkEntry {H : Type} : Lit × DataW H → Nat
  | (.string bytes, d) => bytes.length + uptoBulk d + 1
  | (_, d) => uptoBulk d + 1
 end
def uptoSmall : (H : Type) → List (DataW H) → Bool := fun _ ds => decide (uptoBulkAll ds ≤ 1048576)
def OpenSpec.upto (s : _root_.Go.ChangeSpec) : _root_.Go.OpenSpec := { _root_.Go.OpenSpec.ofChange s with cond := some uptoSmall }

/-- 'laws.FnExactWordsOf', WHERE WHAT IT READS IS OF BULK AT MOST 1048576: true; the input reads as it did. -/
def fnExactWordsOfUptoRow : OpenClaim := { program := "ytcopakljdenolaa", sum := "be2d45c4068a9737628848f87afec43e074f976113587e2ba1d6c073076e53d4", func := "loop.example/g00537/laws.FnExactWordsOf", spec := "fnExactWordsOf", apart := false, narrowed := true }
def FnExactWordsOfUptoSaid : Prop := fnExactWordsOfUptoRow.holds Try.pinned (OpenSpec.upto fnExactWordsOfSpec)

/-- 'laws.FnExactPostsOf', WHERE WHAT IT READS IS OF BULK AT MOST 1048576: true; the input reads as it did. -/
def fnExactPostsOfUptoRow : OpenClaim := { program := "ytcopakljdenolaa", sum := "be2d45c4068a9737628848f87afec43e074f976113587e2ba1d6c073076e53d4", func := "loop.example/g00537/laws.FnExactPostsOf", spec := "fnExactPostsOf", unfollowed := true, recurses := true, apart := false, narrowed := true }
def FnExactPostsOfUptoSaid : Prop := fnExactPostsOfUptoRow.holds Try.pinned (OpenSpec.upto fnExactPostsOfSpec)

/-- 'laws.FnExactCountOf', WHERE WHAT IT READS IS OF BULK AT MOST 1048576: true; the input reads as it did. -/
def fnExactCountOfUptoRow : OpenClaim := { program := "ytcopakljdenolaa", sum := "be2d45c4068a9737628848f87afec43e074f976113587e2ba1d6c073076e53d4", func := "loop.example/g00537/laws.FnExactCountOf", spec := "fnExactCountOf", unfollowed := true, recurses := true, apart := false, narrowed := true }
def FnExactCountOfUptoSaid : Prop := fnExactCountOfUptoRow.holds Try.pinned (OpenSpec.upto fnExactCountOfSpec)

/-- 'laws.FnExactVocabularyOf', WHERE WHAT IT READS IS OF BULK AT MOST 1048576: true; the input reads as it did. -/
def fnExactVocabularyOfUptoRow : OpenClaim := { program := "ytcopakljdenolaa", sum := "be2d45c4068a9737628848f87afec43e074f976113587e2ba1d6c073076e53d4", func := "loop.example/g00537/laws.FnExactVocabularyOf", spec := "fnExactVocabularyOf", inPlace := ["internal/abi.NoEscape", "internal/bytealg.MakeNoZero"], unfollowed := true, recurses := true, apart := false, narrowed := true }
def FnExactVocabularyOfUptoSaid : Prop := fnExactVocabularyOfUptoRow.holds Try.pinned (OpenSpec.upto fnExactVocabularyOfSpec)

/-- 'laws.FnExactGoodPosts', WHERE WHAT IT READS IS OF BULK AT MOST 1048576: true; the input reads as it did. -/
def fnExactGoodPostsUptoRow : OpenClaim := { program := "ytcopakljdenolaa", sum := "be2d45c4068a9737628848f87afec43e074f976113587e2ba1d6c073076e53d4", func := "loop.example/g00537/laws.FnExactGoodPosts", spec := "fnExactGoodPosts", apart := false, narrowed := true }
def FnExactGoodPostsUptoSaid : Prop := fnExactGoodPostsUptoRow.holds Try.pinned (OpenSpec.upto fnExactGoodPostsSpec)

/-- 'laws.FnExactMeetPosts', WHERE WHAT IT READS IS OF BULK AT MOST 1048576: true; the input reads as it did. -/
def fnExactMeetPostsUptoRow : OpenClaim := { program := "ytcopakljdenolaa", sum := "be2d45c4068a9737628848f87afec43e074f976113587e2ba1d6c073076e53d4", func := "loop.example/g00537/laws.FnExactMeetPosts", spec := "fnExactMeetPosts", unfollowed := true, recurses := true, apart := false, narrowed := true }
def FnExactMeetPostsUptoSaid : Prop := fnExactMeetPostsUptoRow.holds Try.pinned (OpenSpec.upto fnExactMeetPostsSpec)

/-- 'laws.FnExactPhraseIn', WHERE WHAT IT READS IS OF BULK AT MOST 1048576: true; the input reads as it did. -/
def fnExactPhraseInUptoRow : OpenClaim := { program := "ytcopakljdenolaa", sum := "be2d45c4068a9737628848f87afec43e074f976113587e2ba1d6c073076e53d4", func := "loop.example/g00537/laws.FnExactPhraseIn", spec := "fnExactPhraseIn", unfollowed := true, recurses := true, apart := false, narrowed := true }
def FnExactPhraseInUptoSaid : Prop := fnExactPhraseInUptoRow.holds Try.pinned (OpenSpec.upto fnExactPhraseInSpec)

/-- 'laws.FnExactNearIn', WHERE WHAT IT READS IS OF BULK AT MOST 1048576: true; the input reads as it did. -/
def fnExactNearInUptoRow : OpenClaim := { program := "ytcopakljdenolaa", sum := "be2d45c4068a9737628848f87afec43e074f976113587e2ba1d6c073076e53d4", func := "loop.example/g00537/laws.FnExactNearIn", spec := "fnExactNearIn", unfollowed := true, recurses := true, apart := false, narrowed := true }
def FnExactNearInUptoSaid : Prop := fnExactNearInUptoRow.holds Try.pinned (OpenSpec.upto fnExactNearInSpec)

/-- 'laws.FnWords', WHERE WHAT IT READS IS OF BULK AT MOST 1048576: true; the input reads as it did. -/
def fnWordsUptoRow : OpenClaim := { program := "ytcopakljdenolaa", sum := "be2d45c4068a9737628848f87afec43e074f976113587e2ba1d6c073076e53d4", func := "loop.example/g00537/laws.FnWords", spec := "fnWords", inPlace := ["internal/abi.NoEscape", "internal/bytealg.MakeNoZero"], unfollowed := true, recurses := true, apart := false, narrowed := true }
def FnWordsUptoSaid : Prop := fnWordsUptoRow.holds Try.pinned (OpenSpec.upto fnWordsSpec)

/-- 'laws.FnPhrases', WHERE WHAT IT READS IS OF BULK AT MOST 1048576: true; the input reads as it did. -/
def fnPhrasesUptoRow : OpenClaim := { program := "ytcopakljdenolaa", sum := "be2d45c4068a9737628848f87afec43e074f976113587e2ba1d6c073076e53d4", func := "loop.example/g00537/laws.FnPhrases", spec := "fnPhrases", unfollowed := true, recurses := true, apart := false, narrowed := true }
def FnPhrasesUptoSaid : Prop := fnPhrasesUptoRow.holds Try.pinned (OpenSpec.upto fnPhrasesSpec)

end Rows
end Go.Proofs.Ytcopakljdenolaa
