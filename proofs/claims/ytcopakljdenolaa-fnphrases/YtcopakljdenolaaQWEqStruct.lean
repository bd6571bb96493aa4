/- Words that the proof uses, of those printed for this seat. -/
import Derived.Test.YtcopakljdenolaaQWWords
import Derived.Laws.StructEq
namespace Go.Proofs.YtcopakljdenolaaW.PrintWords
open Go.RowKit
section
variable {P : Program} {d : Nat} {xs ys : Array Value} {f : Field} {fs : List Field} {a b : Value} {r s : Bool} {w : World}
end
end Go.Proofs.YtcopakljdenolaaW.PrintWords

