/- Words that the proof uses, of those printed for this seat. -/
import Derived.Test.YtcopakljdenolaaQWInv
import Derived.Test.YtcopakljdenolaaQWFootNe
namespace Go.Proofs.YtcopakljdenolaaW.PrintWords
open Go.RowKit
end Go.Proofs.YtcopakljdenolaaW.PrintWords
namespace Go.Proofs.YtcopakljdenolaaW.PrintLast
section
variable {ops : Array Oper} {a : Act} {o og : Oper} {g : Nat} {t : Tmp} {u : Bool}
end
end Go.Proofs.YtcopakljdenolaaW.PrintLast

