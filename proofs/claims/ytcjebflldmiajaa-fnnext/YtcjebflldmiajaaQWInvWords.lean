/- Words that the proof uses, of those printed for this seat. -/
import Derived.Test.YtcjebflldmiajaaQWInv
import Derived.Test.YtcjebflldmiajaaQWFootNe
namespace Go.Proofs.YtcjebflldmiajaaW.PrintWords
open Go.RowKit
end Go.Proofs.YtcjebflldmiajaaW.PrintWords
namespace Go.Proofs.YtcjebflldmiajaaW.PrintLast
section
variable {ops : Array Oper} {a : Act} {o og : Oper} {g : Nat} {t : Tmp} {u : Bool}
end
end Go.Proofs.YtcjebflldmiajaaW.PrintLast

