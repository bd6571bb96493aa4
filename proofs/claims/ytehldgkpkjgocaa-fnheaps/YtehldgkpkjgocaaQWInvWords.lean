/- Words that the proof uses, of those printed for this seat. -/
import Derived.Test.YtehldgkpkjgocaaQWInv
import Derived.Test.YtehldgkpkjgocaaQWFootNe
namespace Go.Proofs.YtehldgkpkjgocaaW.PrintWords
open Go.RowKit
end Go.Proofs.YtehldgkpkjgocaaW.PrintWords
namespace Go.Proofs.YtehldgkpkjgocaaW.PrintLast
section
variable {ops : Array Oper} {a : Act} {o og : Oper} {g : Nat} {t : Tmp} {u : Bool}
end
end Go.Proofs.YtehldgkpkjgocaaW.PrintLast

