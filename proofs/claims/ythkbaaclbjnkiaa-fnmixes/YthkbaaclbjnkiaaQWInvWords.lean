/- Words that the proof uses, of those printed for this seat. -/
import Derived.Test.YthkbaaclbjnkiaaQWInv
import Derived.Test.YthkbaaclbjnkiaaQWFootNe
namespace Go.Proofs.YthkbaaclbjnkiaaW.PrintWords
open Go.RowKit
end Go.Proofs.YthkbaaclbjnkiaaW.PrintWords
namespace Go.Proofs.YthkbaaclbjnkiaaW.PrintLast
section
variable {ops : Array Oper} {a : Act} {o og : Oper} {g : Nat} {t : Tmp} {u : Bool}
end
end Go.Proofs.YthkbaaclbjnkiaaW.PrintLast

