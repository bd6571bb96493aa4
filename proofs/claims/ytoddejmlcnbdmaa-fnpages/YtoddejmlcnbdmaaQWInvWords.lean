/- Words used here. -/
import Derived.Test.YtoddejmlcnbdmaaQWInv
import Derived.Test.YtoddejmlcnbdmaaQWFootNe
namespace Go.Proofs.YtoddejmlcnbdmaaW.PrintWords
open Go.RowKit
end Go.Proofs.YtoddejmlcnbdmaaW.PrintWords
namespace Go.Proofs.YtoddejmlcnbdmaaW.PrintLast
section
variable {ops : Array Oper} {a : Act} {o og : Oper} {g : Nat} {t : Tmp} {u : Bool}
end
end Go.Proofs.YtoddejmlcnbdmaaW.PrintLast


