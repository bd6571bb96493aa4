/- Words used here. -/
import Derived.Test.YtoddejmlcnbdmaaQWWords
namespace Go.Proofs.YtoddejmlcnbdmaaW.PrintWords
open Go.RowKit
section
variable {P : Program} {ops : Array Oper} {rest : List Oper} {o : Oper} {a : Act} {Q : Exit -> Act -> World -> Prop} {W : World}
end
end Go.Proofs.YtoddejmlcnbdmaaW.PrintWords


