/- Words used here. -/
import Derived.Test.YtoddejmlcnbdmaaQWWords
import Derived.Laws.StructEq
namespace Go.Proofs.YtoddejmlcnbdmaaW.PrintWords
open Go.RowKit
section
variable {P : Program} {d : Nat} {xs ys : Array Value} {f : Field} {fs : List Field} {a b : Value} {r s : Bool} {w : World}
end
end Go.Proofs.YtoddejmlcnbdmaaW.PrintWords


