/- Words used here. -/
import Derived.Test.YtoddejmlcnbdmaaQWApart
import Derived.Test.YtoddejmlcnbdmaaQWArr
namespace Go.Proofs.YtoddejmlcnbdmaaW.PrintWords
open Go.RowKit
namespace Kd
section
variable {α : Type} {d : Kd α} {e base g n c : Nat} {ok : Nat -> Prop} {w w0 W : World} {A : Option Addr} {xs : List α}
end
end Kd
end Go.Proofs.YtoddejmlcnbdmaaW.PrintWords


