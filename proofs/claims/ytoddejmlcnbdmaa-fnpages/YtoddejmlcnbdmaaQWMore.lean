/- Words used here. -/
import Derived.Test.YtoddejmlcnbdmaaQWWords
import Derived.Test.YtoddejmlcnbdmaaQWLast
import Derived.Test.YtoddejmlcnbdmaaQWQPut
import Derived.Test.YtoddejmlcnbdmaaQWApart
import Derived.Test.YtoddejmlcnbdmaaQWZeros
import Derived.Test.YtoddejmlcnbdmaaQWFoot
import Derived.Test.YtoddejmlcnbdmaaQWKept
import Derived.Test.YtoddejmlcnbdmaaQWNEv
namespace Go.Proofs.YtoddejmlcnbdmaaW.PrintMore
open Go.RowKit Go.Proofs.YtoddejmlcnbdmaaW.PrintWords
namespace Kd
open Go.Proofs.YtoddejmlcnbdmaaW.PrintWords.Kd
end Kd

namespace Kd
open Go.Proofs.YtoddejmlcnbdmaaW.PrintWords.Kd
section
variable {α : Type} {d : Kd α} {e base g N : Nat} {ok : Nat -> Prop} {W w1 : World} {u v : Value} {xs : List α}
end
end Kd
end Go.Proofs.YtoddejmlcnbdmaaW.PrintMore
namespace Go.Proofs.YtoddejmlcnbdmaaW.PrintWords
open Go.RowKit
section
variable {P : Program} {ops : Array Oper} {rest : List Oper} {o : Oper} {a : Act} {Q : Exit -> Act -> World -> Prop} {W : World}
theorem cB {f : FuncId} {as : Array Operand} {ts : Array TypeId} (_ho : o.op = .call { callee := .value (.func f), args := as, argTypes := ts }) (h : wpList P ops Q (o :: rest) a W) : wpList P ops Q (o :: rest) a W := h
theorem bP {b : Builtin} {xs : Array Operand} {ts : Array TypeId} (_ho : o.op = .call { callee := .builtin b, args := xs, argTypes := ts }) (h : wpList P ops Q (o :: rest) a W) : wpList P ops Q (o :: rest) a W := h
end
namespace Kd
section
variable {α : Type} {d : Kd α} {e base : Nat} {ok : Nat -> Prop} {W w1 : World} {v : Value} {xs : List α}
end
section
variable {α : Type} {d : Kd α} {e base g n cap : Nat} {ok Yg okp : Nat -> Prop} {W : World} {xs : List α} {i : Int} {c : List Value}
end
section
variable {α : Type} {d : Kd α} {e base b b' g N : Nat} {ok ok1 : Nat -> Prop} {W W2 w1 : World} {u v : Value} {xs ys : List α} {S : Nat -> Prop}
theorem BS (hE : d.E = []) (h : d.R e W base ok v xs) : d.R e W base (fun k => some k = v.ownBlock /\ ok k) v xs := kW (LA hE h) (fun k hk => ⟨hk, h.1 k hk.symm⟩)
end
end Kd
end Go.Proofs.YtoddejmlcnbdmaaW.PrintWords
namespace Go.Proofs.YtoddejmlcnbdmaaW.PrintWords
open Go.RowKit
namespace Kd
def V {α : Type} (d : Kd α) (_e : Nat) (W : World) (_base : Nat) (ok : Nat -> Prop) (v : Value) (xs : List α) : Prop := ∃ A c, v = .slice A xs.length c /\ xs.length <= c /\ F d W ok A xs.length xs
section
variable {α β : Type} {d : Kd α} {e base base' n m c g N' lo hi : Nat} {ok ok' S : Nat -> Prop} {w W w1 : World} {A : Option Addr} {ad : Addr} {u v v1 : Value} {xs : List α}
end
end Kd
end Go.Proofs.YtoddejmlcnbdmaaW.PrintWords


