/- The law FnPages holds of the given program: at every input it answers true and leaves its arguments as they were; no condition. This text: part 1 of what its proof reaches. -/
import Derived.Test.YtoddejmlcnbdmaaQWLast
import Derived.Test.YtoddejmlcnbdmaaQWMore
import Derived.Lib.SliceRun
import Derived.Deep.QuietTactic
import Derived.BigQuiet
import Derived.KernelRfl
import Derived.RowKit
import Derived.Test.YtoddejmlcnbdmaaQWKept
import Derived.Test.YtoddejmlcnbdmaaProg
import Derived.Below
import Derived.Deep.Draws
import Derived.Deep.AppendLies
import Derived.Maps.AppendAt
import Derived.OwnWalk
import Derived.Laws.BytesArg
import Derived.Laws.MakeOwn
import Derived.Laws.OwnMore
import Derived.Deep.OwnRows
import Derived.Tactics
import Derived.Lib.ConvBytes
import Derived.Laws.Slices
import Derived.WalkKit
import Derived.RowKit3
import Derived.Deep.LoopGhost
import Derived.WideLaws
import Derived.Deep.DeepCutAuto
import Derived.Deep.CutBlock
import Derived.Deep.RegionHeld3
import Derived.Laws.Rows
import Derived.Lib.AppendStr
import Derived.ArgAppend
import Derived.Laws.IdiomCopy
import Derived.OrdersHeld
import Derived.Laws.BitsLemmas
import Derived.Laws.Cover1
import Derived.Laws.Strings
import Derived.Test.YtoddejmlcnbdmaaQWWords
import Derived.Test.YtoddejmlcnbdmaaQWTab
import Derived.Test.YtoddejmlcnbdmaaQWFour
import Derived.Test.YtoddejmlcnbdmaaQWQPut
import Derived.Test.YtoddejmlcnbdmaaQWApart
import Derived.Test.YtoddejmlcnbdmaaQWArr
import Derived.Test.YtoddejmlcnbdmaaQWZeros
import Derived.Test.YtoddejmlcnbdmaaQWFoot
import Derived.Test.YtoddejmlcnbdmaaQWShare
import Derived.Test.YtoddejmlcnbdmaaQWN
import Derived.Test.YtoddejmlcnbdmaaQWFootNe
import Derived.Test.YtoddejmlcnbdmaaQWAt
import Derived.Test.YtoddejmlcnbdmaaQWEqStruct
import Derived.Test.YtoddejmlcnbdmaaQWRepsOne
import Derived.Test.YtoddejmlcnbdmaaQWInv
import Derived.Test.YtoddejmlcnbdmaaQWInvWords
import Derived.Test.YtoddejmlcnbdmaaQWGuard
import Derived.Test.YtoddejmlcnbdmaaQWNEv
set_option maxHeartbeats 8000000
set_option maxRecDepth 100000
set_option linter.unusedVariables false
set_option linter.unusedSimpArgs false
open Go.RowKit Go.Proofs.YtoddejmlcnbdmaaW.PrintWords Go.Proofs.YtoddejmlcnbdmaaW.PrintLast Go.Proofs.YtoddejmlcnbdmaaW.PrintMore
namespace Go.Proofs.Ytoddejmlcnbdmaa.Gen
theorem Yh {o : Option Bool} {r : Bool} (h : o = some r) (hf : o = none \/ o = some false) (ht : r = true) : False := by
  subst ht
  rcases hf with hf | hf <;> rw [hf] at h <;> simp at h
/-! Short words for what a long walk says again and again. -/
theorem pk_ {p q : Prop} (h0 : p) (h : p -> q := by intro CL; (with_reducible repeat (first | refine di ?_ _ | refine dK ?_ | refine yH ?_ _)); exact CL) : q := h h0
theorem tY {p q : Prop} (h0 : p) (h : p -> q := by intro CL; (with_reducible repeat (first | apply Kd.pE | apply Kd.pF | apply Kd.sI)); exact CL) : q := h h0
theorem sk_ {p q : Prop} (h0 : p) (h : p -> q := by intro CL; (with_reducible repeat (first | apply Kd.Rq | apply Kd.Rs | apply Kd.TG)); exact CL) : q := h h0
theorem Be {p q : Prop} (h0 : p) (h : p -> q := by intro CL; repeat (first | (with_reducible first | exact CL | apply bz | apply aj | apply bD | (refine bF ?_ (af.out ?_); rotate_left; assumption)) | exact CL)) : q := h h0
theorem sx_ {α : Type} : (∀ (l : List α) (i : Nat) (a : α), l.toArray.setIfInBounds i a = (l.set i a).toArray) /\ (∀ (x a : α) (l : List α), (x :: l).set 0 a = a :: l) /\ (∀ (x a : α) (l : List α) (i : Nat), (x :: l).set (i + 1) a = x :: l.set i a) :=
  ⟨fun _ _ _ => by simp, fun _ _ _ => rfl, fun _ _ _ _ => rfl⟩
theorem wx_ : (∀ n : Int, IntKind.i64.wrap n = Go.RowKit.wrap64 n) /\ (∀ n : Int, IntKind.i32.wrap n = Go.RowKit.wrap32 n) := ⟨uA, Hm⟩
theorem jh {p : Prop} (h : p := by first | (with_reducible assumption) | assumption) : p := h
theorem TH {p q : Prop} (h0 : p) (h : p -> q := by intro CL; repeat (first | exact CL | (with_reducible refine Kd.jk ?_ _) | (with_reducible refine Kd.dB ?_ _) | (with_reducible refine Kd.gD ?_))) : q := h h0
theorem kb_ {p q : Prop} (h0 : p) (h : p -> q := by intro CL; repeat (first | (with_reducible first | exact CL | apply bg.wI | apply fU | apply gT | apply fV | (refine OB ?_ (af.out ?_) _; rotate_left; assumption)) | exact CL)) : q := h h0
theorem Dv {p : Prop} (h : p := by (try simp only [List.map_toArray, List.map_cons, List.map_nil]); first | done | rfl | (simp only [List.length_drop, List.length_take]; rfl)) : p := h
theorem Wm {w w1 W W2 : World} (h0 : Below w.heap.size w w1) (hb : Below W.heap.size W W2) (h : Below w.heap.size w w1 -> Below w.heap.size w W := by intro CL; repeat (first | (with_reducible first | exact CL | apply bz | apply aj | apply bD | (refine bF ?_ (af.out ?_); rotate_left; assumption)) | exact CL)) : Below w.heap.size w W2 := ay (h h0) hb
theorem Dw {w w1 W : World} (h0 : Below w.heap.size w w1) (h : Below w.heap.size w w1 -> Below w.heap.size w W := by intro CL; repeat (first | (with_reducible first | exact CL | apply bz | apply aj | apply bD | (refine bF ?_ (af.out ?_); rotate_left; assumption)) | exact CL)) : w.heap.size <= W.heap.size := JQ (h h0)
theorem bz_ {w0 W W' : World} {g : Nat} {o : Obj} (h0 : af (w0.heap[g]? = some o)) (hb : Below W.heap.size W W') (h : w0.heap[g]? = some o -> W.heap[g]? = some o := by intro CL; (with_reducible repeat (first | refine di ?_ _ | refine dK ?_ | refine yH ?_ _)); exact CL) : W'.heap[g]? = some o := bG (h h0.out) hb
theorem nz_ {w0 W : World} {g g' : Nat} {o : Obj} (h0 : af (w0.heap[g]? = some o)) (hg : g' = W.heap.size) (h : w0.heap[g]? = some o -> W.heap[g]? = some o := by intro CL; (with_reducible repeat (first | refine di ?_ _ | refine dK ?_ | refine yH ?_ _)); exact CL) : g ≠ g' := by
  rw [hg]; exact Nat.ne_of_lt (gU (h h0.out))
theorem Lr {P : Program} (w : World) (t e : TypeId) (a : Option Addr) (n c : Nat) (h : P.underlying t = some (.slice e)) :
    (binOp .eql t (.slice a n c) (.slice none 0 0)).run P w = .ok (.bool a.isNone) w := Go.Lib.run_eql_slice_nil w t e a n c 0 0 h
theorem pG (l : List UInt8) : (!l.isEmpty) = (l != []) := by cases l <;> rfl
theorem sJ (a b : List UInt8) : ((!Op.bytesLess a b) && (!(a == b))) = Op.bytesLess b a := by
  induction a generalizing b with
  | nil => cases b <;> rfl
  | cons x s ih =>
    cases b with
    | nil => rfl
    | cons y t =>
      have ih := ih t
      have e : ((x :: s) == (y :: t)) = ((x == y) && (s == t)) := rfl
      simp only [Op.bytesLess, e]
      rcases Nat.lt_trichotomy x.toNat y.toNat with h | h | h
      · have h1 : x < y := UInt8.lt_iff_toNat_lt.2 h
        have h2 : ¬ y < x := fun z => by have := UInt8.lt_iff_toNat_lt.1 z; omega
        have h3 : (y == x) = false := by
          rw [beq_eq_false_iff_ne]
          intro z
          rw [z] at h
          omega
        simp only [h1, h2, h3, decide_true, decide_false, Bool.true_or, Bool.not_true, Bool.false_and, Bool.false_or]
      · have h0 : x = y := UInt8.toNat_inj.1 h
        subst h0
        have h2 : ¬ x < x := fun z => by have := UInt8.lt_iff_toNat_lt.1 z; omega
        simp only [h2, decide_false, beq_self_eq_true, Bool.true_and, Bool.false_or]
        exact ih
      · have h1 : y < x := UInt8.lt_iff_toNat_lt.2 h
        have h2 : ¬ x < y := fun z => by have := UInt8.lt_iff_toNat_lt.1 z; omega
        have h3 : (x == y) = false := by
          rw [beq_eq_false_iff_ne]
          intro z
          rw [z] at h
          omega
        simp only [h1, h2, h3, decide_true, decide_false, Bool.true_or, Bool.not_false, Bool.false_and, Bool.false_or, Bool.true_and]
section
variable {P : Program} {ops : Array Oper} {Q : Exit -> Act -> World -> Prop}
/-- The operation is a call through a slot. -/
theorem Ta {rest : List Oper} {o : Oper} {a : Act} {W : World} {t : Tmp} {xa : Array Operand} {ts : Array TypeId} (_ho : o.op = .call { callee := .value (.tmp t), args := xa, argTypes := ts }) (h : wpList P ops Q (o :: rest) a W) : wpList P ops Q (o :: rest) a W := h
theorem OC {rest : List Oper} {oi : Oper} {a : Act} {w : World} (N : Option Tmp) (hd : oi.dst = N) (hg : oi.guard = none) {f : FuncId} {fn : Func} {t : Tmp} {xa : Array Operand} {ts : Array TypeId} (hf : P.funcs[f]? = some fn) (hname : (fn.name == "runtime.NumGoroutine") = false) (hb : fn.body.isSome = true) (args : Array Value)
    (hop : oi.op = .call { callee := .value (.tmp t), args := xa, argTypes := ts }) (hargs : xa.map a.eval = args) 
    (h : Calls P f args w fun e w' => ∃ v, e = .returned v /\ wpList P ops Q rest (a.put N v) w') (hv : a.eval (.tmp t) = .func (.func f) #[] #[] := by rfl) : wpList P ops Q (oi :: rest) a w := by
  refine wpList_plain hg fun K hK => ?_
  have he := FD hf hname hb args w
  have hrun : (execOp a.eval oi).run P w = .ok (.enter f args) w := by
    unfold execOp
    simp [hop, resolve, Deferred.ofValue, invoke, hv, hargs, he]
  unfold Oper.wp
  rw [hrun, Oper.upon_enter]
  refine h.mono fun e w'' hh => ?_
  obtain ⟨v, rfl, hk⟩ := hh
  subst hd
  exact hK _ _ hk
end
end Go.Proofs.Ytoddejmlcnbdmaa.Gen
open Go.Proofs.Ytoddejmlcnbdmaa.Gen
namespace Go.Proofs.Ytoddejmlcnbdmaa.Gen
theorem A_ {p : Prop} (h : p) : af p := ⟨h⟩
theorem bV (p : Prop) (h : p := by omega) : p = True := eq_true h
theorem kS (p : Prop) [Decidable p] (h : ¬ p := by omega) : decide p = false := decide_eq_false h
theorem lQ (p : Prop) [Decidable p] (h : p := by omega) : decide p = true := decide_eq_true h
theorem lL {α : Type} (x : α) : ∃ r, af (r = x) := ⟨x, ⟨rfl⟩⟩
theorem cO {b n k : Nat} {w W : World} (h : af (b <= w.heap.size)) (g : af (Below n w W)) (e : W.heap.size = k := by with_unfolding_all rfl) : b <= k := e ▸ Nat.le_trans h.out (Below.size g.out)
section
variable {P : Program} {ops : Array Oper} {Q : Exit -> Act -> World -> Prop} {rest : List Oper} {o : Oper} {a : Act} {W : World}
theorem jl (N : Tmp) (cs : Array Value) (t : TypeId)
    (h : ∀ g, g = W.heap.size -> ∀ w1, w1.heap[g]? = some (.cells cs t (0, 0)) -> Below W.heap.size W w1 -> wpList P ops Q rest (a.put o.dst (.pointer (some ⟨g, 0, none⟩))) w1)
    (hN : o.dst = some N := by rfl) (hgd : o.guard = none := by rfl)
    (hrun : (execOp a.eval o).run P W = .ok (.value (.pointer (some ⟨W.heap.size, 0, none⟩))) (W.alloc (.cells cs t (0, 0))) := by first | (go_simp; done) | (go_simp; rfl)) : wpList P ops Q (o :: rest) a W := MQ hgd hN hrun h
end
def btl (x : Nat) : Nat -> List Bool
  | 0 => []
  | n + 1 => (x % 2 == 1) :: btl (x / 2) n
/-- The first n bits of x. -/
def bt (n x : Nat) : Array Bool := ⟨btl x n⟩
section
variable {P : Program} {ops : Array Oper} {Q : Exit -> Act -> World -> Prop} {md : Region.Mode} {S : World -> Prop} {ds : List Nat} {fuel m y : Nat} {a : Act} {w : World}
theorem aH (i n x : Nat) {oi : Oper} {v : Value} {a' : Act} (h : aQ P md ops Q S ds fuel (bt m x) a' w)
    (hi : ops[i]? = some oi := by rfl) (hN : oi.dst = some n := by rfl) (hc : OD md ops (bt m y) (bt m x) i = true := by kernel_rfl)
    (hQ : ∀ c a w, Q (.panic c) (a.put oi.dst v) w -> Q (.panic c) a w := by exact fun _ _ _ h => h)
    (hy : Yields P ops oi v a := by refine Or.inl ⟨by rfl, ?_⟩; intro w'; go_simp; with_reducible rfl)
    (ha : a.put (some n) v = a' := by simp only [Act.put, List.setIfInBounds_toArray, List.set_cons_zero, List.set_cons_succ, uA, Hm]; rfl) : aQ P md ops Q S ds (fuel + 1) (bt m y) a w :=
  WK (bt m x) hi hN hc hQ hy ha h
theorem fq (i n x : Nat) (hS : S w) {oi : Oper} {v : Value} {a' : Act} (h : aQ P md ops Q S ds fuel (bt m x) a' w)
    (hi : ops[i]? = some oi := by rfl) (hN : oi.dst = some n := by rfl) (hc : takeB md ops ds (bt m y) (bt m x) i = true := by kernel_rfl)
    (hQ : ∀ c a w, Q (.panic c) (a.put oi.dst v) w -> Q (.panic c) a w := by exact fun _ _ _ h => h)
    (hy : YieldsIf P ops S oi v a := by refine Or.inl ⟨by rfl, ?_⟩; intro w' s_; (repeat (have s0_ := s_.1; replace s_ := s_.2)); go_simp; with_reducible rfl)
    (ha : a.put (some n) v = a' := by simp only [Act.put, List.setIfInBounds_toArray, List.set_cons_zero, List.set_cons_succ, uA, Hm]; rfl) : aQ P md ops Q S ds (fuel + 1) (bt m y) a w :=
  Ls (bt m x) hi hN hc hQ hy hS ha h
theorem gG (i : Nat) (N : Option Tmp) (x : Nat) {oi : Oper}
    (h : ∀ K : Act -> World -> Prop, Shut (∀ a' w', S w' -> (S w' -> aQ P md ops Q S ds fuel (bt m x) a' w') -> K a' w') -> if Region.wanted oi (yielded ops a.tmps) = true then Oper.wp P oi a w K Q else K (a.put N undef) w)
    (hi : ops[i]? = some oi := by rfl) (hN : oi.dst = N := by rfl) (hc : (Region.ready md ops (bt m y) == [i] && (bt m y).setIfInBounds i true == bt m x) = true := by kernel_rfl) (hd : i ∉ ds := by decide) :
    aQ P md ops Q S ds (fuel + 1) (bt m y) a w := JR (bt m x) hi hN hc hd h
theorem qz (i : Nat) (N : Option Tmp) (x : Nat) {oi : Oper}
    (h : ∀ K : Act -> World -> Prop, Shut (∀ a' w', aQ P md ops Q S ds fuel (bt m x) a' w' -> K a' w') -> if Region.wanted oi (yielded ops a.tmps) = true then Oper.wp P oi a w K Q else K (a.put N undef) w)
    (hi : ops[i]? = some oi := by rfl) (hN : oi.dst = N := by rfl) (hc : (Region.ready md ops (bt m y) == [i] && (bt m y).setIfInBounds i true == bt m x) = true := by kernel_rfl) (hd : i ∈ ds := by decide) :
    aQ P md ops Q S ds (fuel + 1) (bt m y) a w := WL (bt m x) hi hN hc hd h
theorem YK (n : Nat) {a0 a' : Act} {v : Value} {l : Array Bool} (h : aQ P md ops Q S ds fuel l a' w) (ha : Act.put a0 (some n) v = a' := by simp only [Act.put, List.setIfInBounds_toArray, List.set_cons_zero, List.set_cons_succ, uA, Hm]; rfl) : aQ P md ops Q S ds fuel l (Act.put a0 (some n) v) w := Ho ha h
theorem yA {a0 a' : Act} {l : Array Bool} (h : aQ P md ops Q S ds fuel l a' w) (e : a0 = a' := by simp only [wJ, Act.put, List.setIfInBounds_toArray, List.set_cons_zero, List.set_cons_succ]) : aQ P md ops Q S ds fuel l a0 w := Ho e h
theorem qC {a0 a' : Act} {l : Array Bool} (h : aQ P md ops Q S ds fuel l a' w) (e : a0 = a' := by first | (simp only [wJ, Act.put, List.setIfInBounds_toArray, List.set_cons_zero, List.set_cons_succ]; done) | (simp only [wJ, Act.put, List.setIfInBounds_toArray, List.set_cons_zero, List.set_cons_succ]; rfl)) : aQ P md ops Q S ds fuel l a0 w := Ho e h
theorem uq {a0 a' : Act} {l : Array Bool} (h : aQ P md ops Q S ds fuel l a' w) (e : a0 = a' := by simp only [wJ, Act.put, List.setIfInBounds_toArray, List.set_cons_zero, List.set_cons_succ]; rfl) : aQ P md ops Q S ds fuel l a0 w := Ho e h
theorem dh (n : Nat) {K : Act -> World -> Prop} {a0 a' : Act} {v : Value} {l : Array Bool} (hK : Shut (∀ a' w', S w' -> (S w' -> aQ P md ops Q S ds fuel l a' w') -> K a' w')) (hS : S w) (h : S w -> aQ P md ops Q S ds fuel l a' w) (ha : Act.put a0 (some n) v = a' := by simp only [Act.put, List.setIfInBounds_toArray, List.set_cons_zero, List.set_cons_succ, uA, Hm]; rfl) : K (Act.put a0 (some n) v) w := hK.out _ _ hS fun s => Ho ha (h s)
theorem ve (i j : Nat) (Ni Nj : Option Tmp) (x z : Nat) {oi oj : Oper}
    (h1 : ∀ K : Act -> World -> Prop, Shut (∀ a' w', S w' -> (S w' -> aQ P md ops Q S ds fuel (bt m x) a' w') -> K a' w') -> if Region.wanted oi (yielded ops a.tmps) = true then Oper.wp P oi a w K Q else K (a.put Ni undef) w)
    (h2 : ∀ K : Act -> World -> Prop, Shut (∀ a' w', S w' -> (S w' -> aQ P md ops Q S ds fuel (bt m z) a' w') -> K a' w') -> if Region.wanted oj (yielded ops a.tmps) = true then Oper.wp P oj a w K Q else K (a.put Nj undef) w)
    (hi : ops[i]? = some oi := by rfl) (hj : ops[j]? = some oj := by rfl) (Xn : oi.dst = Ni := by rfl) (Xo : oj.dst = Nj := by rfl)
    (hc : (Region.ready md ops (bt m y) == [i, j] && (bt m y).setIfInBounds i true == bt m x && (bt m y).setIfInBounds j true == bt m z) = true := by kernel_rfl) (hdi : i ∉ ds := by decide) (hdj : j ∉ ds := by decide) :
    aQ P md ops Q S ds (fuel + 1) (bt m y) a w := YL _ _ hi hj Xn Xo hc hdi hdj h1 h2
theorem lI {oi : Oper} {N : Option Tmp} {K : Act -> World -> Prop} {f : FuncId} {fn : Func} {ar : Array Operand} {ts : Array TypeId} (hf : P.funcs[f]? = some fn) (args : Array Value)
    (h : Calls P f args w fun e w' => ∃ v, e = .returned v /\ K (a.put N v) w')
    (hname : (fn.name == "runtime.NumGoroutine") = false := by kernel_rfl) (hb : fn.body.isSome = true := by rfl)
    (hw : Region.wanted oi (yielded ops a.tmps) = true := by rfl) (hN : oi.dst = N := by rfl) (hop : oi.op = .call { callee := .value (.func f), args := ar, argTypes := ts } := by rfl)
    (hargs : ar.map a.eval = args := by simp only [List.map_toArray, List.map_cons, List.map_nil]; rfl) : if Region.wanted oi (yielded ops a.tmps) = true then Oper.wp P oi a w K Q else K (a.put N undef) w :=
  WM hf hname hb args hw hN hop hargs h
end
section
variable {P : Program} {ops : Array Oper} {rest : List Oper} {o : Oper} {a : Act} {Q : Exit -> Act -> World -> Prop} {Kc : Act -> World -> Prop}
theorem xy {α : Type} {w0 W : World} {base : Nat} (d : Kd α) (e N : Nat) (xs : List α) (inner : List Value) (hrep : gm (d.M W base fun _ => False) d.sz xs inner) (HB : Below base w0 W) (hbase : base <= W.heap.size)
    (h : ∀ v1 w1, d.R e w1 base (fun _ => True) v1 xs -> Below base w0 w1 -> W.grownBy w1 none -> (∃ b, v1.ownBlock = some b /\ W.heap.size <= b) -> Kc (a.put o.dst v1) w1) (hw : Region.wanted o (yielded ops a.tmps) = true := by rfl) (hd : o.dst = some N := by rfl) (hrun : (execOp a.eval o).run P W = .ok (.value (.slice (some ⟨W.heap.size, 0, none⟩) xs.length xs.length)) (W.alloc (.cells inner.toArray e)) := by first | (go_simp; done) | (go_simp; rfl)) (hm : xs.length <= 9223372036854775807 := by simp) : if Region.wanted o (yielded ops a.tmps) = true then Oper.wp P o a W Kc Q else Kc (a.put o.dst undef) W := Kd.dO d base e hw hd hrun hrep (fun _ h => h.elim) trivial HB hbase hm h
theorem Rt {α : Type} {w0 W : World} {base : Nat} (d : Kd α) (e N : Nat) (xs : List α) (inner : List Value) (hrep : gm (d.M W base fun _ => False) d.sz xs inner) (HB : Below base w0 W) (hbase : base <= W.heap.size)
    (h : ∀ v1 w1, d.R e w1 base (fun _ => True) v1 xs -> Below base w0 w1 -> W.grownBy w1 none -> (∃ b, v1.ownBlock = some b /\ W.heap.size <= b) -> wpList P ops Q rest (a.put o.dst v1) w1) (hd : o.dst = some N := by rfl) (hgd : o.guard = none := by rfl) (hrun : (execOp a.eval o).run P W = .ok (.value (.slice (some ⟨W.heap.size, 0, none⟩) xs.length xs.length)) (W.alloc (.cells inner.toArray e)) := by first | (go_simp; done) | (go_simp; rfl)) (hm : xs.length <= 9223372036854775807 := by simp) : wpList P ops Q (o :: rest) a W := Kd.Bf d base e hgd hd hrun hrep (fun _ h => h.elim) trivial HB hbase hm h
theorem wK (N : Nat) (cs : Array Value) (t : TypeId) {W : World} (h : ∀ g, g = W.heap.size -> ∀ w1, w1.heap[g]? = some (.cells cs t (0, 0)) -> Below W.heap.size W w1 -> Kc (a.put o.dst (.pointer (some ⟨g, 0, none⟩))) w1) (hw : Region.wanted o (yielded ops a.tmps) = true := by rfl) (hd : o.dst = some N := by rfl)
    (hrun : (execOp a.eval o).run P W = .ok (.value (.pointer (some ⟨W.heap.size, 0, none⟩))) (W.alloc (.cells cs t (0, 0))) := by first | (go_simp; done) | (go_simp; rfl)) : if Region.wanted o (yielded ops a.tmps) = true then Oper.wp P o a W Kc Q else Kc (a.put o.dst undef) W := OE hw hd hrun h
end
end Go.Proofs.Ytoddejmlcnbdmaa.Gen
open Go.Proofs.Ytoddejmlcnbdmaa.Gen
namespace Go.Proofs.Ytoddejmlcnbdmaa.Tree
inductive PT where
 | mk (keys vals : List ByteArray) (kids : List PT)
def PT.keys : PT -> List ByteArray | .mk k _ _ => k
def PT.vals : PT -> List ByteArray | .mk _ v _ => v
def PT.kids : PT -> List PT | .mk _ _ c => c
theorem PT.eta (t : PT) : PT.mk t.keys t.vals t.kids = t := by cases t; rfl
theorem PT.iT {t s : PT} {i : Nat} (h : t.kids[i]? = some s) : SizeOf.sizeOf s < SizeOf.sizeOf t := by
 cases t with
 | mk keys vals kids =>
  have h1 : s ∈ kids := List.mem_of_getElem? h
  have h2 := List.sizeOf_lt_of_mem h1
  have h3 : SizeOf.sizeOf (PT.mk keys vals kids) = 1 + SizeOf.sizeOf keys + SizeOf.sizeOf vals + SizeOf.sizeOf kids := by simp
  omega
mutual
def iJ : PT -> Int
 | .mk _ _ [] => 1
 | .mk _ _ (c :: cs) => if pq (iJ c) (c :: cs) then Go.RowKit.wrap64 (iJ c + 1) else -1
def pq (d : Int) : List PT -> Bool
 | [] => true
 | c :: cs => !(decide (d < 0) || iJ c != d || decide (c.keys.length < 2)) && pq d cs
end
theorem fO {α : Type} {l : List α} {i : Nat} {s : α} (h : l[i]? = some s) : l.drop i = s :: l.drop (i + 1) := by
 obtain ⟨h1, h2⟩ := List.getElem?_eq_some_iff.1 h
 rw [<- h2]
 exact List.drop_eq_getElem_cons h1
mutual
def JS : PT -> Prop
 | .mk _ _ kids => kids.length <= 1048576 /\ Hq kids
def Hq : List PT -> Prop
 | [] => True
 | c :: cs => JS c /\ Hq cs
end
theorem Hr : ∀ {l : List PT}, Hq l -> ∀ {i : Nat} {s : PT}, l[i]? = some s -> JS s
 | [], _, i, s, h => by simp at h
 | c :: cs, hf, 0, s, h => by
  simp only [Hq] at hf
  obtain rfl := Option.some.inj h
  exact hf.1
 | c :: cs, hf, i + 1, s, h => by
  simp only [Hq] at hf
  exact Hr hf.2 (by simpa using h)
theorem JS.kid {t s : PT} {i : Nat} (h : JS t) (hs : t.kids[i]? = some s) : JS s := by
 cases t with | mk keys vals kids =>
  simp only [JS] at h
  exact Hr h.2 hs
theorem JS.len {t : PT} (h : JS t) : t.kids.length <= 1048576 := by
 cases t with | mk keys vals kids =>
  simp only [JS] at h
  exact h.1
theorem Bg {t : PT} (h : t.kids.length = 0) : iJ t = 1 := by
 cases t with | mk keys vals kids =>
  cases kids with
  | nil => simp [iJ]
  | cons c cs => simp [PT.kids] at h
theorem Bh {t c : PT} (h : t.kids[0]? = some c) : iJ t = if pq (iJ c) (t.kids.drop 0) then Go.RowKit.wrap64 (iJ c + 1) else -1 := by
 cases t with | mk keys vals kids =>
  cases kids with
  | nil => simp [PT.kids] at h
  | cons c' cs =>
   obtain rfl : c' = c := by simpa [PT.kids] using h
   simp [iJ, PT.kids]
theorem Bi {d : Int} {l : List PT} {i : Nat} {s : PT} (h : l[i]? = some s) (x : Int) (hx : x = if pq d (l.drop i) then Go.RowKit.wrap64 (d + 1) else -1) :
  x = if (!(decide (d < 0) || iJ s != d || decide (s.keys.length < 2)) && pq d (l.drop (i + 1))) then Go.RowKit.wrap64 (d + 1) else -1 := by
 rw [fO h, pq] at hx
 exact hx
theorem OG {d x : Int} {l : List PT} {i : Nat} {s : PT} (h : l[i]? = some s) (hx : x = if pq d (l.drop i) then Go.RowKit.wrap64 (d + 1) else -1) (h1 : ¬ d < 0) (h2 : iJ s = d) (h3 : ¬ s.keys.length < 2) :
  x = if pq d (l.drop (i + 1)) then Go.RowKit.wrap64 (d + 1) else -1 := by
 have := Bi h x hx
 rw [this]
 simp [h1, h2, h3]
theorem yI {d x : Int} {l : List PT} {i : Nat} {s : PT} (h : l[i]? = some s) (hx : x = if pq d (l.drop i) then Go.RowKit.wrap64 (d + 1) else -1) (h1 : d < 0 \/ iJ s ≠ d \/ s.keys.length < 2) :
  x = -1 := by
 have := Bi h x hx
 rw [this]
 rcases h1 with h1 | h1 | h1 <;> simp [h1]
theorem MR {d x : Int} {l : List PT} {i : Nat} (h : l.length <= i) (hx : x = if pq d (l.drop i) then Go.RowKit.wrap64 (d + 1) else -1) : x = Go.RowKit.wrap64 (d + 1) := by
 rw [List.drop_eq_nil_of_le h] at hx
 simpa [pq] using hx
mutual
def jy : PT -> Int × Bool
 | .mk _ _ [] => (1, true)
 | .mk keys _ (c :: cs) => match jd 0 0 (c :: cs) with
  | some f => (Go.RowKit.wrap64 (f + 1), decide (0 < keys.length))
  | none => (0, false)
def jd (i : Nat) (first : Int) : List PT -> Option Int
 | [] => some first
 | c :: cs => if (!(jy c).2 || decide (c.keys.length < 2) || (decide (0 < i) && (jy c).1 != first)) then none else jd (i + 1) (jy c).1 cs
end
def wL (n : Nat) : Option Int -> Int × Bool
 | some f => (Go.RowKit.wrap64 (f + 1), decide (0 < n))
 | none => (0, false)
theorem zq {t : PT} (h : t.kids.length = 0) : jy t = (1, true) := by
 cases t with | mk keys vals kids =>
  cases kids with
  | nil => simp [jy]
  | cons c cs => simp [PT.kids] at h
theorem zt {t : PT} (h : t.kids.length ≠ 0) : jy t = wL t.keys.length (jd 0 0 (t.kids.drop 0)) := by
 cases t with | mk keys vals kids =>
  cases kids with
  | nil => simp [PT.kids] at h
  | cons c cs =>
   simp only [PT.kids, PT.keys, List.drop_zero]
   rw [jy]
   cases jd 0 0 (c :: cs) <;> rfl
theorem MS {first : Int} {l : List PT} {i : Nat} {s : PT} {n : Nat} {x : Int × Bool} (h : l[i]? = some s) (hx : x = wL n (jd i first (l.drop i))) (h1 : (jy s).2 = true) (h2 : ¬ s.keys.length < 2) (h3 : i = 0 \/ (jy s).1 = first) :
  x = wL n (jd (i + 1) (jy s).1 (l.drop (i + 1))) := by
 rw [fO h, jd] at hx
 rw [hx]
 congr 1
 rw [if_neg]
 rcases h3 with h3 | h3 <;> simp [h1, h2, h3]
theorem wM {first : Int} {l : List PT} {i : Nat} {s : PT} {n : Nat} {x : Int × Bool} (h : l[i]? = some s) (hx : x = wL n (jd i first (l.drop i))) (h1 : (jy s).2 = false \/ s.keys.length < 2 \/ (0 < i /\ (jy s).1 ≠ first)) : x = (0, false) := by
 rw [fO h, jd] at hx
 rw [hx]
 rw [if_pos]
 ·rfl
 ·rcases h1 with h1 | h1 | h1 <;> simp [h1]
theorem JU {first : Int} {l : List PT} {i : Nat} {n : Nat} {x : Int × Bool} (h : l.length <= i) (hx : x = wL n (jd i first (l.drop i))) : x = (Go.RowKit.wrap64 (first + 1), decide (0 < n)) := by
 rw [List.drop_eq_nil_of_le h, jd] at hx
 exact hx
def bN {α : Type} : List (List α) -> List α -> List α
 | [], ks => ks
 | c :: _, [] => c
 | c :: cs, k :: ks => c ++ k :: bN cs ks
mutual
def bB : PT -> List ByteArray
 | .mk keys _ kids => bN (Lt kids) keys
def Lt : List PT -> List (List ByteArray)
 | [] => []
 | c :: cs => bB c :: Lt cs
end
mutual
def eD : PT -> List ByteArray
 | .mk _ vals kids => bN (Lu kids) vals
def Lu : List PT -> List (List ByteArray)
 | [] => []
 | c :: cs => eD c :: Lu cs
end
theorem D6 : ∀ l : List PT, Lt l = l.map bB
 | [] => rfl
 | c :: cs => by rw [Lt, D6 cs]; rfl
theorem D7 : ∀ l : List PT, Lu l = l.map eD
 | [] => rfl
 | c :: cs => by rw [Lu, D7 cs]; rfl
theorem pI (t : PT) : bB t = bN (t.kids.map bB) t.keys := by
 cases t with | mk keys vals kids => rw [bB, D6]; rfl
theorem Am (t : PT) : eD t = bN (t.kids.map eD) t.vals := by
 cases t with | mk keys vals kids => rw [eD, D7]; rfl
def mH (t : PT) (i : Nat) : List ByteArray := bN ((t.kids.drop i).map bB) (t.keys.drop i)
def nL (t : PT) (i : Nat) : List ByteArray := bN ((t.kids.drop i).map eD) (t.vals.drop i)
theorem Bj (t : PT) : mH t 0 = bB t := by rw [pI, mH, List.drop_zero, List.drop_zero]
theorem Bl (t : PT) : nL t 0 = eD t := by rw [Am, nL, List.drop_zero, List.drop_zero]
def wN (t : PT) : Prop := t.keys.length = t.vals.length /\ t.keys.length <= 1000 /\ (t.kids.length = 0 \/ t.kids.length = t.keys.length + 1)
mutual
def om : PT -> Prop
 | .mk keys vals kids => wN (.mk keys vals kids) /\ JV kids
def JV : List PT -> Prop
 | [] => True
 | c :: cs => om c /\ JV cs
end
theorem Ht : ∀ {l : List PT}, JV l -> ∀ {i : Nat} {s : PT}, l[i]? = some s -> om s
 | [], _, i, s, h => by simp at h
 | c :: cs, hf, 0, s, h => by
  simp only [JV] at hf
  obtain rfl := Option.some.inj h
  exact hf.1
 | c :: cs, hf, i + 1, s, h => by
  simp only [JV] at hf
  exact Ht hf.2 (by simpa using h)
theorem om.one {t : PT} (h : om t) : wN t := by
 cases t with | mk keys vals kids => simp only [om] at h; exact h.1
theorem om.kid {t s : PT} {i : Nat} (h : om t) (hs : t.kids[i]? = some s) : om s := by
 cases t with | mk keys vals kids =>
  simp only [om] at h
  exact Ht h.2 hs
theorem om.mk' {t : PT} (h1 : wN t) (h : ∀ (i : Nat) (s : PT), t.kids[i]? = some s -> om s) : om t := by
 cases t with | mk keys vals kids =>
  simp only [om]
  refine ⟨h1, ?_⟩
  have h' : ∀ (i : Nat) (s : PT), kids[i]? = some s -> om s := h
  clear h h1
  induction kids with
  | nil => simp [JV]
  | cons c cs ih =>
   simp only [JV]
   exact ⟨h' 0 c rfl, ih fun i s hs => h' (i + 1) s (by simpa using hs)⟩
theorem Lv : ∀ {l : List PT}, (∀ (i : Nat) (s : PT), l[i]? = some s -> JS s) -> Hq l
 | [], _ => by simp [Hq]
 | c :: cs, h => by
  simp only [Hq]
  exact ⟨h 0 c rfl, Lv fun i s hs => h (i + 1) s (by simpa using hs)⟩
theorem om.few : ∀ {n : Nat} {t : PT}, SizeOf.sizeOf t <= n -> om t -> JS t
 | 0, t, h, _ => by cases t; simp at h
 | n + 1, t, h, hs => by
  cases t with | mk keys vals kids =>
  simp only [JS]
  have h1 := hs.one
  unfold wN at h1
  simp only [PT.kids, PT.keys, PT.vals] at h1
  refine ⟨by omega, Lv fun i s hi => om.few (n := n) ?_ (hs.kid hi)⟩
  have := PT.iT (t := .mk keys vals kids) hi
  omega
theorem qW {α : Type} (l : List α) {i : Nat} (h : l.length <= i) : l.drop i = [] := List.drop_eq_nil_of_le h
theorem drop_at {α : Type} {l : List α} {i : Nat} (h : i < l.length) (d : α) : l.drop i = l.getD i d :: l.drop (i + 1) := by
 rw [List.drop_eq_getElem_cons h, List.getD_eq_getElem?_getD, List.getElem?_eq_getElem h]
 rfl
theorem Bn {t : PT} {i : Nat} (h : t.kids.length = 0) (hi : i < t.keys.length) : mH t i = t.keys.getD i ByteArray.empty :: mH t (i + 1) := by
 have e : t.kids = [] := List.length_eq_zero_iff.1 h
 unfold mH
 rw [e, List.drop_nil, List.drop_nil, drop_at hi ByteArray.empty]
 rfl
theorem Bo {t : PT} {i : Nat} (h : t.kids.length = 0) (hi : i < t.vals.length) : nL t i = t.vals.getD i ByteArray.empty :: nL t (i + 1) := by
 have e : t.kids = [] := List.length_eq_zero_iff.1 h
 unfold nL
 rw [e, List.drop_nil, List.drop_nil, drop_at hi ByteArray.empty]
 rfl
theorem Bp {t s : PT} {i : Nat} (h : t.kids[i]? = some s) (hi : i < t.keys.length) : mH t i = bB s ++ t.keys.getD i ByteArray.empty :: mH t (i + 1) := by
 unfold mH
 rw [fO h, drop_at hi ByteArray.empty]
 rfl
theorem Bq {t s : PT} {i : Nat} (h : t.kids[i]? = some s) (hi : i < t.vals.length) : nL t i = eD s ++ t.vals.getD i ByteArray.empty :: nL t (i + 1) := by
 unfold nL
 rw [fO h, drop_at hi ByteArray.empty]
 rfl
theorem Br {t s : PT} {i : Nat} (h : t.kids[i]? = some s) (hi : t.keys.length <= i) (hk : t.kids.length = i + 1) : mH t i = bB s ++ mH t (i + 1) := by
 unfold mH
 rw [fO h, qW t.keys hi, qW t.kids (by omega), qW t.keys (by omega)]
 simp [bN]
theorem Bt {t s : PT} {i : Nat} (h : t.kids[i]? = some s) (hi : t.vals.length <= i) (hk : t.kids.length = i + 1) : nL t i = eD s ++ nL t (i + 1) := by
 unfold nL
 rw [fO h, qW t.vals hi, qW t.kids (by omega), qW t.vals (by omega)]
 simp [bN]
theorem rF {t : PT} {i : Nat} (hi : t.keys.length <= i) (hk : t.kids.length <= i) : mH t i = [] := by
 unfold mH
 rw [qW t.keys hi, qW t.kids hk]
 rfl
theorem rG {t : PT} {i : Nat} (hi : t.vals.length <= i) (hk : t.kids.length <= i) : nL t i = [] := by
 unfold nL
 rw [qW t.vals hi, qW t.kids hk]
 rfl
mutual
def PT.big : PT -> Nat
 | .mk _ _ kids => 1 + PT.jA kids
def PT.jA : List PT -> Nat
 | [] => 0
 | c :: cs => c.big + PT.jA cs
end
theorem Hu : ∀ {l : List PT} {i : Nat} {s : PT}, l[i]? = some s -> s.big <= PT.jA l
 | [], i, s, h => by simp at h
 | c :: cs, 0, s, h => by
  obtain rfl := Option.some.inj h
  rw [PT.jA]
  omega
 | c :: cs, i + 1, s, h => by
  have := Hu (l := cs) (i := i) (s := s) (by simpa using h)
  rw [PT.jA]
  omega
theorem PT.gH {t s : PT} {i : Nat} (h : t.kids[i]? = some s) : s.big < t.big := by
 cases t with | mk keys vals kids =>
 have := Hu (l := kids) h
 rw [PT.big]
 omega
theorem PT.fB (t : PT) : 0 < t.big := by
 cases t with | mk keys vals kids => rw [PT.big]; omega
abbrev bu (p : Nat) : Value := .pointer (some ⟨p, 0, none⟩)
def dZ : Kd Nat := Kd.scalar bu (fun _ => rfl)
theorem Ru : dZ.sz = 1 := rfl
inductive Rd (T : Nat) (w : World) : Nat -> PT -> Prop
 | mk {p : Nat} {keys vals : List ByteArray} {kids : List PT} (Ak : Option Addr) (ck : Nat) (Av : Option Addr) (cv : Nat) (Ac : Option Addr) (cc : Nat) (ps : List Nat)
   (hn : w.heap[p]? = some (.cells #[.slice Ak keys.length ck, .slice Av vals.length cv, .slice Ac kids.length cc] T (0, 0)))
   (h1 : keys.length <= ck) (h2 : vals.length <= cv) (h3 : kids.length <= cc)
   (hk : Kd.string.C w Ak keys.length keys) (hv : Kd.string.C w Av vals.length vals) (hc : dZ.C w Ac kids.length ps) (hl : ps.length = kids.length)
   (ht : ∀ (i q : Nat) (s : PT), ps[i]? = some q -> kids[i]? = some s -> Rd T w q s) : Rd T w p (.mk keys vals kids)
section
variable {T : Nat} {w w1 : World} {p : Nat} {t : PT}
theorem Rd.under (h : Rd T w p t) (hb : Below w.heap.size w w1) : Rd T w1 p t := by
 induction h with
 | mk Ak ck Av cv Ac cc ps hn h1 h2 h3 hk hv hc hl ht ih =>
  exact .mk Ak ck Av cv Ac cc ps (bG hn hb) h1 h2 h3 (Kd.aN hk hb) (Kd.aN hv hb) (Kd.aN hc hb) hl ih
theorem Rd.drew (h : Rd T w p t) : Rd T w.drew p t := h.under (aG (Below.refl _ _))
theorem Rd.drewN (h : Rd T w p t) (m : Nat) : Rd T (w.drewN m) p t := h.under (aj (Below.refl _ _) m)
end
structure NC (T : Nat) (w : World) (p : Nat) (t : PT) (Ak : Option Addr) (ck : Nat) (Av : Option Addr) (cv : Nat) (Ac : Option Addr) (cc : Nat) (ps : List Nat) : Prop where
 hn : w.heap[p]? = some (.cells #[.slice Ak t.keys.length ck, .slice Av t.vals.length cv, .slice Ac t.kids.length cc] T (0, 0))
 h1 : t.keys.length <= ck
 h2 : t.vals.length <= cv
 h3 : t.kids.length <= cc
 hk : Kd.string.C w Ak t.keys.length t.keys
 hv : Kd.string.C w Av t.vals.length t.vals
 hc : dZ.C w Ac t.kids.length ps
 hl : ps.length = t.kids.length
 ht : ∀ (i q : Nat) (s : PT), ps[i]? = some q -> t.kids[i]? = some s -> Rd T w q s
section
variable {T : Nat} {w w1 : World} {p : Nat} {t : PT} {Ak Av Ac : Option Addr} {ck cv cc : Nat} {ps : List Nat}
theorem Rd.open (h : Rd T w p t) : ∃ Ak ck Av cv Ac cc ps, NC T w p t Ak ck Av cv Ac cc ps := by
 cases h with | mk Ak ck Av cv Ac cc ps hn h1 h2 h3 hk hv hc hl ht => exact ⟨Ak, ck, Av, cv, Ac, cc, ps, ⟨hn, h1, h2, h3, hk, hv, hc, hl, ht⟩⟩
theorem NC.rd (h : NC T w p t Ak ck Av cv Ac cc ps) : Rd T w p t := by
 rw [<- PT.eta t];exact .mk Ak ck Av cv Ac cc ps h.hn h.h1 h.h2 h.h3 h.hk h.hv h.hc h.hl h.ht
theorem NC.below (h : NC T w p t Ak ck Av cv Ac cc ps) (hb : Below w.heap.size w w1) : NC T w1 p t Ak ck Av cv Ac cc ps :=
 ⟨bG h.hn hb, h.h1, h.h2, h.h3, Kd.aN h.hk hb, Kd.aN h.hv hb, Kd.aN h.hc hb, h.hl, fun i q s hq hs => (h.ht i q s hq hs).under hb⟩
theorem NC.z0 (h : NC T w p t Ak ck Av cv Ac cc ps) : w.cell? ⟨p, 0, none⟩ = some (.slice Ak t.keys.length ck) := (au h.hn 0).trans rfl
theorem NC.z1 (h : NC T w p t Ak ck Av cv Ac cc ps) : w.cell? ⟨p, 1, none⟩ = some (.slice Av t.vals.length cv) := (au h.hn 1).trans rfl
theorem NC.z2 (h : NC T w p t Ak ck Av cv Ac cc ps) : w.cell? ⟨p, 2, none⟩ = some (.slice Ac t.kids.length cc) := (au h.hn 2).trans rfl
theorem wO {A : Option Addr} {n : Nat} {ps : List Nat} (h : dZ.C w A n ps) (i : Int) (h0 : 0 <= i) (h1 : i < n) : ∃ ad, A = some ad /\ w.cell? (ad.add i.toNat) = some (bu (bO 0 ps i)) :=
 iL.at_ (Kd.iU (enc := bu) (d := (0 : Nat)) (h1 := fun _ => rfl) h) i h0 h1
theorem at0 {ad : Addr} {v : Value} (h : w.cell? (ad.add (0 : Int).toNat) = some v) : w.cell? ad = some v := by
 have e_ : ad.add (0 : Int).toNat = ad := by cases ad; simp [Addr.add]
 rw [e_] at h;exact h
theorem NC.kid (h : NC T w p t Ak ck Av cv Ac cc ps) (i : Int) (h0 : 0 <= i) (h1 : i < (t.kids.length : Int)) :
  ∃ (ad : Addr) (q : Nat) (s : PT), Ac = some ad /\ w.cell? (ad.add i.toNat) = some (bu q) /\ t.kids[i.toNat]? = some s /\ Rd T w q s := by
 obtain ⟨ad, hA, hz⟩ := wO h.hc i h0 (by omega);have hl := h.hl;have hi : i.toNat < t.kids.length := by omega
 have hj : i.toNat < ps.length := by omega
 refine ⟨ad, bO 0 ps i, t.kids[i.toNat], hA, hz, List.getElem?_eq_getElem hi, h.ht i.toNat _ _ ?_ (List.getElem?_eq_getElem hi)⟩;rw [List.getElem?_eq_getElem hj];unfold bO;rw [List.getD_eq_getElem?_getD, List.getElem?_eq_getElem hj];rfl
theorem NC.key (h : NC T w p t Ak ck Av cv Ac cc ps) (i : Int) (h0 : 0 <= i) (h1 : i < (t.keys.length : Int)) :
  ∃ (ad : Addr), Ak = some ad /\ w.cell? (ad.add i.toNat) = some (.string (bO ByteArray.empty t.keys i)) := Kd.bH h.hk i h0 h1
theorem NC.val (h : NC T w p t Ak ck Av cv Ac cc ps) (i : Int) (h0 : 0 <= i) (h1 : i < (t.vals.length : Int)) :
  ∃ (ad : Addr), Av = some ad /\ w.cell? (ad.add i.toNat) = some (.string (bO ByteArray.empty t.vals i)) := Kd.bH h.hv i h0 h1
end
end Go.Proofs.Ytoddejmlcnbdmaa.Tree
namespace Go.Proofs.Ytoddejmlcnbdmaa.Fn
def WN : Option Int -> Value
  | none => .nilIface
  | some c => .iface 0 (.int .i64 c)
theorem mI : WN none = .nilIface := rfl
theorem mJ (c : Int) : WN (some c) = .iface 0 (.int .i64 c) := rfl
theorem Lx {p : Prop} (h : p := by first | rfl | (simp [mI, mJ] <;> rfl) | (simp [*, mI, mJ] <;> rfl)) : p := h
theorem info3 : (Try.prog.info? 3).map (fun i => (i.zero, i.size, i.bytes)) = some (some (.int .i64 0), 1, 8) := by kernel_rfl
theorem dC : (Try.prog.info? 9).map (fun i => (i.zero, i.size, i.bytes)) = some (some (.string ⟨#[]⟩), 1, 16) := by kernel_rfl
theorem FE : (Try.prog.info? 110).map (fun i => (i.zero, i.size, i.bytes)) = some (some (.agg #[(.slice none 0 0), (.slice none 0 0), (.slice none 0 0)]), 3, 72) := by kernel_rfl
structure bC where
  f0 : (List ByteArray)
  f1 : (List ByteArray)
  f2 : (List Int)
def mQ : bC := ⟨([] : List ByteArray), ([] : List ByteArray), ([] : List Int)⟩
def j4 : Kd bC := Kd.iso (Kd.pair (Kd.slice 9 Kd.string) (Kd.pair (Kd.slice 9 Kd.string) (Kd.slice 3 (Kd.int .i64)))) (fun x : bC => (x.f0, x.f1, x.f2))
theorem MU {w : World} {x : bC} {cs : List Value} (h : j4.K w x cs) : ∃ A0 c0 A1 c1 A2 c2, cs = [.slice A0 x.f0.length c0, .slice A1 x.f1.length c1, .slice A2 x.f2.length c2] /\ x.f0.length <= c0 /\ Kd.string.C w A0 x.f0.length x.f0 /\ x.f1.length <= c1 /\ Kd.string.C w A1 x.f1.length x.f1 /\ x.f2.length <= c2 /\ (Kd.int .i64).C w A2 x.f2.length x.f2 := by
  obtain ⟨_, _, rfl, ⟨A0, c0, rfl, l0, g0⟩, ⟨_, _, rfl, ⟨A1, c1, rfl, l1, g1⟩, ⟨A2, c2, rfl, l2, g2⟩⟩⟩ := h;exact ⟨A0, c0, A1, c1, A2, c2, rfl, l0, g0, l1, g1, l2, g2⟩
theorem OH (w : World) (base : Nat) (ok : Nat -> Prop) (x : bC) {v0 : Value} (g0 : Kd.string.R 9 w base ok v0 x.f0) {v1 : Value} (g1 : Kd.string.R 9 w base ok v1 x.f1) {v2 : Value} (g2 : (Kd.int .i64).R 3 w base ok v2 x.f2) : j4.M w base ok x [v0, v1, v2] := ⟨[v0], [v1, v2], rfl, ⟨v0, rfl, g0⟩, ⟨[v1], [v2], rfl, ⟨v1, rfl, g1⟩, ⟨v2, rfl, g2⟩⟩⟩
def gB (xs : List bC) (i : Int) : bC := xs.getD i.toNat mQ
theorem FH {w : World} {A : Option Addr} {n : Nat} {xs : List bC} (h : Kd.C j4 w A n xs) (i : Int) (h0 : 0 <= i) (h1 : i < n) : ∃ ad A0 c0 A1 c1 A2 c2, A = some ad /\ w.cell? (ad.add (i.toNat * 3)) = some (.slice A0 (gB xs i).f0.length c0) /\ w.cell? ⟨(ad.add (i.toNat * 3)).block, (ad.add (i.toNat * 3)).off + 1, none⟩ = some (.slice A1 (gB xs i).f1.length c1) /\ w.cell? ⟨(ad.add (i.toNat * 3)).block, (ad.add (i.toNat * 3)).off + 2, none⟩ = some (.slice A2 (gB xs i).f2.length c2) /\ (gB xs i).f0.length <= c0 /\ Kd.string.C w A0 (gB xs i).f0.length (gB xs i).f0 /\ (gB xs i).f1.length <= c1 /\ Kd.string.C w A1 (gB xs i).f1.length (gB xs i).f1 /\ (gB xs i).f2.length <= c2 /\ (Kd.int .i64).C w A2 (gB xs i).f2.length (gB xs i).f2 := by
  obtain ⟨ad, c, e, _, hK, hc0⟩ := Kd.WO h mQ i h0 h1;have hc : ∀ j u, c[j]? = some u -> w.cell? (ad.add (i.toNat * 3 + j)) = some u := hc0;obtain ⟨A0, c0, A1, c1, A2, c2, rfl, l0, g0, l1, g1, l2, g2⟩ := MU hK;exact ⟨ad, A0, c0, A1, c1, A2, c2, e, hc 0 _ rfl, by rw [<- D8 _ _ 1 (by omega)]; exact hc 1 _ rfl, by rw [<- D8 _ _ 2 (by omega)]; exact hc 2 _ rfl, l0, g0, l1, g1, l2, g2⟩
end Go.Proofs.Ytoddejmlcnbdmaa.Fn
namespace Go.Proofs.Ytoddejmlcnbdmaa.Tree
open Go.Proofs.Ytoddejmlcnbdmaa.Fn
def SR (w : World) (base : Nat) (v : Value) (l : List ByteArray) : Prop := Kd.string.R 9 w base (fun _ => True) v l
theorem SR.Dx {w : World} {base : Nat} {v : Value} {l : List ByteArray} (h : Kd.string.R 9 w base (fun _ => True) v l) : SR w base v l := h
section
variable {W w1 : World} {base : Nat} {v v1 u : Value} {l l1 : List ByteArray}
theorem SR.nil (w : World) (base : Nat) : SR w base (.slice none 0 0) [] := Kd.xz _ _ _ _ _
theorem SR.lt (h : SR W base v l) {k : Nat} (hk : v.ownBlock = some k) : k < W.heap.size := by
 have h2 := Kd.sK h;exact (h2.1 k hk).2.2.1
theorem SR.far (h : SR W base v l) (hg : W.grownBy w1 u.ownBlock) (hne : tZ v u) : SR w1 base v l :=
 Kd.kW (Kd.Rv (Kd.LA rfl h) hg (fun k hk he => hne k hk.symm he.symm)) (fun _ _ => trivial)
theorem SR.under (h : SR W base v l) (hb : Below W.heap.size W w1) : SR w1 base v l := Kd.Ap h hb
theorem yJ (h : tZ u v) : tZ v u := fun k h1 h2 => h k h2 h1
theorem SR.ne (h : SR W base u l) (hat : v1.ownBlock = v.ownBlock \/ ∃ b, v1.ownBlock = some b /\ W.heap.size <= b) (hne : tZ v u) : tZ v1 u := by
 intro k hk hu
 rcases hat with h1 | ⟨b, h1, h2⟩
 ·exact hne k (by rw [<- h1]; exact hk) hu
 ·have := h.lt hu
  rw [h1] at hk
  injection hk with hk
  omega
end
open Go.Proofs.Ytoddejmlcnbdmaa.Fn
inductive Ck where
 | own (e : Nat) (v : Value) (xs : List Value)
 | jL (e : Nat) (v : Value) (xs : List Value)
 | box (T p : Nat) (cs : Array Value)
 | row (e sz : Nat) (v : Value) (n : Nat) (xs : List Value)
def Ck.blk : Ck -> Option Nat
 | .own _ v _ => v.ownBlock
 | .jL _ v _ => v.ownBlock
 | .box _ p _ => some p
 | .row _ _ v _ _ => v.ownBlock
def Ck.ok (w : World) (base : Nat) : Ck -> Prop
 | .own e v xs => w.ownsRow base e 1 v xs.length xs
 | .jL e v xs => kX w base e 1 v xs.length xs
 | .box T p cs => base <= p /\ w.heap[p]? = some (.cells cs T (0, 0))
 | .row e sz v n xs => w.ownsRow base e sz v n xs
def Apart (a b : Ck) : Prop := ∀ k, a.blk = some k -> b.blk ≠ some k
theorem Apart.symm {a b : Ck} (h : Apart a b) : Apart b a := fun k h1 h2 => h k h2 h1
structure Sat (w : World) (base : Nat) (L : List Ck) : Prop where
 ok : ∀ c ∈ L, c.ok w base
 ap : L.Pairwise Apart
def vS (L : List Ck) (k : Nat) : Prop := ∃ c ∈ L, c.blk = some k
section
variable {w w1 W : World} {base : Nat} {c : Ck} {L A A' R : List Ck}
theorem Ck.lt (h : c.ok w base) {k : Nat} (hk : c.blk = some k) : k < w.heap.size := by
 cases c with
 | own e v xs => exact JW h k hk
 | jL e v xs => exact WQ h k hk
 | box T p cs =>
  injection hk with hk
  subst hk;exact gU h.2
 | row e sz v n xs => exact JW h k hk
theorem Ck.ge (h : c.ok w base) {k : Nat} (hk : c.blk = some k) : base <= k := by
 cases c with
 | own e v xs => exact qb h k hk
 | jL e v xs => exact (Ar h k hk).1
 | box T p cs =>
  injection hk with hk
  subst hk;exact h.1
 | row e sz v n xs => exact qb h k hk
theorem Ck.move (h : c.ok w base) (hm : ∀ k, c.blk = some k -> w1.heap[k]? = w.heap[k]?) : c.ok w1 base := by
 cases c with
 | own e v xs => exact Bu h hm
 | jL e v xs => exact OI h hm
 | box T p cs => exact ⟨h.1, (hm p rfl).trans h.2⟩
 | row e sz v n xs => exact Bu h hm
theorem Ck.lower {base' : Nat} (h : c.ok w base) (hb : base' <= base) : c.ok w base' := by
 cases c with
 | own e v xs => exact wP h hb
 | jL e v xs => exact LB h hb
 | box T p cs => exact ⟨Nat.le_trans hb h.1, h.2⟩
 | row e sz v n xs => exact wP h hb
theorem Sat.nil (w : World) (base : Nat) : Sat w base [] := ⟨(fun c h => by cases h), .nil⟩
theorem Sat.lt (h : Sat w base L) {k : Nat} (hk : vS L k) : k < w.heap.size := by
 obtain ⟨c, hc, hb⟩ := hk;exact Ck.lt (h.ok c hc) hb
theorem Sat.ge (h : Sat w base L) {k : Nat} (hk : vS L k) : base <= k := by
 obtain ⟨c, hc, hb⟩ := hk;exact Ck.ge (h.ok c hc) hb
theorem Sat.move (h : Sat w base L) (hm : ∀ k, vS L k -> k < w.heap.size -> w1.heap[k]? = w.heap[k]?) : Sat w1 base L :=
 ⟨fun c hc => Ck.move (h.ok c hc) fun k hk => hm k ⟨c, hc, hk⟩ (Ck.lt (h.ok c hc) hk), h.ap⟩
theorem Sat.under (h : Sat w base L) (hb : Below w.heap.size w w1) : Sat w1 base L := h.move fun k _ hk => hb.block k hk
theorem Sat.lower {base' : Nat} (h : Sat w base L) (hb : base' <= base) : Sat w base' L := ⟨fun c hc => Ck.lower (h.ok c hc) hb, h.ap⟩
theorem Sat.drew (h : Sat w base L) : Sat w.drew base L := h.under (aG (Below.refl _ _))
theorem Sat.drewN (h : Sat w base L) (m : Nat) : Sat (w.drewN m) base L := h.under (aj (Below.refl _ _) m)
theorem Sat.perm (h : Sat w base A) (hp : A.Perm L) : Sat w base L :=
 ⟨fun c hc => h.ok c (hp.mem_iff.2 hc), hp.pairwise h.ap fun h => Apart.symm h⟩
theorem Sat.sub (h : Sat w base A) (hp : L.Sublist A) : Sat w base L := ⟨fun c hc => h.ok c (hp.subset hc), h.ap.sublist hp⟩
theorem Sat.left (h : Sat w base (A ++ R)) : Sat w base A := h.sub (List.sublist_append_left _ _)
theorem Sat.right (h : Sat w base (A ++ R)) : Sat w base R := h.sub (List.sublist_append_right _ _)
theorem Sat.apart (h : Sat w base (A ++ R)) {k : Nat} (ha : vS A k) (hr : vS R k) : False := by
 obtain ⟨c, hc, h1⟩ := ha;obtain ⟨d, hd, h2⟩ := hr;exact (List.pairwise_append.1 h.ap).2.2 c hc d hd k h1 h2
theorem Sat.frame (h : Sat w base (A ++ R)) (ha : Sat w1 base A') (hk : Kept w w1 (vS A)) (hb : ∀ k, vS A' k -> vS A k \/ w.heap.size <= k) : Sat w1 base (A' ++ R) := by
 have hr : Sat w1 base R := h.right.move fun k hk' hlt => hk.2 k hlt fun hka => h.apart hka hk'
 refine ⟨fun c hc => ?_, List.pairwise_append.2 ⟨ha.ap, hr.ap, fun a haa r hrr k h1 h2 => ?_⟩⟩
 ·rcases List.mem_append.1 hc with hc | hc
  ·exact ha.ok c hc
  ·exact hr.ok c hc
 ·rcases hb k ⟨a, haa, h1⟩ with h3 | h3
  ·exact h.apart h3 ⟨r, hrr, h2⟩
  ·have := h.right.lt ⟨r, hrr, h2⟩
   omega
theorem Sat.add (h : Sat w base L) (hk : Kept w w1 (fun _ => False)) (hc : Sat w1 base A) (hn : ∀ k, vS A k -> w.heap.size <= k) : Sat w1 base (A ++ L) := by
 have := Sat.frame (A := []) (A' := A) (R := L) (w := w) (w1 := w1) (base := base) (by simpa using h) hc (hk.mono fun k h => h.elim) (fun k h => .inr (hn k h));exact this
theorem Sat.one (h : c.ok w base) : Sat w base [c] := ⟨fun d hd => by rw [List.mem_singleton.1 hd]; exact h, List.pairwise_singleton _ _⟩
theorem Sat.cell (h : Sat w base L) {T p : Nat} {cs : Array Value} (hm : Ck.box T p cs ∈ L) : w.heap[p]? = some (.cells cs T (0, 0)) := (h.ok _ hm).2
theorem LC {v : Value} {l : List ByteArray} (h : Ck.ok w base (.own 9 v (encs Value.string l))) : SR w base v l :=
 Kd.oz (enc := Value.string) (h1 := fun _ => rfl) (by have h2 : w.ownsRow base 9 1 v (encs Value.string l).length (encs Value.string l) := h; rw [bY] at h2; exact h2) (fun _ _ => trivial)
theorem wo {v : Value} {l : List ByteArray} (h : SR w base v l) : Ck.ok w base (.own 9 v (encs Value.string l)) := by
 have h2 := Kd.uB (enc := Value.string) (h1 := fun _ => rfl) h;show w.ownsRow base 9 1 v (encs Value.string l).length (encs Value.string l);rw [bY];exact h2
abbrev txt (v : Value) (l : List ByteArray) : Ck := .own 9 v (encs Value.string l)
theorem Sat.sr (h : Sat w base L) {v : Value} {l : List ByteArray} (i : Nat) (hi : L[i]? = some (txt v l)) : SR w base v l := LC (h.ok _ (List.mem_of_getElem? hi))
theorem Sat.ap2 (h : Sat w base L) {i j : Nat} (hij : i < j) {a b : Ck} (hi : L[i]? = some a) (hj : L[j]? = some b) : Apart a b := by
 obtain ⟨h1, h2⟩ := List.getElem?_eq_some_iff.1 hi;obtain ⟨h3, h4⟩ := List.getElem?_eq_some_iff.1 hj;rw [<- h2, <- h4];exact List.pairwise_iff_getElem.1 h.ap i j h1 h3 hij
theorem Sat.two {v1 v2 : Value} {l1 l2 : List ByteArray} (h1 : SR w base v1 l1) (h2 : SR w base v2 l2) (hn : tZ v1 v2) : Sat w base [txt v1 l1, txt v2 l2] :=
 ⟨fun c hc => by
  rcases List.mem_cons.1 hc with rfl | hc
  ·exact wo h1
  ·rw [List.mem_singleton.1 hc]; exact wo h2, by
  refine List.pairwise_cons.2 ⟨fun b hb => ?_, List.pairwise_singleton _ _⟩;rw [List.mem_singleton.1 hb]
  exact hn⟩
theorem Sat.lit {xs : List ByteArray} {vb : Value} (h : Sat W base L) (ho : Kd.string.R 9 w1 base (fun _ => True) vb xs) (hg : W.grownBy w1 none) (hn : ∃ b, vb.ownBlock = some b /\ W.heap.size <= b) : Sat w1 base (L ++ [txt vb xs]) := by
 have hk : Kept W w1 (fun _ => False) := ⟨hg.size, fun i hi _ => hg.block i hi (by simp)⟩
 refine (h.add hk (Sat.one (wo ho)) ?_).perm List.perm_append_comm;rintro k ⟨c, hc, hb⟩;rw [List.mem_singleton.1 hc] at hb;obtain ⟨b, h1, h2⟩ := hn;have h3 : vb.ownBlock = some k := hb;rw [h1] at h3
 injection h3 with h3
 omega
theorem set_perm {α : Type} : ∀ {l : List α} {i : Nat} {x y : α}, l[i]? = some x -> (l.Perm (x :: l.eraseIdx i)) /\ (l.set i y).Perm (y :: l.eraseIdx i)
 | [], i, x, y, h => by simp at h
 | a :: l, 0, x, y, h => by
  have h : a = x := by simpa using h
  subst h;exact ⟨.refl _, .refl _⟩
 | a :: l, i + 1, x, y, h => by
  obtain ⟨h1, h2⟩ := set_perm (l := l) (i := i) (x := x) (y := y) (by simpa using h);exact ⟨(h1.cons a).trans (.swap _ _ _), (h2.cons a).trans (.swap _ _ _)⟩
theorem Sat.app {x y : List ByteArray} {u u1 : Value} (i : Nat) (h : Sat W base L) (hi : L[i]? = some (txt u x)) (ho : Kd.string.R 9 w1 base (fun _ => True) u1 y) (hg : W.grownBy w1 u.ownBlock) (hat : u1.ownBlock = u.ownBlock \/ ∃ b, u1.ownBlock = some b /\ W.heap.size <= b) :
  Sat w1 base (L.set i (txt u1 y)) := by
 obtain ⟨h1, h2⟩ := set_perm (y := txt u1 y) hi
 have hf : Sat w1 base ([txt u1 y] ++ L.eraseIdx i) := by
  refine Sat.frame (A := [txt u x]) (w := W) (h.perm h1) (Sat.one (wo ho)) ⟨hg.size, fun k hk hnot => hg.block k hk fun he => hnot ⟨_, List.mem_singleton_self _, he.symm⟩⟩ ?_;rintro k ⟨c, hc, hb⟩;rw [List.mem_singleton.1 hc] at hb;have h3 : u1.ownBlock = some k := hb
  rcases hat with h4 | ⟨b, h4, h5⟩
  ·exact .inl ⟨_, List.mem_singleton_self _, by rw [h4] at h3; exact h3⟩
  ·rw [h4] at h3
   injection h3 with h3
   exact .inr (by omega)
 exact hf.perm h2.symm
end
open Go.Proofs.Ytoddejmlcnbdmaa.Fn
inductive NT where
 | mk (p : Nat) (kv vv cv : Value) (keys vals : List ByteArray) (kids : List NT)
def NT.p : NT -> Nat | .mk p _ _ _ _ _ _ => p
def NT.kv : NT -> Value | .mk _ v _ _ _ _ _ => v
def NT.vv : NT -> Value | .mk _ _ v _ _ _ _ => v
def NT.cv : NT -> Value | .mk _ _ _ v _ _ _ => v
def NT.keys : NT -> List ByteArray | .mk _ _ _ _ k _ _ => k
def NT.vals : NT -> List ByteArray | .mk _ _ _ _ _ v _ => v
def NT.kids : NT -> List NT | .mk _ _ _ _ _ _ c => c
mutual
def NT.erase : NT -> PT
 | .mk _ _ _ _ keys vals kids => .mk keys vals (NT.ax kids)
def NT.ax : List NT -> List PT
 | [] => []
 | c :: cs => c.erase :: NT.ax cs
end
theorem aC : ∀ l : List NT, NT.ax l = l.map NT.erase
 | [] => rfl
 | c :: cs => by rw [NT.ax, aC cs]; rfl
abbrev ptrs (l : List NT) : List Value := l.map fun k => bu k.p
mutual
def NT.dH (T E : Nat) : NT -> List Ck
 | .mk p kv vv cv keys vals kids => .box T p #[kv, vv, cv] :: txt kv keys :: txt vv vals :: .jL E cv (ptrs kids) :: NT.aZ T E kids
def NT.aZ (T E : Nat) : List NT -> List Ck
 | [] => []
 | c :: cs => c.dH T E ++ NT.aZ T E cs
end
theorem rH (T E : Nat) : ∀ l : List NT, NT.aZ T E l = l.flatMap (NT.dH T E)
 | [] => rfl
 | c :: cs => by rw [NT.aZ, rH T E cs]; rfl
theorem gZ (T E : Nat) (a b : List NT) : NT.aZ T E (a ++ b) = NT.aZ T E a ++ NT.aZ T E b := by
 rw [rH, rH, rH, List.flatMap_append]
section
variable {w w1 : World} {base : Nat} {L : List Ck}
theorem Bv {α : Type} {enc : α -> Value} {xs : List α} {inner : List Value} {n : Nat} (hr : gm (fun (x : α) (cs : List Value) => cs = [enc x]) 1 xs inner) : inner = encs enc xs := by
 apply List.ext_getElem?;intro j
 rcases Nat.lt_or_ge j xs.length with hj | hj
 ·have h2 := hr.2 j _ (List.getElem?_eq_getElem hj)
  have hl : j < inner.length := by have := hr.1; omega
  have h3 : (inner.drop (j * 1)).take 1 = [enc xs[j]] := h2;rw [Nat.mul_one, List.drop_eq_getElem_cons hl] at h3
  have h4 : inner[j] = enc xs[j] := by
   have h5 := congrArg List.head? h3;rw [List.take_succ_cons] at h5;exact Option.some.inj h5
  rw [List.getElem?_eq_getElem hl, h4];simp [encs, List.getElem?_eq_getElem hj]
 ·have h3 : inner.length = xs.length := by have := hr.1; omega
  rw [List.getElem?_eq_none (by omega), List.getElem?_eq_none (by rw [bY]; omega)]
def PQ (E : Nat) (w : World) (base : Nat) (v : Value) (ps : List Nat) : Prop := dZ.Q E w base (fun _ => True) v ps
theorem Bw {E : Nat} {v : Value} {ps : List Nat} (h : Ck.ok w base (.jL E v (encs bu ps))) : PQ E w base v ps := by
 refine ⟨fun _ _ => trivial, encs bu ps, ?_, Kd.aY ps⟩;have h2 : kX w base E 1 v (encs bu ps).length (encs bu ps) := h;rw [bY] at h2;exact h2
theorem zu {E : Nat} {v : Value} {ps : List Nat} (h : PQ E w base v ps) : Ck.ok w base (.jL E v (encs bu ps)) := by
 obtain ⟨_, inner, ho, hr⟩ := h;have e := Bv (n := 0) (enc := bu) hr;subst e;show kX w base E 1 v (encs bu ps).length (encs bu ps);rw [bY];exact ho
theorem dM (l : List NT) : ptrs l = encs bu (l.map NT.p) := by unfold ptrs encs; rw [List.map_map]; rfl
theorem Sat.tail {c : Ck} (h : Sat w base (c :: L)) : Sat w base L := h.sub (List.sublist_cons_self _ _)
theorem Hw {α β : Type} {f : α -> List β} : ∀ {l : List α} {x : α}, x ∈ l -> (f x).Sublist (l.flatMap f)
 | y :: l, x, h => by
  rw [List.flatMap_cons]
  rcases List.mem_cons.1 h with rfl | h
  ·exact List.sublist_append_left _ _
  ·exact (Hw h).trans (List.sublist_append_right _ _)
theorem xA {T E : Nat} {l : List NT} (h : Sat w base (NT.aZ T E l)) {i : Nat} {s : NT} (hs : l[i]? = some s) : Sat w base (s.dH T E) := by
 rw [rH] at h;exact h.sub (Hw (List.mem_of_getElem? hs))
theorem D9 {T E : Nat} : ∀ (n : Nat) (t : NT), SizeOf.sizeOf t <= n -> Sat w base (t.dH T E) -> Rd T w t.p t.erase
 | 0, t, h, _ => by cases t; simp at h
 | n + 1, .mk p kv vv cv keys vals kids, h, hs => by
  rw [NT.dH] at hs;have hb := (hs.ok _ List.mem_cons_self).2;obtain ⟨Ak, ck, e1, h1, hk⟩ := Kd.fP (LC (hs.tail.ok _ List.mem_cons_self));obtain ⟨Av, cv', e2, h2, hv⟩ := Kd.fP (LC (hs.tail.tail.ok _ List.mem_cons_self));have hq := hs.tail.tail.tail.ok _ List.mem_cons_self;rw [dM] at hq;obtain ⟨Ac, cc, e3, h3, hc⟩ := Kd.LD (Bw hq);subst e1; subst e2; subst e3;rw [List.length_map] at h3 hc;have hl : (NT.ax kids).length = kids.length := by rw [aC, List.length_map]
  refine .mk Ak ck Av cv' Ac cc (kids.map NT.p) (by rw [hl]; rw [List.length_map] at hb; exact hb) h1 h2 (by omega) hk hv (by rw [hl]; exact hc) (by rw [hl, List.length_map]) ?_;intro i q s hq hs';rw [aC] at hs';rw [List.getElem?_map] at hq hs';obtain ⟨k, hk, rfl⟩ := Option.map_eq_some_iff.1 hq;rw [hk] at hs';obtain rfl := Option.some.inj hs';refine D9 n k ?_ (xA hs.tail.tail.tail.tail hk);have := List.sizeOf_lt_of_mem (List.mem_of_getElem? hk);have h3 : SizeOf.sizeOf (NT.mk p (.slice Ak keys.length ck) (.slice Av vals.length cv') (.slice Ac (kids.map NT.p).length cc) keys vals kids) = 1 + SizeOf.sizeOf p + SizeOf.sizeOf (Value.slice Ak keys.length ck) + SizeOf.sizeOf (Value.slice Av vals.length cv') + SizeOf.sizeOf (Value.slice Ac (kids.map NT.p).length cc) + SizeOf.sizeOf keys + SizeOf.sizeOf vals + SizeOf.sizeOf kids := by simp
  omega
theorem jc {T E : Nat} {t : NT} (h : Sat w base (t.dH T E)) : Rd T w t.p t.erase := D9 _ t (Nat.le_refl _) h
theorem Sat.put {T p : Nat} {cs cs' : Array Value} (h : Sat w base (.box T p cs :: L)) (j : Nat) (u : Value) (e : cs.setIfInBounds j u = cs') : Sat (w.setCell ⟨p, j, none⟩ u) base (.box T p cs' :: L) := by
 have h1 := (h.ok _ List.mem_cons_self)
 refine Sat.frame (A := [.box T p cs]) (A' := [.box T p cs']) (R := L) (w := w) h (Sat.one ⟨h1.1, dP h1.2 j u e⟩) ((Kept.refl w _).setCell (.inl ⟨_, List.mem_singleton_self _, rfl⟩) u) ?_;rintro k ⟨c, hc, hb⟩;rw [List.mem_singleton.1 hc] at hb;exact .inl ⟨_, List.mem_singleton_self _, hb⟩
theorem Sat.WS {T p : Nat} {a0 a1 a2 : Value} (h : Sat w base (.box T p #[a0, a1, a2] :: L)) (x0 x1 x2 : Value) :
  Sat (((w.setCell ⟨p, 0, none⟩ x0).setCell ⟨p, 1, none⟩ x1).setCell ⟨p, 2, none⟩ x2) base (.box T p #[x0, x1, x2] :: L) :=
 ((h.put 0 x0 (cs' := #[x0, a1, a2]) rfl).put 1 x1 (cs' := #[x0, x1, a2]) rfl).put 2 x2 rfl
theorem Sat.je {T g : Nat} {cs : Array Value} {W : World} (h : Sat W base L) (hg : g = W.heap.size) (aA : w1.heap[g]? = some (.cells cs T (0, 0))) (hb : Below W.heap.size W w1) (hbase : base <= W.heap.size) : Sat w1 base (.box T g cs :: L) := by
 refine Sat.add (A := [.box T g cs]) h (Kept.of_below hb _) (Sat.one ⟨by omega, aA⟩) ?_;rintro k ⟨c, hc, hb⟩;rw [List.mem_singleton.1 hc] at hb
 injection hb with hb
 omega
theorem Sat.Bz (h : Sat w base L) (E : Nat) : Sat w base (.jL E (.slice none 0 0) [] :: L) := by
 have hq : Ck.ok w base (.jL E (.slice none 0 0) []) := zu (ps := []) (Kd.WT _ _ _ _ _);refine Sat.add (A := [.jL E (.slice none 0 0) []]) h (Kept.refl _ _) (Sat.one hq) ?_;rintro k ⟨c, hc, hb⟩;rw [List.mem_singleton.1 hc] at hb
 cases hb
theorem Sat.OJ (h : Sat w base L) (i : Nat) {T p : Nat} {cs : Array Value} (hi : L[i]? = some (.box T p cs)) : w.heap[p]? = some (.cells cs T (0, 0)) := h.cell (List.mem_of_getElem? hi)
theorem Sat.z (h : Sat w base L) (i : Nat) {T p : Nat} {cs : Array Value} (hi : L[i]? = some (.box T p cs)) (j : Nat) : w.cell? ⟨p, j, none⟩ = cs[j]? := au (h.OJ i hi) j
theorem Sat.f (h : Sat w base L) (i : Nat) {T p : Nat} {cs : Array Value} (hi : L[i]? = some (.box T p cs)) (j : Nat) : w.frozen? ⟨p, j, none⟩ = false := aV (h.OJ i hi) j
end
open Go.Proofs.Ytoddejmlcnbdmaa.Fn
def qX (p : bC) : Bool := decide (4 < p.f0.length) || p.f1.length != p.f0.length || (p.f2.length != 0 && p.f2.length != p.f0.length + 1)
def fu (rd : Nat -> Option (PT × Nat)) : List Int -> Nat -> List PT -> Option (List PT × Nat)
 | [], next, acc => some (acc, next)
 | k :: ks, next, acc => if k ≠ (next : Int) then none else match rd next with
  | none => none
  | some r => fu rd ks r.2 (acc ++ [r.1])
def fin (p : bC) (o : Option (List PT × Nat)) : Option (PT × Nat) := o.map fun r => (.mk p.f0 p.f1 r.1, r.2)
def bZ (P : List bC) : Nat -> Nat -> Option (PT × Nat)
 | 0, _ => none
 | f + 1, at_ => if P.length <= at_ then none else if qX (P.getD at_ mQ) then none else fin (P.getD at_ mQ) (fu (bZ P f) (P.getD at_ mQ).f2 (at_ + 1) [])
section
variable {rd : Nat -> Option (PT × Nat)} {p : bC} {l : List Int} {i next : Nat} {acc : List PT} {k : Int} {R : Option (PT × Nat)}
theorem xB {t : PT} {n : Nat} (h : R = fin p (fu rd (l.drop i) next acc)) (hk : l[i]? = some k) (e : k = (next : Int)) (hr : rd next = some (t, n)) : R = fin p (fu rd (l.drop (i + 1)) n (acc ++ [t])) := by
 rw [fO hk, fu, if_neg (by simp [e]), hr] at h;exact h
theorem sM (h : R = fin p (fu rd (l.drop i) next acc)) (hk : l[i]? = some k) (e : k ≠ (next : Int)) : R = none := by
 rw [fO hk, fu, if_pos e] at h;exact h
theorem sN (h : R = fin p (fu rd (l.drop i) next acc)) (hk : l[i]? = some k) (e : k = (next : Int)) (hr : rd next = none) : R = none := by
 rw [fO hk, fu, if_neg (by simp [e]), hr] at h;exact h
theorem vg (h : R = fin p (fu rd (l.drop i) next acc)) (hi : l.length <= i) : R = some (.mk p.f0 p.f1 acc, next) := by
 rw [List.drop_eq_nil_of_le hi, fu] at h;exact h
end
theorem zw {P : List bC} {f at_ : Nat} (h : P.length <= at_) : bZ P f at_ = none := by
 cases f with
 | zero => rfl
 | succ f => rw [bZ, if_pos h]
theorem Ea {P : List bC} {f at_ : Nat} (hb : qX (P.getD at_ mQ) = true) : bZ P (f + 1) at_ = none := by
 rw [bZ]
 by_cases h : P.length <= at_
 ·rw [if_pos h]
 ·rw [if_neg h, if_pos hb]
theorem Hz {P : List bC} {f at_ : Nat} (h : ¬ P.length <= at_) (hb : qX (P.getD at_ mQ) = false) : bZ P (f + 1) at_ = fin (P.getD at_ mQ) (fu (bZ P f) ((P.getD at_ mQ).f2.drop 0) (at_ + 1) []) := by
 rw [bZ, if_neg h, if_neg (by rw [hb]; decide), List.drop_zero]
theorem H5 {P : List bC} {rd : Nat -> Option (PT × Nat)} (hrd : ∀ at_ t n, rd at_ = some (t, n) -> at_ < n /\ n <= P.length) : ∀ (l : List Int) (next : Nat) (acc : List PT) (ts : List PT) (n : Nat), next <= P.length -> fu rd l next acc = some (ts, n) -> next <= n /\ n <= P.length
 | [], next, acc, ts, n, hl, h => by
  rw [fu] at h
  injection h with h
  injection h with h1 h2
  omega
 | k :: ks, next, acc, ts, n, hl, h => by
  rw [fu] at h
  split at h
  ·cases h
  ·cases hr : rd next with
   | none => rw [hr] at h; cases h
   | some r =>
    rw [hr] at h;have h1 := hrd next r.1 r.2 hr;have := H5 hrd ks r.2 _ ts n h1.2 h;omega
theorem j5 {P : List bC} : ∀ (f at_ : Nat) (t : PT) (n : Nat), bZ P f at_ = some (t, n) -> at_ < n /\ n <= P.length
 | 0, at_, t, n, h => by cases h
 | f + 1, at_, t, n, h => by
  rw [bZ] at h
  split at h
  ·cases h
  ·rename_i hl
   split at h
   ·cases h
   ·unfold fin at h
    obtain ⟨r, hr, e⟩ := Option.map_eq_some_iff.1 h
    injection e with e1 e2
    have := H5 (P := P) (fun a t n h => j5 f a t n h) _ _ _ r.1 r.2 (by omega) hr;omega
open Go.Proofs.Ytoddejmlcnbdmaa.Fn
theorem jm : Try.prog.underlying 94 = some (.slice 70) := by kernel_rfl
theorem sO : Try.prog.underlying 99 = some (.slice 74) := by kernel_rfl
theorem kY : (Try.prog.info? 70).map (fun i => (i.zero, i.size, i.bytes)) = some (some (.pointer none), 1, 8) := by kernel_rfl
theorem kZ : (Try.prog.info? 74).map (fun i => (i.zero, i.size, i.bytes)) = some (some (.pointer none), 1, 8) := by kernel_rfl
theorem Rw {a b : Nat} (h : a ≠ b) : ((a : Int) != (b : Int)) = true := by rw [bne_iff_ne]; omega
theorem MV {a b : Nat} (h : a = b) : ((a : Int) != (b : Int)) = false := by rw [bne_eq_false_iff_eq]; omega
theorem Tc {a : Nat} (h : a ≠ 0) : ((a : Int) != 0) = true := by rw [bne_iff_ne]; omega
theorem WU {a : Nat} (h : a = 0) : ((a : Int) != 0) = false := by rw [bne_eq_false_iff_eq]; omega
theorem Td {a b : Nat} (h : a ≠ b + 1) : ((a : Int) != (b : Int) + 1) = true := by rw [bne_iff_ne]; omega
theorem Te {a b : Nat} (h : a = b + 1) : ((a : Int) != (b : Int) + 1) = false := by rw [bne_eq_false_iff_eq]; omega
theorem zx {a b : Nat} (h : a ≠ b) : (a != b) = true := by rw [bne_iff_ne]; omega
theorem xC {a b : Nat} (h : a = b) : (a != b) = false := by rw [bne_eq_false_iff_eq]; omega
theorem FI {α : Type} {d : Kd α} {e : Nat} {w : World} {base : Nat} {ok : Nat -> Prop} {v : Value} {xs : List α} (h : d.Q e w base ok v xs) : ∃ A n c, v = .slice A n c := by
 obtain ⟨A, c, rfl, _⟩ := Kd.xD h;exact ⟨A, _, c, rfl⟩
def LL (T E g : Nat) (v0 v1 cv : Value) (k v : List ByteArray) (X : List Ck) (acc : List NT) : List Ck :=
 .box T g #[v0, v1, cv] :: txt v0 k :: txt v1 v :: .jL E cv (ptrs acc) :: (X ++ NT.aZ T E acc)
theorem Eb (T E : Nat) (acc : List NT) (n : NT) : NT.aZ T E (acc ++ [n]) = NT.aZ T E acc ++ n.dH T E := by
 rw [gZ]
 congr 1
 rw [NT.aZ, NT.aZ, List.append_nil]
section
variable {w w1 W : World} {base T E g : Nat} {v0 v1 cv cv' : Value} {k v : List ByteArray} {X L : List Ck} {acc : List NT} {n : NT}
theorem Sat.YM {x y : List Nat} {u u1 : Value} (i : Nat) (h : Sat W base L) (hi : L[i]? = some (.jL E u (encs bu x))) (ho : dZ.Q E w1 base (fun _ => True) u1 y) (hg : W.grownBy w1 u.ownBlock) (hat : u1.ownBlock = u.ownBlock \/ ∃ b, u1.ownBlock = some b /\ W.heap.size <= b) :
  Sat w1 base (L.set i (.jL E u1 (encs bu y))) := by
 obtain ⟨h1, h2⟩ := set_perm (y := Ck.jL E u1 (encs bu y)) hi
 have hf : Sat w1 base ([Ck.jL E u1 (encs bu y)] ++ L.eraseIdx i) := by
  refine Sat.frame (A := [.jL E u (encs bu x)]) (w := W) (h.perm h1) (Sat.one (zu ho)) ⟨hg.size, fun k hk hnot => hg.block k hk fun he => hnot ⟨_, List.mem_singleton_self _, he.symm⟩⟩ ?_;rintro k ⟨c, hc, hb⟩;rw [List.mem_singleton.1 hc] at hb;have h3 : u1.ownBlock = some k := hb
  rcases hat with h4 | ⟨b, h4, h5⟩
  ·exact .inl ⟨_, List.mem_singleton_self _, by rw [h4] at h3; exact h3⟩
  ·rw [h4] at h3
   injection h3 with h3
   exact .inr (by omega)
 exact hf.perm h2.symm
theorem Sat.behind {A : List Ck} (h : Sat w base L) (hb : Below w.heap.size w w1) (hbase : base <= w.heap.size) (hn : Sat w1 w.heap.size A) : Sat w1 base (L ++ A) :=
 (h.add (Kept.of_below hb _) (hn.lower hbase) fun k hk => hn.ge hk).perm List.perm_append_comm
theorem OL (h : Sat w base (LL T E g v0 v1 cv k v X acc)) (hb : Below w.heap.size w w1) (hbase : base <= w.heap.size) (hn : Sat w1 w.heap.size (n.dH T E)) :
  Sat w1 base (Ck.box T g #[v0, v1, cv] :: txt v0 k :: txt v1 v :: .jL E cv (encs bu (acc.map NT.p)) :: (X ++ NT.aZ T E (acc ++ [n]))) := by
 have h2 := h.behind hb hbase hn
 have e : LL T E g v0 v1 cv k v X acc ++ n.dH T E = Ck.box T g #[v0, v1, cv] :: txt v0 k :: txt v1 v :: .jL E cv (encs bu (acc.map NT.p)) :: (X ++ NT.aZ T E (acc ++ [n])) := by
  rw [Eb, <- dM];simp only [LL, List.cons_append, List.append_assoc]
 rw [e] at h2;exact h2
theorem Sat.far (h : Sat w base L) {p : Addr} (hp : p.block < base) (u : Value) : Sat (w.setCell p u) base L := h.move fun k hk _ => Below.heap_setCell w p u k (by have := h.ge hk; omega)
theorem Sat.Tf {S : Nat -> Prop} (h : Sat w base L) (hk : Kept w w1 S) (hS : ∀ k, S k -> k < base) : Sat w1 base L := h.move fun k hb hlt => hk.2 k hlt fun hs => by have := h.ge hb; have := hS k hs; omega
theorem LF {S : Nat -> Prop} (h : Sat w base (LL T E g v0 v1 cv k v X acc)) (hk : Kept w w1 S) (hS : ∀ k, S k -> k < base) (hbase : base <= w.heap.size) (hn : Sat w1 w.heap.size (n.dH T E)) :
  Sat w1 base (Ck.box T g #[v0, v1, cv] :: txt v0 k :: txt v1 v :: .jL E cv (encs bu (acc.map NT.p)) :: (X ++ NT.aZ T E (acc ++ [n]))) := by
 have h1 := h.Tf hk hS
 have h2 : Sat w1 base (LL T E g v0 v1 cv k v X acc ++ n.dH T E) := by
  refine ⟨fun c hc => ?_, List.pairwise_append.2 ⟨h1.ap, (hn.lower hbase).ap, fun a ha b hb j e1 e2 => ?_⟩⟩
  ·rcases List.mem_append.1 hc with hc | hc
   ·exact h1.ok c hc
   ·exact (hn.lower hbase).ok c hc
  ·have := h.lt ⟨a, ha, e1⟩
   have := hn.ge ⟨b, hb, e2⟩;omega
 have e : LL T E g v0 v1 cv k v X acc ++ n.dH T E = Ck.box T g #[v0, v1, cv] :: txt v0 k :: txt v1 v :: .jL E cv (encs bu (acc.map NT.p)) :: (X ++ NT.aZ T E (acc ++ [n])) := by
  rw [Eb, <- dM];simp only [LL, List.cons_append, List.append_assoc]
 rw [e] at h2;exact h2
theorem FJ {x : Nat} (h : Sat W base (Ck.box T g #[v0, v1, cv] :: txt v0 k :: txt v1 v :: .jL E cv (encs bu (acc.map NT.p)) :: (X ++ NT.aZ T E (acc ++ [n])))) (ho : dZ.Q E w1 base (fun _ => True) cv' (acc.map NT.p ++ [n.p])) (hg : W.grownBy w1 cv.ownBlock) (hat : cv'.ownBlock = cv.ownBlock \/ ∃ b, cv'.ownBlock = some b /\ W.heap.size <= b) :
  Sat w1 base (Ck.box T g #[v0, v1, cv] :: txt v0 k :: txt v1 v :: .jL E cv' (ptrs (acc ++ [n])) :: (X ++ NT.aZ T E (acc ++ [n]))) := by
 have h2 := Sat.YM (E := E) 3 h rfl ho hg hat;have e : encs bu (acc.map NT.p ++ [n.p]) = ptrs (acc ++ [n]) := by rw [dM, List.map_append]; rfl
 rw [e] at h2;exact h2
theorem FL (h : Sat w base (Ck.box T g #[v0, v1, cv] :: txt v0 k :: txt v1 v :: .jL E cv' (ptrs acc) :: (X ++ NT.aZ T E acc))) : Sat (w.setCell ⟨g, 2, none⟩ cv') base (LL T E g v0 v1 cv' k v X acc) := h.put 2 cv' rfl
theorem FM (h : Sat w base (LL T E g v0 v1 cv k v X acc)) : Sat w base ((NT.mk g v0 v1 cv k v acc).dH T E) := by
 rw [NT.dH];exact h.sub (((List.sublist_append_right X _).cons_cons _).cons_cons _ |>.cons_cons _ |>.cons_cons _)
theorem BA (h : Sat w base (Ck.box T g #[v0, v1, .slice none 0 0] :: (X ++ [txt v0 k, txt v1 v]))) : Sat w base (LL T E g v0 v1 (.slice none 0 0) k v X []) := by
 refine (h.Bz E).perm ?_;show List.Perm _ (Ck.box T g #[v0, v1, .slice none 0 0] :: txt v0 k :: txt v1 v :: .jL E (.slice none 0 0) [] :: (X ++ []));rw [List.append_nil];refine (List.Perm.swap _ _ _).trans (.cons _ ?_);have e1 : (X ++ [txt v0 k, txt v1 v]).Perm ([txt v0 k, txt v1 v] ++ X) := List.perm_append_comm;refine (e1.cons _).trans ?_;exact ((List.Perm.swap _ _ _).trans (.cons _ (.swap _ _ _)))
end
def Tg (T E : Nat) (w : World) (r : Option (PT × Nat)) (e : Ending) (w' : World) : Prop :=
 Below w.heap.size w w' /\ ((r = none /\ e = .returned (.tuple #[.pointer none, .int .i64 (-1)])) \/
  ∃ (nt : NT) (n : Nat), r = some (nt.erase, n) /\ e = .returned (.tuple #[bu nt.p, .int .i64 (n : Int)]) /\ Sat w' w.heap.size (nt.dH T E))
def Ti (w0 w : World) (gb : Nat) (gs : Value) (r : Option (PT × Nat)) (e : Ending) (w' : World) : Prop :=
 Below w0.heap.size w0 w' /\ ((r = none /\ e = .returned (.tuple #[.pointer none, .bool false])) \/
  ∃ (nt : NT) (n : Nat), r = some (nt.erase, n) /\ e = .returned (.tuple #[bu nt.p, .bool true]) /\ Sat w' w.heap.size (nt.dH 101 74) /\ Kept w w' (fun k => k = gb) /\ w'.heap[gb]? = some (.cells #[gs, .int .i64 (n : Int)] 121 (0, 0)))
open Go.Proofs.Ytoddejmlcnbdmaa.Fn
theorem Ec {p : bC} (h : qX p = false) : p.f0.length <= 4 /\ p.f1.length = p.f0.length /\ (p.f2.length = 0 \/ p.f2.length = p.f0.length + 1) := by
 unfold qX at h;simp only [Bool.or_eq_false_iff, Bool.and_eq_false_iff, decide_eq_false_iff_not, bne_eq_false_iff_eq] at h;omega
theorem oC.calls (P : List bC) (hN : P.length <= 1000000000000) : ∀ (f : Nat) (d : Int), d + (f : Int) = 11 -> 0 <= d -> ∀ (a : Nat) (A : Option Addr) (c : Nat) (w : World), Kd.C j4 w A P.length P -> (∀ p ∈ P, p.f0.length <= 1000000000000 /\ p.f1.length <= 1000000000000 /\ p.f2.length <= 1000000000000) -> a <= P.length ->
  Calls Try.prog 95 #[.agg #[.slice A P.length c], .int .i64 (a : Int), .int .i64 d] w (Tg 96 70 w (bZ P f a)) := by
 intro f
 induction f with
 | zero =>
  intro d hd hd0 a A c w hp hm ha;obtain rfl : d = 11 := by omega
  have HB := A_ (Below.refl w.heap.size w);have HS := A_ (Sat.nil w w.heap.size);clear hp
  by_cases h1 : P.length <= a
  ·have Yj := lQ ((P.length : Int) <= (a : Int))
   have Yk : (P.length <= a) = True := eq_true h1;clear h1 ha hm hd;go_enter Try.func95, Try.ntmps95
   go_wp2_with (refine jl 3 #[.slice A P.length c] 29 ?_; intro b3 hg w1 aA hb; have ah := A_ (Sat.je HS.out hg aA hb HB.out.size); have hb' := ay HB.out hb; have bT := A_ hb'; clear HS; clear HB; have HS := ah; have HB := bT; clear ah bT; have hz3 := HS.out.z 0 rfl 0; clear hg aA hb hb')
   go_ret2
   exact ⟨HB.out, .inl ⟨rfl, rfl⟩⟩
  ·have Yj := kS ((P.length : Int) <= (a : Int))
   have Yk : (P.length <= a) = False := eq_false h1;clear h1 ha hm hd;go_enter Try.func95, Try.ntmps95
   go_wp2_with (refine jl 3 #[.slice A P.length c] 29 ?_; intro b3 hg w1 aA hb; have ah := A_ (Sat.je HS.out hg aA hb HB.out.size); have hb' := ay HB.out hb; have bT := A_ hb'; clear HS; clear HB; have HS := ah; have HB := bT; clear ah bT; have hz3 := HS.out.z 0 rfl 0; clear hg aA hb hb')
   go_ret2
   exact ⟨HB.out, .inl ⟨rfl, rfl⟩⟩
 | succ f ih =>
  intro d hd hd0 a A c w hp hm ha;have HB := A_ (Below.refl w.heap.size w);have HS := A_ (Sat.nil w w.heap.size)
  by_cases h1 : P.length <= a
  ·have Yj := lQ ((P.length : Int) <= (a : Int))
   have Yk : (P.length <= a) = True := eq_true h1;have HR := A_ (zw (f := f + 1) h1);clear h1 ha hm hd hp;go_enter Try.func95, Try.ntmps95
   go_wp2_with (refine jl 3 #[.slice A P.length c] 29 ?_; intro b3 hg w1 aA hb; have ah := A_ (Sat.je HS.out hg aA hb HB.out.size); have hb' := ay HB.out hb; have bT := A_ hb'; clear HS; clear HB; have HS := ah; have HB := bT; clear ah bT; have hz3 := HS.out.z 0 rfl 0; clear hg aA hb hb')
   go_ret2
   exact ⟨HB.out, .inl ⟨HR.out, rfl⟩⟩
  ·have Yj := kS ((P.length : Int) <= (a : Int))
   have Yk : (P.length <= a) = False := eq_false h1;have c1e := bV (a < P.length);have c2b := kS (10 < d);have hdl : d <= 10 := by omega
   have HD := A_ hd;have HA := A_ h1;have HP := A_ hp;have HM := A_ hm;have hal : a < P.length := by omega
   have Us : P.length <= 1000000000000 := hN;have Ky := hm _ (List.getElem_mem (l := P) hal);have Xp : P[a] = gB P (a : Int) := by unfold gB; rw [Int.toNat_natCast, List.getD_eq_getElem?_getD, List.getElem?_eq_getElem hal]; rfl
   have PY : P.getD a mQ = gB P (a : Int) := by unfold gB; rw [Int.toNat_natCast]
   rw [Xp] at Ky;obtain ⟨ad, A0, c0, A1, c1, A2, c2, YX, hx0, hx1, hx2, hl0, hf0, hl1, hf1, hl2, hf2⟩ := FH hp (a : Int) (by omega) (by omega);subst YX
   obtain ⟨R, hR⟩ : ∃ R, R = bZ P (f + 1) a := ⟨_, rfl⟩
   have hgo : qX (P.getD a mQ) = false -> R = fin (P.getD a mQ) (fu (bZ P f) ((P.getD a mQ).f2.drop 0) (a + 1) []) := fun hb => hR.trans (Hz (P := P) (f := f) h1 hb)
   have hbad : qX (P.getD a mQ) = true -> R = none := fun hb => hR.trans (Ea (P := P) (f := f) (at_ := a) hb)
   rw [PY] at hgo hbad;rw [<- hR];rw [Int.toNat_natCast] at hx0 hx1 hx2;generalize gB P (a : Int) = pg at *;have HX0 := A_ hx0;have Ut := A_ hx1;have xm := A_ hx2;have Wp := A_ hf0;have Yl := A_ hf1;have Xq := A_ hf2;have Kz := A_ Ky;have YY := A_ hgo;have HBAD := A_ hbad;clear h1 ha hm hd hp hl0 hf0 hl1 hf1 hl2 hf2 hx0 hx1 hx2 Ky hgo hbad Xp PY hal hR;go_enter Try.func95, Try.ntmps95
   go_upto_region 4 with (first | (refine jl 3 #[.slice (some ad) P.length c] 29 ?_; intro b3 hg w1 aA hb; have ah := A_ (Sat.je HS.out hg aA hb HB.out.size); have hb' := ay HB.out hb; have bT := A_ hb'; clear HS; clear HB; have HS := ah; have HB := bT; clear ah bT; have hx0 := (Below.cell hb' (World.block_lt_of_cell? w _ HX0.out)).trans HX0.out; have hx1 := (Below.cell hb' (World.block_lt_of_cell? w _ Ut.out)).trans Ut.out; have hx2 := (Below.cell hb' (World.block_lt_of_cell? w _ xm.out)).trans xm.out; have hz3 := HS.out.z 0 rfl 0; clear hg aA hb hb') | (refine jl 8 #[.slice none 0 0, .slice none 0 0, .slice none 0 0] 110 ?_; intro b8 hg w2 aA hb; have ah := A_ (Sat.je HS.out hg aA hb HB.out.size); have hb' := ay HB.out hb; have bT := A_ hb'; clear HS; clear HB; have HS := ah; have HB := bT; clear ah bT; have Gy := HS.out.z 0 rfl 0; have Gz := HS.out.z 0 rfl 1; have zf := HS.out.z 0 rfl 2; have Uu := HS.out.f 0 rfl 0; have Uv := HS.out.f 0 rfl 1; have Uw := HS.out.f 0 rfl 2; clear hg aA hb hb'))
   have ah := A_ (Sat.WS HS.out (.slice A0 pg.f0.length c0) (.slice A1 pg.f1.length c1) (.slice A2 pg.f2.length c2))
   have bT : af (Below w.heap.size w (((w2.setCell ⟨b8, 0, none⟩ (.slice A0 pg.f0.length c0)).setCell ⟨b8, 1, none⟩ (.slice A1 pg.f1.length c1)).setCell ⟨b8, 2, none⟩ (.slice A2 pg.f2.length c2))) := ⟨((HB.out.setCell (p := ⟨b8, 0, none⟩) (HS.out.ge ⟨_, List.mem_cons_self, rfl⟩) _).setCell (p := ⟨b8, 1, none⟩) (HS.out.ge ⟨_, List.mem_cons_self, rfl⟩) _).setCell (p := ⟨b8, 2, none⟩) (HS.out.ge ⟨_, List.mem_cons_self, rfl⟩) _⟩
   clear HS HB hx0 hx1 hx2 hz3 Gy Gz zf Uu Uv Uw;generalize ((w2.setCell ⟨b8, 0, none⟩ (.slice A0 pg.f0.length c0)).setCell ⟨b8, 1, none⟩ (.slice A1 pg.f1.length c1)).setCell ⟨b8, 2, none⟩ (.slice A2 pg.f2.length c2) = w3 at *;have HS := A_ (ah.out.perm (List.Perm.swap _ _ _));have HB := bT;clear ah bT;refine bS (n := 11) (S := fun w' => w'.cell? ⟨b8, 0, none⟩ = some (.slice A0 pg.f0.length c0) /\ w'.cell? ⟨b8, 1, none⟩ = some (.slice A1 pg.f1.length c1)) (ds := []) (bt 11 0) (by kernel_rfl) rfl rfl ⟨(au (Sat.cell (Sat.drew HS.out) (List.mem_of_getElem? (i := 1) rfl)) 0).trans rfl, (au (Sat.cell (Sat.drew HS.out) (List.mem_of_getElem? (i := 1) rfl)) 1).trans rfl⟩ (fun hHeld => ?_);refine aH 1 30 2 ?_;refine aH 5 34 34 ?_;refine fq 2 31 38 hHeld ?_;refine fq 6 35 102 hHeld ?_;refine gQ (σ := Value × Value × Value) 4 (bt 11 127) (fun z => [(29, z.1), (32, z.2.1), (33, z.2.2)]) (fun z w' => Below w.heap.size w w' /\ Sat w' w.heap.size [.box 29 b3 #[.slice (some ad) P.length c], .box 110 b8 #[.slice A0 pg.f0.length c0, .slice A1 pg.f1.length c1, .slice A2 pg.f2.length c2], txt z.2.1 pg.f0, txt z.2.2 []]) ?_ ?_;rotate_left
   ·intro iE
    refine ve 0 4 (some 29) (some 33) 103 118 (fun K hK => ?_) (fun K hK => ?_)
    ·skip
     refine Kd.dO Kd.string (w0 := w) w.heap.size 9 (by rfl) (N := 29) rfl (xs := []) (inner := []) (ok := fun _ => True) (okp := fun _ => False) ?hr (gm.none _ _) (fun _ h => h.elim) trivial (aG HB.out) ((aG HB.out)).size (by simp) ?_
     (case hr => first | (go_simp; done) | (go_simp; rfl))
     intro e0 NJ dx hbb hgb hnb;have lV := A_ hbb;have lN := A_ (Sat.lit (Sat.drew HS.out) dx hgb hnb);clear dx hbb hgb hnb;refine dh 29 hK ⟨(au (Sat.cell lN.out (List.mem_of_getElem? (i := 1) rfl)) 0).trans rfl, (au (Sat.cell lN.out (List.mem_of_getElem? (i := 1) rfl)) 1).trans rfl⟩ (fun hHeld => ?_);refine ve 3 4 (some 32) (some 33) 111 119 (fun K hK => ?_) (fun K hK => ?_)
     ·skip
      refine Kd.aM Kd.string (w0 := w) w.heap.size (by rfl) (.tmp 29) (.tmp 31) 38 9 (.string ⟨#[]⟩) 16 rfl Try.underlying38 dC rfl (by decide) (by omega) e0 [] pg.f0 A0 pg.f0.length c0 (fun _ => True) (fun _ => False) rfl rfl (Sat.sr lN.out 2 rfl) (Kd.aN Wp.out lV.out) (fun _ _ h => h) (fun _ h => h.elim) (fun _ _ => trivial) lV.out (lV.out).size (by have := Kz.out; simp only [List.length_nil]; omega) ?_;intro v0 DT ho hb hg hat;rw [List.nil_append] at ho;have jD := A_ hb;have iA := A_ (Sat.app 2 lN.out rfl ho hg hat);clear ho hb hg hat;refine dh 32 hK ⟨(au (Sat.cell iA.out (List.mem_of_getElem? (i := 1) rfl)) 0).trans rfl, (au (Sat.cell iA.out (List.mem_of_getElem? (i := 1) rfl)) 1).trans rfl⟩ (fun hHeld => ?_);refine gG 4 (some 33) 127 (fun K hK => ?_);refine Kd.dO Kd.string (w0 := w) w.heap.size 9 (by rfl) (N := 33) rfl (xs := []) (inner := []) (ok := fun _ => True) (okp := fun _ => False) ?hr (gm.none _ _) (fun _ h => h.elim) trivial jD.out (jD.out).size (by simp) ?_
      (case hr => first | (go_simp; done) | (go_simp; rfl))
      intro e1 AZ dx hbb hgb hnb;have kD := A_ hbb;have iw := A_ (Sat.lit iA.out dx hgb hnb);clear dx hbb hgb hnb;refine dh 33 hK ⟨(au (Sat.cell iw.out (List.mem_of_getElem? (i := 1) rfl)) 0).trans rfl, (au (Sat.cell iw.out (List.mem_of_getElem? (i := 1) rfl)) 1).trans rfl⟩ (fun hHeld => ?_);exact yA (iE ⟨e0, v0, e1⟩ _ ⟨kD.out, iw.out⟩)
     ·skip
      refine Kd.dO Kd.string (w0 := w) w.heap.size 9 (by rfl) (N := 33) rfl (xs := []) (inner := []) (ok := fun _ => True) (okp := fun _ => False) ?hr (gm.none _ _) (fun _ h => h.elim) trivial lV.out (lV.out).size (by simp) ?_
      (case hr => first | (go_simp; done) | (go_simp; rfl))
      intro e1 DT dx hbb hgb hnb;have jD := A_ hbb;have iA := A_ (Sat.lit lN.out dx hgb hnb);clear dx hbb hgb hnb;refine dh 33 hK ⟨(au (Sat.cell iA.out (List.mem_of_getElem? (i := 1) rfl)) 0).trans rfl, (au (Sat.cell iA.out (List.mem_of_getElem? (i := 1) rfl)) 1).trans rfl⟩ (fun hHeld => ?_);refine gG 3 (some 32) 127 (fun K hK => ?_);refine Kd.aM Kd.string (w0 := w) w.heap.size (by rfl) (.tmp 29) (.tmp 31) 38 9 (.string ⟨#[]⟩) 16 rfl Try.underlying38 dC rfl (by decide) (by omega) e0 [] pg.f0 A0 pg.f0.length c0 (fun _ => True) (fun _ => False) rfl rfl (Sat.sr iA.out 2 rfl) (Kd.aN Wp.out jD.out) (fun _ _ h => h) (fun _ h => h.elim) (fun _ _ => trivial) jD.out (jD.out).size (by have := Kz.out; simp only [List.length_nil]; omega) ?_;intro v0 AZ ho hb hg hat;rw [List.nil_append] at ho;have kD := A_ hb;have iw := A_ (Sat.app 2 iA.out rfl ho hg hat);clear ho hb hg hat;refine dh 32 hK ⟨(au (Sat.cell iw.out (List.mem_of_getElem? (i := 1) rfl)) 0).trans rfl, (au (Sat.cell iw.out (List.mem_of_getElem? (i := 1) rfl)) 1).trans rfl⟩ (fun hHeld => ?_);exact yA (iE ⟨e0, v0, e1⟩ _ ⟨kD.out, iw.out⟩)
    ·skip
     refine Kd.dO Kd.string (w0 := w) w.heap.size 9 (by rfl) (N := 33) rfl (xs := []) (inner := []) (ok := fun _ => True) (okp := fun _ => False) ?hr (gm.none _ _) (fun _ h => h.elim) trivial (aG HB.out) ((aG HB.out)).size (by simp) ?_
     (case hr => first | (go_simp; done) | (go_simp; rfl))
     intro e1 NJ dx hbb hgb hnb;have lV := A_ hbb;have lN := A_ (Sat.lit (Sat.drew HS.out) dx hgb hnb);clear dx hbb hgb hnb;refine dh 33 hK ⟨(au (Sat.cell lN.out (List.mem_of_getElem? (i := 1) rfl)) 0).trans rfl, (au (Sat.cell lN.out (List.mem_of_getElem? (i := 1) rfl)) 1).trans rfl⟩ (fun hHeld => ?_);refine gG 0 (some 29) 119 (fun K hK => ?_);refine Kd.dO Kd.string (w0 := w) w.heap.size 9 (by rfl) (N := 29) rfl (xs := []) (inner := []) (ok := fun _ => True) (okp := fun _ => False) ?hr (gm.none _ _) (fun _ h => h.elim) trivial lV.out (lV.out).size (by simp) ?_
     (case hr => first | (go_simp; done) | (go_simp; rfl))
     intro e0 DT dx hbb hgb hnb;have jD := A_ hbb;have iA := A_ (Sat.lit lN.out dx hgb hnb);clear dx hbb hgb hnb;refine dh 29 hK ⟨(au (Sat.cell iA.out (List.mem_of_getElem? (i := 1) rfl)) 0).trans rfl, (au (Sat.cell iA.out (List.mem_of_getElem? (i := 1) rfl)) 1).trans rfl⟩ (fun hHeld => ?_);refine gG 3 (some 32) 127 (fun K hK => ?_);refine Kd.aM Kd.string (w0 := w) w.heap.size (by rfl) (.tmp 29) (.tmp 31) 38 9 (.string ⟨#[]⟩) 16 rfl Try.underlying38 dC rfl (by decide) (by omega) e0 [] pg.f0 A0 pg.f0.length c0 (fun _ => True) (fun _ => False) rfl rfl (Sat.sr iA.out 3 rfl) (Kd.aN Wp.out jD.out) (fun _ _ h => h) (fun _ h => h.elim) (fun _ _ => trivial) jD.out (jD.out).size (by have := Kz.out; simp only [List.length_nil]; omega) ?_;intro v0 AZ ho hb hg hat;rw [List.nil_append] at ho;have kD := A_ hb;have iw := A_ (Sat.app 3 iA.out rfl ho hg hat);clear ho hb hg hat;refine dh 32 hK ⟨(au (Sat.cell iw.out (List.mem_of_getElem? (i := 1) rfl)) 0).trans rfl, (au (Sat.cell iw.out (List.mem_of_getElem? (i := 1) rfl)) 1).trans rfl⟩ (fun hHeld => ?_);exact yA (iE ⟨e0, v0, e1⟩ _ ⟨kD.out, Sat.perm iw.out (((List.Perm.swap _ _ _).cons _).cons _)⟩)
   rintro ⟨e0, v0, e1⟩ w5 ⟨hb, hs⟩;obtain ⟨NK, NL, rfl⟩ := Kd.ak (Sat.sr hs 2 rfl)
   have hHeld : (w5.cell? ⟨b8, 0, none⟩ = some (.slice A0 pg.f0.length c0)) /\ (w5.cell? ⟨b8, 1, none⟩ = some (.slice A1 pg.f1.length c1)) := ⟨(au (Sat.cell hs (List.mem_of_getElem? (i := 1) rfl)) 0).trans rfl, (au (Sat.cell hs (List.mem_of_getElem? (i := 1) rfl)) 1).trans rfl⟩
   have Tu := A_ hb;have Tv := A_ hs;clear hb hs;refine uq ?_;refine gG 7 (some 36) 255 (fun K hK => ?_);refine Kd.aM Kd.string (w0 := w) w.heap.size (by rfl) (.tmp 33) (.tmp 35) 38 9 (.string ⟨#[]⟩) 16 rfl Try.underlying38 dC rfl (by decide) (by omega) e1 [] pg.f1 A1 pg.f1.length c1 (fun _ => True) (fun _ => False) rfl rfl (Sat.sr Tv.out 3 rfl) (Kd.aN Yl.out Tu.out) (fun _ _ h => h) (fun _ h => h.elim) (fun _ _ => trivial) Tu.out Tu.out.size (by have := Kz.out; simp only [List.length_nil]; omega) ?_;intro v1 w6 ho hb hg hat;rw [List.nil_append] at ho;obtain ⟨vO, rD, rfl⟩ := Kd.ak ho;have ah := A_ hb;have bT := A_ (Sat.app 3 Tv.out rfl ho hg hat);clear ho hb hg hat Tu Tv;have Tu := ah;have Tv := bT;clear ah bT;refine dh 36 hK ⟨(au (Sat.cell Tv.out (List.mem_of_getElem? (i := 1) rfl)) 0).trans rfl, (au (Sat.cell Tv.out (List.mem_of_getElem? (i := 1) rfl)) 1).trans rfl⟩ (fun hHeld => ?_);refine aH 8 37 511 ?_;refine gG 9 (some 38) 1023 (fun K hK => ?_);refine wK 38 #[.slice NK pg.f0.length NL, .slice vO pg.f1.length rD, .slice none 0 0] 96 ?_;intro g hg w7 aA hb;have Ym := A_ (Sat.je Tv.out hg aA hb (by have := Tu.out.size; omega));have HB7 := A_ (ay Tu.out hb);clear hg aA hb Tv Tu;refine dh 38 hK ⟨(au (Sat.cell Ym.out (List.mem_of_getElem? (i := 2) rfl)) 0).trans rfl, (au (Sat.cell Ym.out (List.mem_of_getElem? (i := 2) rfl)) 1).trans rfl⟩ (fun hHeld => ?_);refine aH 10 9 2047 ?_;refine dL (by kernel_rfl) ?_;have HS := A_ (BA (E := 70) (X := [.box 29 b3 #[.slice (some ad) P.length c], .box 110 b8 #[.slice A0 pg.f0.length c0, .slice A1 pg.f1.length c1, .slice A2 pg.f2.length c2]]) Ym.out);have HB := HB7;clear Ym HB7 hHeld;have hz3 := HS.out.z 4 rfl 0;have Gy := HS.out.z 5 rfl 0;have Gz := HS.out.z 5 rfl 1;have zf := HS.out.z 5 rfl 2
   cases hbd : qX pg with
   | true =>
    have HR := A_ (HBAD.out hbd)
    have hb1 : 4 < pg.f0.length \/ pg.f1.length ≠ pg.f0.length \/ (pg.f2.length ≠ 0 /\ pg.f2.length ≠ pg.f0.length + 1) := by
     unfold qX at hbd;simp only [Bool.or_eq_true, Bool.and_eq_true, decide_eq_true_eq, bne_iff_ne] at hbd;omega
    by_cases q1 : 4 < pg.f0.length
    ·have t1 := lQ (4 < (pg.f0.length : Int))
     have Xr : (4 < pg.f0.length) = True := eq_true q1;clear q1 hb1 hbd;go_wp2
     go_ret2
     exact ⟨HB.out, .inl ⟨HR.out, rfl⟩⟩
    ·have t1 := kS (4 < (pg.f0.length : Int))
     have Xr : (4 < pg.f0.length) = False := eq_false q1
     by_cases q2 : pg.f1.length = pg.f0.length
     ·have q3 : pg.f2.length ≠ 0 /\ pg.f2.length ≠ pg.f0.length + 1 := by omega
      have t2 : ((pg.f1.length : Int) != (pg.f0.length : Int)) = false := MV (by omega);have t3 : ((pg.f2.length : Int) != 0) = true := Tc (by omega);have t4 : ((pg.f2.length : Int) != (pg.f0.length : Int) + 1) = true := Td (by omega);have t2b : (pg.f1.length != pg.f0.length) = false := xC (by omega);have Wq : (pg.f2.length != 0) = true := zx (by omega);have Ux : (pg.f2.length != pg.f0.length + 1) = true := zx (by omega);have m0 : pg.f0.length <= 4 := by omega
      clear q1 q2 q3 hb1 hbd;go_wp2
      go_ret2
      exact ⟨HB.out, .inl ⟨HR.out, rfl⟩⟩
     ·have t2 : ((pg.f1.length : Int) != (pg.f0.length : Int)) = true := Rw (by omega)
      have t2b : (pg.f1.length != pg.f0.length) = true := zx (by omega);clear q1 q2 hb1 hbd;go_wp2
      go_ret2
      exact ⟨HB.out, .inl ⟨HR.out, rfl⟩⟩
   | false =>
    obtain ⟨q1, q2, q3⟩ := Ec hbd;have HR := A_ (YY.out hbd);have t1 := kS (4 < (pg.f0.length : Int));have Xr : (4 < pg.f0.length) = False := eq_false (by omega);have t2 : ((pg.f1.length : Int) != (pg.f0.length : Int)) = false := MV (by omega);have t2b : (pg.f1.length != pg.f0.length) = false := xC (by omega);have m0 : pg.f0.length <= 4 := by omega
    have zZ := A_ (show a + 1 <= P.length by have := HA.out; omega);have ham : a < 1000000000000 := by have := HA.out; omega
    have Sn := A_ (show pg.f2.length <= 5 by omega)
    by_cases q4 : pg.f2.length = 0
    ·have t3 : ((pg.f2.length : Int) != 0) = false := WU (by omega)
     have Wq : (pg.f2.length != 0) = false := xC (by omega);clear q1 q2 q3 q4 hbd
     go_upto_region 9 with fail
     go_loopg [10, 73] pg.f2.length (fun kq Ws u73 w' => ∃ (i next : Nat) (acc : List NT) (cv : Value), Ws = .int .i64 (next : Int) /\ u73 = .int .i64 (i : Int) /\ af (kq + i = pg.f2.length) /\ af (acc.length = i) /\ af (R = fin pg (fu (bZ P f) (pg.f2.drop i) next (acc.map NT.erase))) /\ af (next <= P.length) /\ af (Sat w' w.heap.size (LL 96 70 g (.slice NK pg.f0.length NL) (.slice vO pg.f1.length rD) cv pg.f0 pg.f1 [.box 29 b3 #[.slice (some ad) P.length c], .box 110 b8 #[.slice A0 pg.f0.length c0, .slice A1 pg.f1.length c1, .slice A2 pg.f2.length c2]] acc)) /\ af (Below w.heap.size w w'))
     case atStart => exact ⟨0, a + 1, [], .slice none 0 0, by first | rfl | go_num | (simp; done), by first | rfl | (simp; done), ⟨Nat.add_zero _⟩, ⟨rfl⟩, HR, zZ, HS, HB⟩
     case round =>
      clear HR HS HB hz3 Gy Gz zf zZ;obtain ⟨i, next, acc, cv, rfl, rfl, HK, PZ, HR, DU, HS, HB⟩ := hrel;have hz3 := HS.out.z 4 rfl 0;have ci := bV (0 <= (i : Int))
      by_cases hi : i < pg.f2.length
      ·have ce := lQ ((i : Int) < (pg.f2.length : Int))
       have zg : (i < pg.f2.length) = True := eq_true hi;have hi5 : i <= 5 := by have := Sn.out; omega
       have Uy := A_ hi5;have HI := A_ hi;have hnx : next <= 1000000000000 := Nat.le_trans DU.out Us;obtain ⟨YZ, hA2, hk0⟩ := Kd.qY Xq.out (i : Int) (by omega) (by omega);subst hA2;rw [Int.toNat_natCast] at hk0;have hks : pg.f2[i]? = some (rd pg.f2 (i : Int)) := by unfold rd; rw [Int.toNat_natCast, List.getD_eq_getElem?_getD, List.getElem?_eq_getElem hi]; rfl
       generalize rd pg.f2 (i : Int) = k at hk0 hks;have hkz := (Below.cell HB.out (World.block_lt_of_cell? w _ hk0)).trans hk0;have jw := A_ hks;clear hk0 hks hi
       by_cases hkn : k = (next : Int)
       ·subst hkn
        cases hrs : bZ P f next with
        | none =>
         have jP := A_ hrs;have HE := A_ (sN HR.out jw.out rfl hrs);have tm : decide ((-1 : Int) < 0) = true := by decide
         clear hrs
         go_wp2_with (go_at_call 95; (with_reducible refine (ih (d + 1) (by have := HD.out; omega) (by omega) next (some ad) c _ (Kd.aN HP.out HB.out) HM.out DU.out).mono ?_); rintro e w5 ⟨hb, hr⟩; rw [jP.out] at hr; obtain ⟨-, rfl⟩ := hr.resolve_right (by rintro ⟨_, _, h, _⟩; cases h); have bT := A_ (ay HB.out hb); clear HB; have HB := bT; clear bT hb hr)
         go_ret2
         exact ⟨HB.out, .inl ⟨HE.out, rfl⟩⟩
        | some tn =>
         obtain ⟨t, n⟩ := tn;have jP := A_ hrs;have z8 := A_ (j5 f next t n hrs);have HE := A_ (xB HR.out jw.out rfl hrs);have tn0 := kS ((n : Int) < 0);clear hrs
         go_wp2_with (first | (go_at_call 95; (with_reducible refine (ih (d + 1) (by have := HD.out; omega) (by omega) next (some ad) c _ (Kd.aN HP.out HB.out) HM.out DU.out).mono ?_); rintro e w5 ⟨hb, hr⟩; rw [jP.out] at hr; obtain ⟨nt, n9, h9, rfl, hs⟩ := hr.resolve_left (by rintro ⟨h, _⟩; cases h); injection h9 with h9; injection h9 with h9 h8; subst h9; subst h8; have ah := A_ (OL HS.out hb HB.out.size hs); have bT := A_ (ay HB.out hb); clear HS; clear HB; have HS := ah; have HB := bT; clear ah bT; have Y0 := HS.out.z 0 rfl 2; clear hb hr hs) | ((with_reducible refine bP (b := .append) (xs := #[.tmp 94, .tmp 96]) rfl ?_); at_builtin; refine Kd.xE dZ (w0 := w) w.heap.size rfl (.tmp 94) (.tmp 96) 94 70 (.pointer none) 8 rfl jm kY rfl (by decide) (by omega) cv (acc.map NT.p) nt.p [bu nt.p] (fun _ => True) (fun _ => False) rfl rfl ?aP (fun _ h => h.elim) ?aF ?aO ?aB ?aS ?aL ?_; (case aP => exact rfl); (case aB => exact HB.out); (case aF => exact fun _ _ => trivial); (case aO => exact Bw (HS.out.ok _ (List.mem_of_getElem? (i := 3) rfl))); (case aS => exact HB.out.size); (case aL => rw [List.length_map]; have := PZ.out; have := Uy.out; omega); intro cv' w6 ho hb hg hat; obtain ⟨Aq, nq, cq, rfl⟩ := FI ho; have ah := A_ (FJ (x := 0) HS.out ho hg hat); have bT := A_ hb; clear HS; clear HB; have HS := ah; have HB := bT; clear ah bT; have Uz := HS.out.z 0 rfl 2; have UA := HS.out.f 0 rfl 2; clear ho hb hg hat))
         go_roundg (pg.f2.length - (i + 1))
         case measure => have := HK.out; have := HI.out; omega
         case rel => exact ⟨i + 1, n, acc ++ [nt], .slice Aq nq cq, by first | rfl | go_num | (simp; done), by first | rfl | go_num | (simp; done), ⟨by have := HK.out; have := HI.out; omega⟩, ⟨by rw [List.length_append, PZ.out]; rfl⟩, ⟨by rw [List.map_append]; exact HE.out⟩, ⟨z8.out.2⟩, ⟨FL HS.out⟩, ⟨HB.out.setCell (p := ⟨g, 2, none⟩) (HS.out.ge ⟨_, List.mem_cons_self, rfl⟩) _⟩⟩
       ·have HE := A_ (sM HR.out jw.out hkn)
        have tk : (k != (next : Int)) = true := bne_iff_ne.2 hkn;clear hkn;go_wp2
        go_ret2
        exact ⟨HB.out, .inl ⟨HE.out, rfl⟩⟩
      ·have ce := kS ((i : Int) < (pg.f2.length : Int))
       have zg : (i < pg.f2.length) = False := eq_false hi;have HE := A_ (vg HR.out (by omega));clear hi;go_wp2
       go_ret2
       exact ⟨HB.out, .inr ⟨.mk g (.slice NK pg.f0.length NL) (.slice vO pg.f1.length rD) cv pg.f0 pg.f1 acc, next, by rw [HE.out, NT.erase, aC], rfl, FM HS.out⟩⟩
    ·have t3 : ((pg.f2.length : Int) != 0) = true := Tc (by omega)
     have Wq : (pg.f2.length != 0) = true := zx (by omega);have t4 : ((pg.f2.length : Int) != (pg.f0.length : Int) + 1) = false := Te (by omega);have Ux : (pg.f2.length != pg.f0.length + 1) = false := xC (by omega);clear q1 q2 q3 q4 hbd
     go_upto_region 9 with fail
     go_loopg [10, 73] pg.f2.length (fun kq Ws u73 w' => ∃ (i next : Nat) (acc : List NT) (cv : Value), Ws = .int .i64 (next : Int) /\ u73 = .int .i64 (i : Int) /\ af (kq + i = pg.f2.length) /\ af (acc.length = i) /\ af (R = fin pg (fu (bZ P f) (pg.f2.drop i) next (acc.map NT.erase))) /\ af (next <= P.length) /\ af (Sat w' w.heap.size (LL 96 70 g (.slice NK pg.f0.length NL) (.slice vO pg.f1.length rD) cv pg.f0 pg.f1 [.box 29 b3 #[.slice (some ad) P.length c], .box 110 b8 #[.slice A0 pg.f0.length c0, .slice A1 pg.f1.length c1, .slice A2 pg.f2.length c2]] acc)) /\ af (Below w.heap.size w w'))
     case atStart => exact ⟨0, a + 1, [], .slice none 0 0, by first | rfl | go_num | (simp; done), by first | rfl | (simp; done), ⟨Nat.add_zero _⟩, ⟨rfl⟩, HR, zZ, HS, HB⟩
     case round =>
      clear HR HS HB hz3 Gy Gz zf zZ;obtain ⟨i, next, acc, cv, rfl, rfl, HK, PZ, HR, DU, HS, HB⟩ := hrel;have hz3 := HS.out.z 4 rfl 0;have ci := bV (0 <= (i : Int))
      by_cases hi : i < pg.f2.length
      ·have ce := lQ ((i : Int) < (pg.f2.length : Int))
       have zg : (i < pg.f2.length) = True := eq_true hi;have hi5 : i <= 5 := by have := Sn.out; omega
       have Uy := A_ hi5;have HI := A_ hi;have hnx : next <= 1000000000000 := Nat.le_trans DU.out Us;obtain ⟨YZ, hA2, hk0⟩ := Kd.qY Xq.out (i : Int) (by omega) (by omega);subst hA2;rw [Int.toNat_natCast] at hk0;have hks : pg.f2[i]? = some (rd pg.f2 (i : Int)) := by unfold rd; rw [Int.toNat_natCast, List.getD_eq_getElem?_getD, List.getElem?_eq_getElem hi]; rfl
       generalize rd pg.f2 (i : Int) = k at hk0 hks;have hkz := (Below.cell HB.out (World.block_lt_of_cell? w _ hk0)).trans hk0;have jw := A_ hks;clear hk0 hks hi
       by_cases hkn : k = (next : Int)
       ·subst hkn
        cases hrs : bZ P f next with
        | none =>
         have jP := A_ hrs;have HE := A_ (sN HR.out jw.out rfl hrs);have tm : decide ((-1 : Int) < 0) = true := by decide
         clear hrs
         go_wp2_with (go_at_call 95; (with_reducible refine (ih (d + 1) (by have := HD.out; omega) (by omega) next (some ad) c _ (Kd.aN HP.out HB.out) HM.out DU.out).mono ?_); rintro e w5 ⟨hb, hr⟩; rw [jP.out] at hr; obtain ⟨-, rfl⟩ := hr.resolve_right (by rintro ⟨_, _, h, _⟩; cases h); have bT := A_ (ay HB.out hb); clear HB; have HB := bT; clear bT hb hr)
         go_ret2
         exact ⟨HB.out, .inl ⟨HE.out, rfl⟩⟩
        | some tn =>
         obtain ⟨t, n⟩ := tn;have jP := A_ hrs;have z8 := A_ (j5 f next t n hrs);have HE := A_ (xB HR.out jw.out rfl hrs);have tn0 := kS ((n : Int) < 0);clear hrs
         go_wp2_with (first | (go_at_call 95; (with_reducible refine (ih (d + 1) (by have := HD.out; omega) (by omega) next (some ad) c _ (Kd.aN HP.out HB.out) HM.out DU.out).mono ?_); rintro e w5 ⟨hb, hr⟩; rw [jP.out] at hr; obtain ⟨nt, n9, h9, rfl, hs⟩ := hr.resolve_left (by rintro ⟨h, _⟩; cases h); injection h9 with h9; injection h9 with h9 h8; subst h9; subst h8; have ah := A_ (OL HS.out hb HB.out.size hs); have bT := A_ (ay HB.out hb); clear HS; clear HB; have HS := ah; have HB := bT; clear ah bT; have Y0 := HS.out.z 0 rfl 2; clear hb hr hs) | ((with_reducible refine bP (b := .append) (xs := #[.tmp 94, .tmp 96]) rfl ?_); at_builtin; refine Kd.xE dZ (w0 := w) w.heap.size rfl (.tmp 94) (.tmp 96) 94 70 (.pointer none) 8 rfl jm kY rfl (by decide) (by omega) cv (acc.map NT.p) nt.p [bu nt.p] (fun _ => True) (fun _ => False) rfl rfl ?aP (fun _ h => h.elim) ?aF ?aO ?aB ?aS ?aL ?_; (case aP => exact rfl); (case aB => exact HB.out); (case aF => exact fun _ _ => trivial); (case aO => exact Bw (HS.out.ok _ (List.mem_of_getElem? (i := 3) rfl))); (case aS => exact HB.out.size); (case aL => rw [List.length_map]; have := PZ.out; have := Uy.out; omega); intro cv' w6 ho hb hg hat; obtain ⟨Aq, nq, cq, rfl⟩ := FI ho; have ah := A_ (FJ (x := 0) HS.out ho hg hat); have bT := A_ hb; clear HS; clear HB; have HS := ah; have HB := bT; clear ah bT; have Uz := HS.out.z 0 rfl 2; have UA := HS.out.f 0 rfl 2; clear ho hb hg hat))
         go_roundg (pg.f2.length - (i + 1))
         case measure => have := HK.out; have := HI.out; omega
         case rel => exact ⟨i + 1, n, acc ++ [nt], .slice Aq nq cq, by first | rfl | go_num | (simp; done), by first | rfl | go_num | (simp; done), ⟨by have := HK.out; have := HI.out; omega⟩, ⟨by rw [List.length_append, PZ.out]; rfl⟩, ⟨by rw [List.map_append]; exact HE.out⟩, ⟨z8.out.2⟩, ⟨FL HS.out⟩, ⟨HB.out.setCell (p := ⟨g, 2, none⟩) (HS.out.ge ⟨_, List.mem_cons_self, rfl⟩) _⟩⟩
       ·have HE := A_ (sM HR.out jw.out hkn)
        have tk : (k != (next : Int)) = true := bne_iff_ne.2 hkn;clear hkn;go_wp2
        go_ret2
        exact ⟨HB.out, .inl ⟨HE.out, rfl⟩⟩
      ·have ce := kS ((i : Int) < (pg.f2.length : Int))
       have zg : (i < pg.f2.length) = False := eq_false hi;have HE := A_ (vg HR.out (by omega));clear hi;go_wp2
       go_ret2
       exact ⟨HB.out, .inr ⟨.mk g (.slice NK pg.f0.length NL) (.slice vO pg.f1.length rD) cv pg.f0 pg.f1 acc, next, by rw [HE.out, NT.erase, aC], rfl, FM HS.out⟩⟩
end Go.Proofs.Ytoddejmlcnbdmaa.Tree
namespace Go.Proofs.Ytoddejmlcnbdmaa.Fn
def bf.f (l0 : List ByteArray) : Option (List ByteArray) := (some (([] : List ByteArray) : List ByteArray)).bind fun qw => (if qw.length + l0.length < 8796093022208 then (some (qw ++ l0)) else (none))
theorem bf.TI (w : World) (a : Option Addr) (n c : Nat) : (binOp .eql 38 (.slice a n c) (.slice none 0 0)).run Try.prog w = .ok (.bool a.isNone) w := Gen.Lr w _ _ a n c Try.underlying38
attribute [local go_sem] bf.TI
theorem bf.calls (A0 : Option Addr) (c0 : Nat) (l0 : List ByteArray) (r : List ByteArray) (w : World) (hr0 : Kd.C Kd.string w A0 l0.length l0) (hc0 : l0.length <= c0) (h : bf.f l0 = some r) :
  Calls Try.prog 74 #[.slice A0 l0.length c0] w fun e w' => ∃ ja : Value, e = .returned (ja) /\ Kd.R Kd.string 9 w' w.heap.size (fun _ => True) ja r /\ Below w.heap.size w w' := by
 have nJ := A_ hr0;have qP := A_ hc0;clear hr0 hc0;have HB := A_ (Below.refl w.heap.size w);have H : ((some (([] : List ByteArray) : List ByteArray)).bind fun qw => (if qw.length + l0.length < 8796093022208 then (some (qw ++ l0)) else (none))) = some r := h;clear h
 obtain ⟨qw, uQ⟩ : ∃ y_ : List ByteArray, y_ = (([] : List ByteArray)) := ⟨_, rfl⟩
 replace H : (if qw.length + l0.length < 8796093022208 then (some (qw ++ l0)) else (none)) = some r := by first | (rw [uQ]; with_reducible exact H) | (have kN := (Option.bind_some _ _).symm.trans H; rw [uQ]; with_reducible exact kN) | (have kN := (Option.bind_some _ _).symm.trans H; with_reducible exact kN) | with_reducible exact H | (rw [uQ]; exact H) | exact H
 have CO := A_ uQ;clear uQ
 by_cases c2 : qw.length + l0.length < 8796093022208
 ·rw [if_pos c2] at H
  have UB := A_ c2;clear c2
  obtain ⟨P5, uR⟩ : ∃ y_ : List ByteArray, y_ = (qw ++ l0) := ⟨_, rfl⟩
  replace H : (some P5) = some r := by first | (rw [uR]; with_reducible exact H) | (have kN := (Option.bind_some _ _).symm.trans H; rw [uR]; with_reducible exact kN) | (have kN := (Option.bind_some _ _).symm.trans H; with_reducible exact kN) | with_reducible exact H | (rw [uR]; exact H) | exact H
  have I7 := A_ uR;clear uR;obtain rfl := Option.some.inj H
  rcases A0 with _ | Y2
  ·have Y5 : l0 = [] := by
    rcases Nat.eq_zero_or_pos l0.length with h_ | h_
    ·exact List.length_eq_zero_iff.1 h_
    ·obtain ⟨_, _, P6⟩ := nJ.out
     obtain ⟨Y2, P6, _⟩ := P6 h_
     cases P6
   subst Y5;have Y6 : P5 = [] := by rw [I7.out, CO.out]; rfl
   subst Y6;go_enter Try.func74, Try.ntmps74;go_wp2;go_ret;exact ⟨_, rfl, Kd.xz _ _ _ _ _, HB.out⟩
  go_enter Try.func74, Try.ntmps74
  go_wp2_with (first | ((with_reducible refine iK (N := 5) rfl ?_); refine Kd.Bf Kd.string _ 9 ?hg (N := 5) ?hd (xs := ([] : List ByteArray)) (inner := []) (ok := fun _ => True) (okp := fun _ => True) ?hr ?hp (fun _ hk => hk) trivial (Below.refl _ _) (Nat.le_refl _) (by simp) ?_; (case hd => rfl); (case hg => rfl); (case hr => first | (go_simp; done) | (go_simp; rfl)); (case hp => exact (gm.none _ _)); intro UC w3 oO hb NM sF; clear NM sF; (first | rw [<- CO.out] at oO | (simp only [Int.reduceToNat] at oO; rw [<- CO.out] at oO)); have I8 := A_ (Kd.gW oO (Dw HB.out)); replace HB := A_ (Wm HB.out hb); clear hb oO) | ((with_reducible refine bP (b := .append) (xs := #[.tmp 5, .tmp 6]) rfl ?_); at_builtin; refine Kd.eY Kd.string (w0 := w) w.heap.size rfl (.tmp 5) (.tmp 6) 38 9 (.string ⟨#[]⟩) 16 rfl Try.underlying38 dC rfl (by decide) (by omega) UC qw l0 _ _ _ (fun _ => True) (fun _ => False) rfl rfl ?aO ?aR (fun _ _ h => h) (fun _ h => h.elim) ?aF ?aB ?aS ?aL ?_; (case aR => refine TH ?_; exact (Kd.aN nJ.out HB.out)); (case aB => exact (Be HB.out)); (case aF => exact (fun _ _ => trivial)); (case aO => exact (tY I8.out)); (case aS => exact (Dw HB.out)); (case aL => have := UB.out; omega); intro v183 w5 ho hb hg hat; rw [<- I7.out] at ho; have CP := A_ (hb); have ah := A_ (ho); clear HB; clear I8; have HB := CP; have P7 := ah; clear CP ah; clear ho hb hg hat))
  go_ret;exact ⟨_, Lx, by (with_reducible repeat (first | apply Kd.pE | apply Kd.pF | apply Kd.sI)); exact P7.out, by repeat (first | (with_reducible first | exact HB.out | apply bz | apply aj | apply bD) | exact HB.out)⟩
 ·rw [if_neg c2] at H
  exact absurd H (by simp)
end Go.Proofs.Ytoddejmlcnbdmaa.Fn
namespace Go.Proofs.Ytoddejmlcnbdmaa.Tree
open Go.Proofs.Ytoddejmlcnbdmaa.Fn
theorem qc {l : List ByteArray} (h : l.length < 8796093022208) : bf.f l = some l := by
 unfold bf.f;simp only [Option.bind_some, List.length_nil, Nat.zero_add];rw [if_pos h];rfl
theorem Sat.eG {W w1 : World} {base : Nat} {L : List Ck} {v : Value} {l : List ByteArray} (h : Sat W base L) (ho : Kd.string.R 9 w1 W.heap.size (fun _ => True) v l) (hb : Below W.heap.size W w1) (hbase : base <= W.heap.size) : Sat w1 base (L ++ [txt v l]) :=
 h.behind hb hbase (Sat.one (wo ho))
theorem vw {w : World} {g : Nat} {o : Obj} (h : w.heap[g]? = some o) {p : Addr} (hp : g ≠ p.block) (u : Value) : (w.setCell p u).heap[g]? = some o := (Below.heap_setCell w p u g hp).trans h
theorem nO.calls (P : List bC) (hN : P.length <= 1000000000000) (w0 : World) (A : Option Addr) (c : Nat) (hp : Kd.C j4 w0 A P.length P) (hm : ∀ p ∈ P, p.f0.length <= 1000000000000 /\ p.f1.length <= 1000000000000 /\ p.f2.length <= 1000000000000) : ∀ (f next : Nat), P.length < next + f -> next <= P.length -> ∀ (gb : Nat) (w : World), Below w0.heap.size w0 w -> w0.heap.size <= gb -> w.heap[gb]? = some (.cells #[.slice A P.length c, .int .i64 (next : Int)] 121 (0, 0)) ->
  Calls Try.prog 97 #[bu gb] w (Ti w0 w gb (.slice A P.length c) (bZ P f next)) := by
 intro f
 induction f with
 | zero =>
  intro next hf hn;omega
 | succ f ih =>
  intro next hf hn gb w hb hgb hg;have HB := A_ hb;have HG := A_ hg;have Fs := A_ hgb;have NN := A_ (gU hg);have hz0 := (au hg 0).trans rfl;have hz1 := (au hg 1).trans rfl
  by_cases h1 : next = P.length
  ·subst h1
   have HR := A_ (zw (P := P) (f := f + 1) (Nat.le_refl _));clear hf hn hb hgb hg;go_enter Try.func97, Try.ntmps97;go_wp2
   go_quiet (fail)
   go_wp2
   go_ret2
   exact ⟨aj HB.out _, .inl ⟨HR.out, rfl⟩⟩
  ·have hal : next < P.length := by omega
   have Yj : ((next : Int) == (P.length : Int)) = false := by rw [beq_eq_false_iff_ne]; omega
   have Yk : (next == P.length) = false := by rw [beq_eq_false_iff_ne]; omega
   have c1d : (next = P.length) = False := eq_false h1;have c1e : (next < P.length) = True := eq_true hal;have c1f := bV ((next : Int) < (P.length : Int));have c1g := bV (0 <= (next : Int));have Us : P.length <= 1000000000000 := hN;have hnx : next < 1000000000000 := by omega
   have HA := A_ hal;have HF := A_ hf;have Ky := hm _ (List.getElem_mem (l := P) hal);have Xp : P[next] = gB P (next : Int) := by unfold gB; rw [Int.toNat_natCast, List.getD_eq_getElem?_getD, List.getElem?_eq_getElem hal]; rfl
   have PY : P.getD next mQ = gB P (next : Int) := by unfold gB; rw [Int.toNat_natCast]
   rw [Xp] at Ky;obtain ⟨ad, A0, c0, A1, c1, A2, c2, YX, hx0, hx1, hx2, hl0, hf0, hl1, hf1, hl2, hf2⟩ := FH hp (next : Int) (by omega) (by omega);subst YX
   obtain ⟨R, hR⟩ : ∃ R, R = bZ P (f + 1) next := ⟨_, rfl⟩
   have hgo : qX (P.getD next mQ) = false -> R = fin (P.getD next mQ) (fu (bZ P f) ((P.getD next mQ).f2.drop 0) (next + 1) []) := fun hb => hR.trans (Hz (P := P) (f := f) (by omega) hb)
   have hbad : qX (P.getD next mQ) = true -> R = none := fun hb => hR.trans (Ea (P := P) (f := f) (at_ := next) hb)
   rw [PY] at hgo hbad;rw [<- hR];rw [Int.toNat_natCast] at hx0 hx1 hx2;generalize gB P (next : Int) = pg at *;have HX0 := A_ hx0;have Ut := A_ hx1;have xm := A_ hx2;have Wp := A_ hf0;have Yl := A_ hf1;have Xq := A_ hf2;have qP := A_ hl0;have Aa := A_ hl1;have Kz := A_ Ky;have YY := A_ hgo;have HBAD := A_ hbad;clear h1 hn hf hl0 hf0 hl1 hf1 hl2 hf2 hx0 hx1 hx2 Ky hgo hbad Xp PY hal hR hb hgb hg;go_enter Try.func97, Try.ntmps97;go_wp2
   go_quiet (fail)
   go_wp2;generalize hW : World.drewN w _ = w1;have ah := A_ (show Below w0.heap.size w0 w1 by rw [<- hW]; exact aj HB.out _);have bT := A_ (show w1.heap[gb]? = some (.cells #[.slice (some ad) P.length c, .int .i64 (next : Int)] 121 (0, 0)) by rw [<- hW]; exact HG.out);have mU := A_ (show Kept w w1 (fun k => k = gb) by rw [<- hW]; exact (Kept.refl w _).drewN _);have HS := A_ (Sat.nil w1 w.heap.size);clear HB; clear HG; clear hW hz0 hz1;have HB := ah;have HG := bT;clear ah bT;refine bS (n := 12) (S := fun w' => w'.cell? ⟨gb, 0, none⟩ = some (.slice (some ad) P.length c) /\ w'.cell? ⟨gb, 1, none⟩ = some (.int .i64 (next : Int)) /\ w'.cell? (ad.add (next * 3)) = some (.slice A0 pg.f0.length c0) /\ w'.cell? ⟨(ad.add (next * 3)).block, (ad.add (next * 3)).off + 1, none⟩ = some (.slice A1 pg.f1.length c1) /\ w'.cell? ⟨(ad.add (next * 3)).block, (ad.add (next * 3)).off + 2, none⟩ = some (.slice A2 pg.f2.length c2)) (ds := [11]) (bt 12 0) (by kernel_rfl) rfl rfl ⟨(au HG.out 0).trans rfl, (au HG.out 1).trans rfl, (Below.cell (aG HB.out) (World.block_lt_of_cell? w0 _ HX0.out)).trans HX0.out, (Below.cell (aG HB.out) (World.block_lt_of_cell? w0 _ Ut.out)).trans Ut.out, (Below.cell (aG HB.out) (World.block_lt_of_cell? w0 _ xm.out)).trans xm.out⟩ (fun hHeld => ?_);refine aH 0 20 1 ?_;refine aH 1 21 3 ?_;refine aH 2 22 7 ?_;refine aH 4 24 23 ?_;refine aH 5 25 55 ?_;refine aH 6 26 119 ?_;refine fq 3 23 127 hHeld ?_;refine fq 7 27 255 hHeld ?_;refine aH 8 28 511 ?_;refine fq 9 29 1023 hHeld ?_;refine gG 10 (some 4) 2047 (fun K hK => ?_);refine wK 4 #[.slice none 0 0, .slice none 0 0, .slice none 0 0] 110 ?_;intro b8 hg w2 aA hb;have HS2 := A_ (Sat.je (Sat.drew HS.out) hg aA hb mU.out.1);have HB2 := A_ (ay (aG HB.out) hb);have HKP2 := A_ ((mU.out.drew).below hb);have HG2 := A_ (bG (w := World.drew w1) HG.out hb);have Gy := HS2.out.z 0 rfl 0;have Gz := HS2.out.z 0 rfl 1;have zf := HS2.out.z 0 rfl 2;have Uu := HS2.out.f 0 rfl 0;have Uv := HS2.out.f 0 rfl 1;have Uw := HS2.out.f 0 rfl 2;clear hg aA hb;refine dh 4 hK ⟨(au HG2.out 0).trans rfl, (au HG2.out 1).trans rfl, (Below.cell HB2.out (World.block_lt_of_cell? w0 _ HX0.out)).trans HX0.out, (Below.cell HB2.out (World.block_lt_of_cell? w0 _ Ut.out)).trans Ut.out, (Below.cell HB2.out (World.block_lt_of_cell? w0 _ xm.out)).trans xm.out⟩ (fun hHeld => ?_);refine qz 11 none 4095 (fun K hK => ?_);refine fA (w1 := ?_) (by rfl) rfl ?_ ?_;rotate_left
   ·go_simp
    rfl
   refine hK.out _ _ ?_;clear hK K;refine dL (by kernel_rfl) ?_;have ah := A_ (Sat.WS HS2.out (.slice A0 pg.f0.length c0) (.slice A1 pg.f1.length c1) (.slice A2 pg.f2.length c2));have hge : w.heap.size <= b8 := HS2.out.ge ⟨_, List.mem_cons_self, rfl⟩;have hne : gb ≠ b8 := by have := NN.out; omega
   have hw0 : w0.heap.size <= b8 := by have := NN.out; have := Fs.out; omega
   have bT : af (Below w0.heap.size w0 (((w2.setCell ⟨b8, 0, none⟩ (.slice A0 pg.f0.length c0)).setCell ⟨b8, 1, none⟩ (.slice A1 pg.f1.length c1)).setCell ⟨b8, 2, none⟩ (.slice A2 pg.f2.length c2))) := ⟨((HB2.out.setCell (p := ⟨b8, 0, none⟩) hw0 _).setCell (p := ⟨b8, 1, none⟩) hw0 _).setCell (p := ⟨b8, 2, none⟩) hw0 _⟩
   have kU : af (Kept w (((w2.setCell ⟨b8, 0, none⟩ (.slice A0 pg.f0.length c0)).setCell ⟨b8, 1, none⟩ (.slice A1 pg.f1.length c1)).setCell ⟨b8, 2, none⟩ (.slice A2 pg.f2.length c2)) (fun k => k = gb)) := ⟨((HKP2.out.setCell (p := ⟨b8, 0, none⟩) (.inr hge) _).setCell (p := ⟨b8, 1, none⟩) (.inr hge) _).setCell (p := ⟨b8, 2, none⟩) (.inr hge) _⟩
   have oP : af ((((w2.setCell ⟨b8, 0, none⟩ (.slice A0 pg.f0.length c0)).setCell ⟨b8, 1, none⟩ (.slice A1 pg.f1.length c1)).setCell ⟨b8, 2, none⟩ (.slice A2 pg.f2.length c2)).heap[gb]? = some (.cells #[.slice (some ad) P.length c, .int .i64 (next : Int)] 121 (0, 0))) := ⟨vw (p := ⟨b8, 2, none⟩) (vw (p := ⟨b8, 1, none⟩) (vw (p := ⟨b8, 0, none⟩) HG2.out hne _) hne _) hne _⟩
   clear HS2; clear HB2; clear HKP2; clear HG2; clear HS; clear HB; clear mU; clear HG; clear Gy Gz zf Uu Uv Uw hge hne hw0;generalize ((w2.setCell ⟨b8, 0, none⟩ (.slice A0 pg.f0.length c0)).setCell ⟨b8, 1, none⟩ (.slice A1 pg.f1.length c1)).setCell ⟨b8, 2, none⟩ (.slice A2 pg.f2.length c2) = w3 at *;have HS := ah;have HB := bT;have mU := kU;have HG := oP;clear ah bT kU oP;have hz1 : w3.cell? ⟨gb, 1, none⟩ = some (.int .i64 (next : Int)) := (au HG.out 1).trans rfl;have hf1 := aV HG.out 1
   go_upto_region 5 with fail
   have ah := A_ (Sat.far HS.out (p := ⟨gb, 1, none⟩) NN.out (.int .i64 ((next : Int) + 1)));have bT := A_ (HB.out.setCell (p := ⟨gb, 1, none⟩) Fs.out (.int .i64 ((next : Int) + 1)));have kU := A_ (mU.out.setCell (p := ⟨gb, 1, none⟩) (.inl rfl) (.int .i64 ((next : Int) + 1)))
   have oP : af ((w3.setCell ⟨gb, 1, none⟩ (.int .i64 ((next : Int) + 1))).heap[gb]? = some (.cells #[.slice (some ad) P.length c, .int .i64 ((next + 1 : Nat) : Int)] 121 (0, 0))) := ⟨dP HG.out 1 _ rfl⟩
   clear HS; clear HB; clear mU; clear HG; clear hz1 hf1;generalize w3.setCell ⟨gb, 1, none⟩ (.int .i64 ((next : Int) + 1)) = w4 at *;have HS := ah;have HB := bT;have mU := kU;have HG := oP;clear ah bT kU oP;have Gy := HS.out.z 0 rfl 0;have Gz := HS.out.z 0 rfl 1;have zf := HS.out.z 0 rfl 2
   cases hbd : qX pg with
   | true =>
    have HR := A_ (HBAD.out hbd)
    have hb1 : 4 < pg.f0.length \/ pg.f1.length ≠ pg.f0.length \/ (pg.f2.length ≠ 0 /\ pg.f2.length ≠ pg.f0.length + 1) := by
     unfold qX at hbd;simp only [Bool.or_eq_true, Bool.and_eq_true, decide_eq_true_eq, bne_iff_ne] at hbd;omega
    by_cases q1 : 4 < pg.f0.length
    ·have t1 := lQ (4 < (pg.f0.length : Int))
     have Xr : (4 < pg.f0.length) = True := eq_true q1;clear q1 hb1 hbd;go_wp2
     go_ret2
     exact ⟨HB.out, .inl ⟨HR.out, rfl⟩⟩
    ·have t1 := kS (4 < (pg.f0.length : Int))
     have Xr : (4 < pg.f0.length) = False := eq_false q1
     by_cases q2 : pg.f1.length = pg.f0.length
     ·have q3 : pg.f2.length ≠ 0 /\ pg.f2.length ≠ pg.f0.length + 1 := by omega
      have t2 : ((pg.f1.length : Int) != (pg.f0.length : Int)) = false := MV (by omega);have t3 := lQ (0 < (pg.f2.length : Int));have t4 : ((pg.f2.length : Int) != (pg.f0.length : Int) + 1) = true := Td (by omega);have t2b : (pg.f1.length != pg.f0.length) = false := xC (by omega);have Wq := bV (0 < pg.f2.length);have Ux : (pg.f2.length != pg.f0.length + 1) = true := zx (by omega);have m0 : pg.f0.length <= 4 := by omega
      clear q1 q2 q3 hb1 hbd;go_wp2
      go_ret2
      exact ⟨HB.out, .inl ⟨HR.out, rfl⟩⟩
     ·have t2 : ((pg.f1.length : Int) != (pg.f0.length : Int)) = true := Rw (by omega)
      have t2b : (pg.f1.length != pg.f0.length) = true := zx (by omega);clear q1 q2 hb1 hbd;go_wp2
      go_ret2
      exact ⟨HB.out, .inl ⟨HR.out, rfl⟩⟩
   | false =>
    obtain ⟨q1, q2, q3⟩ := Ec hbd;have HR := A_ (YY.out hbd);have t1 := kS (4 < (pg.f0.length : Int));have Xr : (4 < pg.f0.length) = False := eq_false (by omega);have t2 : ((pg.f1.length : Int) != (pg.f0.length : Int)) = false := MV (by omega);have t2b : (pg.f1.length != pg.f0.length) = false := xC (by omega);have m0 : pg.f0.length <= 4 := by omega
    have Sn := A_ (show pg.f2.length <= 5 by omega)
    by_cases q4 : pg.f2.length = 0
    ·have t3 := kS (0 < (pg.f2.length : Int))
     have Wq : (0 < pg.f2.length) = False := eq_false (by omega);clear q1 q2 q3 q4 hbd
     go_upto_region 7 with fail
     refine bS (n := 9) (S := fun w' => w'.cell? ⟨b8, 0, none⟩ = some (.slice A0 pg.f0.length c0) /\ w'.cell? ⟨b8, 1, none⟩ = some (.slice A1 pg.f1.length c1)) (ds := []) (bt 9 0) (by kernel_rfl) rfl rfl ⟨(HS.out.z 0 rfl 0), (HS.out.z 0 rfl 1)⟩ (fun hHeld => ?_);refine aH 0 66 1 ?_;refine aH 3 69 9 ?_;refine fq 1 67 11 hHeld ?_;refine fq 4 70 27 hHeld ?_;refine gG 2 (some 68) 31 (fun K hK => ?_);refine lI Try.func74 #[.slice A0 pg.f0.length c0] ?_
     with_reducible refine (bf.calls A0 c0 pg.f0 pg.f0 _ (Kd.aN Wp.out (aG HB.out)) qP.out (qc (by have := Kz.out; omega))).mono ?_
     rintro e w5 ⟨v0, rfl, ho, hb⟩;refine ⟨_, rfl, ?_⟩;obtain ⟨NK, NL, rfl⟩ := Kd.ak ho;have ah := A_ (Sat.eG (Sat.drew HS.out) ho hb mU.out.1);have bT := A_ (ay (aG HB.out) hb);have kU := A_ (Kept.below (mU.out.drew) hb);have oP := A_ (bG (w := World.drew w4) HG.out hb);clear ho hb;clear HS HB mU HG;have HS := ah;have HB := bT;have mU := kU;have HG := oP;clear ah bT kU oP;refine dh 68 hK ⟨(HS.out.z 0 rfl 0), (HS.out.z 0 rfl 1)⟩ (fun hHeld => ?_);refine gG 5 (some 71) 63 (fun K hK => ?_);refine lI Try.func74 #[.slice A1 pg.f1.length c1] ?_
     with_reducible refine (bf.calls A1 c1 pg.f1 pg.f1 _ (Kd.aN Yl.out HB.out) Aa.out (qc (by have := Kz.out; omega))).mono ?_
     rintro e w6 ⟨v1, rfl, ho, hb⟩;refine ⟨_, rfl, ?_⟩;obtain ⟨vO, rD, rfl⟩ := Kd.ak ho;have ah := A_ (Sat.eG HS.out ho hb mU.out.1);have bT := A_ (ay HB.out hb);have kU := A_ (Kept.below mU.out hb);have oP := A_ (bG HG.out hb);clear ho hb;clear HS HB mU HG;have HS := ah;have HB := bT;have mU := kU;have HG := oP;clear ah bT kU oP;refine dh 71 hK ⟨(HS.out.z 0 rfl 0), (HS.out.z 0 rfl 1)⟩ (fun hHeld => ?_);refine aH 6 72 127 ?_;refine gG 7 (some 73) 255 (fun K hK => ?_);refine wK 73 #[.slice NK pg.f0.length NL, .slice vO pg.f1.length rD, .slice none 0 0] 101 ?_;intro g hg w7 aA hb;have ah := A_ (Sat.je HS.out hg aA hb mU.out.1);have bT := A_ (ay HB.out hb);have kU := A_ (mU.out.below hb);have oP := A_ (bG HG.out hb);clear hg aA hb;clear HS HB mU HG;have HS := ah;have HB := bT;have mU := kU;have HG := oP;clear ah bT kU oP;refine dh 73 hK ⟨(HS.out.z 1 rfl 0), (HS.out.z 1 rfl 1)⟩ (fun hHeld => ?_);refine aH 8 5 511 ?_;refine dL (by kernel_rfl) ?_;have ah := A_ (BA (E := 74) (X := [.box 110 b8 #[.slice A0 pg.f0.length c0, .slice A1 pg.f1.length c1, .slice A2 pg.f2.length c2]]) HS.out);clear HS;have HS := ah;clear ah hHeld Gy Gz zf;have zf := HS.out.z 4 rfl 2
     go_upto_region 9 with fail
     go_loopg [77] pg.f2.length (fun kq Y7 w' => ∃ (i jv : Nat) (acc : List NT) (cv : Value), Y7 = .int .i64 (i : Int) /\ af (kq + i = pg.f2.length) /\ af (acc.length = i) /\ af (R = fin pg (fu (bZ P f) (pg.f2.drop i) jv (acc.map NT.erase))) /\ af (next < jv /\ jv <= P.length) /\ af (Sat w' w.heap.size (LL 101 74 g (.slice NK pg.f0.length NL) (.slice vO pg.f1.length rD) cv pg.f0 pg.f1 [.box 110 b8 #[.slice A0 pg.f0.length c0, .slice A1 pg.f1.length c1, .slice A2 pg.f2.length c2]] acc)) /\ af (Below w0.heap.size w0 w') /\ af (Kept w w' (fun k => k = gb)) /\ af (w'.heap[gb]? = some (.cells #[.slice (some ad) P.length c, .int .i64 (jv : Int)] 121 (0, 0))))
     case atStart => exact ⟨0, next + 1, [], .slice none 0 0, by first | rfl | (simp; done), ⟨Nat.add_zero _⟩, ⟨rfl⟩, HR, ⟨by have := HA.out; omega⟩, HS, HB, mU, HG⟩
     case round =>
      clear HR HS HB zf mU HG;obtain ⟨i, jv, acc, cv, rfl, HK, PZ, HR, DU, HS, HB, mU, HG⟩ := hrel;have ci := bV (0 <= (i : Int))
      by_cases hi : i < pg.f2.length
      ·have ce := lQ ((i : Int) < (pg.f2.length : Int))
       have zg : (i < pg.f2.length) = True := eq_true hi;have hi5 : i <= 5 := by have := Sn.out; omega
       have Uy := A_ hi5;have HI := A_ hi;have hnx : jv <= 1000000000000 := Nat.le_trans DU.out.2 Us;have hzg : wr.cell? ⟨gb, 1, none⟩ = some (.int .i64 (jv : Int)) := (au HG.out 1).trans rfl;obtain ⟨YZ, hA2, hk0⟩ := Kd.qY Xq.out (i : Int) (by omega) (by omega);subst hA2;rw [Int.toNat_natCast] at hk0;have hks : pg.f2[i]? = some (rd pg.f2 (i : Int)) := by unfold rd; rw [Int.toNat_natCast, List.getD_eq_getElem?_getD, List.getElem?_eq_getElem hi]; rfl
       generalize rd pg.f2 (i : Int) = k at hk0 hks;have hkz := (Below.cell HB.out (World.block_lt_of_cell? w0 _ hk0)).trans hk0;have jw := A_ hks;clear hk0 hks hi
       by_cases hkn : k = (jv : Int)
       ·subst hkn
        cases hrs : bZ P f jv with
        | none =>
         have jP := A_ hrs;have HE := A_ (sN HR.out jw.out rfl hrs);clear hrs
         go_wp2_with (go_at_call 97; (with_reducible refine (ih jv (by have := HF.out; have := DU.out; omega) DU.out.2 gb _ HB.out Fs.out HG.out).mono ?_); rintro e w8 ⟨hb, hr⟩; rw [jP.out] at hr; obtain ⟨-, rfl⟩ := hr.resolve_right (by rintro ⟨_, _, h, _⟩; cases h); clear HB; have HB := A_ hb; clear hb hr)
         go_ret2
         exact ⟨HB.out, .inl ⟨HE.out, rfl⟩⟩
        | some tn =>
         obtain ⟨t, n⟩ := tn;have jP := A_ hrs;have z8 := A_ (j5 f jv t n hrs);have HE := A_ (xB HR.out jw.out rfl hrs);clear hrs
         go_wp2_with (first | (go_at_call 97; (with_reducible refine (ih jv (by have := HF.out; have := DU.out; omega) DU.out.2 gb _ HB.out Fs.out HG.out).mono ?_); rintro e w8 ⟨hb, hr⟩; rw [jP.out] at hr; obtain ⟨nt, n9, h9, rfl, hs, hk, hg⟩ := hr.resolve_left (by rintro ⟨h, _⟩; cases h); injection h9 with h9; injection h9 with h9 h8; subst h9; subst h8; have ah := A_ (LF HS.out hk (fun k hk => by have := NN.out; omega) mU.out.1 hs); have kU := A_ (mU.out.Ed hk (fun k hk => .inl hk)); have Xt := A_ hg; clear HS; clear HB; clear mU; clear HG; have HS := ah; have HB := A_ hb; have mU := kU; have HG := Xt; clear ah kU Xt; have Y0 := HS.out.z 0 rfl 2; clear hb hr hs hk hg) | ((with_reducible refine bP (b := .append) (xs := #[.tmp 98, .tmp 100]) rfl ?_); at_builtin; refine Kd.xE dZ (w0 := w8) w.heap.size rfl (.tmp 98) (.tmp 100) 99 74 (.pointer none) 8 rfl sO kZ rfl (by decide) (by omega) cv (acc.map NT.p) nt.p [bu nt.p] (fun _ => True) (fun _ => False) rfl rfl ?aP (fun _ h => h.elim) ?aF ?aO ?aB ?aS ?aL ?_; (case aP => exact rfl); (case aB => exact Below.refl _ _); (case aF => exact fun _ _ => trivial); (case aO => exact Bw (HS.out.ok _ (List.mem_of_getElem? (i := 3) rfl))); (case aS => exact mU.out.1); (case aL => rw [List.length_map]; have := PZ.out; have := Uy.out; omega); intro cv' w9 ho hb hg hat; obtain ⟨Aq, nq, cq, rfl⟩ := FI ho; have Sq : ∀ k, cv.ownBlock = some k -> w.heap.size <= k := fun k hk => HS.out.ge ⟨_, List.mem_of_getElem? (i := 3) rfl, hk⟩; have ah := A_ (FJ (x := 0) HS.out ho hg hat); have bT := A_ (HB.out.grown hg (by have := HB.out.size; omega) (fun k hk => by have := Sq k hk; have := NN.out; have := Fs.out; omega)); have kU := A_ (Kept.xG hg mU.out (fun k hk => .inr (Sq k hk))); have oP := A_ ((hg.block gb (gU HG.out) (fun he => by have := Sq gb he.symm; have := NN.out; omega)).trans HG.out); clear HS; clear HB; clear mU; clear HG; have HS := ah; have HB := bT; have mU := kU; have HG := oP; clear ah bT kU oP Sq; have Uz := HS.out.z 0 rfl 2; have UA := HS.out.f 0 rfl 2; clear ho hb hg hat))
         go_roundg (pg.f2.length - (i + 1))
         case measure => have := HK.out; have := HI.out; omega
         case rel => exact ⟨i + 1, n, acc ++ [nt], .slice Aq nq cq, by first | rfl | go_num | (simp; done), ⟨by have := HK.out; have := HI.out; omega⟩, ⟨by rw [List.length_append, PZ.out]; rfl⟩, ⟨by rw [List.map_append]; exact HE.out⟩, ⟨by have := z8.out; have := DU.out; omega⟩, ⟨FL HS.out⟩, ⟨HB.out.setCell (p := ⟨g, 2, none⟩) (by have h_ : w.heap.size <= g := HS.out.ge ⟨_, List.mem_cons_self, rfl⟩; have := NN.out; have := Fs.out; show w0.heap.size <= g; omega) _⟩, ⟨mU.out.setCell (p := ⟨g, 2, none⟩) (.inr (HS.out.ge ⟨_, List.mem_cons_self, rfl⟩)) _⟩, ⟨vw (p := ⟨g, 2, none⟩) HG.out (by have h_ : w.heap.size <= g := HS.out.ge ⟨_, List.mem_cons_self, rfl⟩; have := NN.out; show gb ≠ g; omega) _⟩⟩
       ·have HE := A_ (sM HR.out jw.out hkn)
        have tk : (k != (jv : Int)) = true := bne_iff_ne.2 hkn;clear hkn;go_wp2
        go_ret2
        exact ⟨HB.out, .inl ⟨HE.out, rfl⟩⟩
      ·have ce := kS ((i : Int) < (pg.f2.length : Int))
       have zg : (i < pg.f2.length) = False := eq_false hi;have HE := A_ (vg HR.out (by omega));clear hi;go_wp2
       go_ret2
       exact ⟨HB.out, .inr ⟨.mk g (.slice NK pg.f0.length NL) (.slice vO pg.f1.length rD) cv pg.f0 pg.f1 acc, jv, by rw [HE.out, NT.erase, aC], rfl, FM HS.out, mU.out, HG.out⟩⟩
    ·have t3 := lQ (0 < (pg.f2.length : Int))
     have Wq := bV (0 < pg.f2.length);have t4 : ((pg.f2.length : Int) != (pg.f0.length : Int) + 1) = false := Te (by omega);have Ux : (pg.f2.length != pg.f0.length + 1) = false := xC (by omega);clear q1 q2 q3 q4 hbd
     go_upto_region 7 with fail
     refine bS (n := 9) (S := fun w' => w'.cell? ⟨b8, 0, none⟩ = some (.slice A0 pg.f0.length c0) /\ w'.cell? ⟨b8, 1, none⟩ = some (.slice A1 pg.f1.length c1)) (ds := []) (bt 9 0) (by kernel_rfl) rfl rfl ⟨(HS.out.z 0 rfl 0), (HS.out.z 0 rfl 1)⟩ (fun hHeld => ?_);refine aH 0 66 1 ?_;refine aH 3 69 9 ?_;refine fq 1 67 11 hHeld ?_;refine fq 4 70 27 hHeld ?_;refine gG 2 (some 68) 31 (fun K hK => ?_);refine lI Try.func74 #[.slice A0 pg.f0.length c0] ?_
     with_reducible refine (bf.calls A0 c0 pg.f0 pg.f0 _ (Kd.aN Wp.out (aG HB.out)) qP.out (qc (by have := Kz.out; omega))).mono ?_
     rintro e w5 ⟨v0, rfl, ho, hb⟩;refine ⟨_, rfl, ?_⟩;obtain ⟨NK, NL, rfl⟩ := Kd.ak ho;have ah := A_ (Sat.eG (Sat.drew HS.out) ho hb mU.out.1);have bT := A_ (ay (aG HB.out) hb);have kU := A_ (Kept.below (mU.out.drew) hb);have oP := A_ (bG (w := World.drew w4) HG.out hb);clear ho hb;clear HS HB mU HG;have HS := ah;have HB := bT;have mU := kU;have HG := oP;clear ah bT kU oP;refine dh 68 hK ⟨(HS.out.z 0 rfl 0), (HS.out.z 0 rfl 1)⟩ (fun hHeld => ?_);refine gG 5 (some 71) 63 (fun K hK => ?_);refine lI Try.func74 #[.slice A1 pg.f1.length c1] ?_
     with_reducible refine (bf.calls A1 c1 pg.f1 pg.f1 _ (Kd.aN Yl.out HB.out) Aa.out (qc (by have := Kz.out; omega))).mono ?_
     rintro e w6 ⟨v1, rfl, ho, hb⟩;refine ⟨_, rfl, ?_⟩;obtain ⟨vO, rD, rfl⟩ := Kd.ak ho;have ah := A_ (Sat.eG HS.out ho hb mU.out.1);have bT := A_ (ay HB.out hb);have kU := A_ (Kept.below mU.out hb);have oP := A_ (bG HG.out hb);clear ho hb;clear HS HB mU HG;have HS := ah;have HB := bT;have mU := kU;have HG := oP;clear ah bT kU oP;refine dh 71 hK ⟨(HS.out.z 0 rfl 0), (HS.out.z 0 rfl 1)⟩ (fun hHeld => ?_);refine aH 6 72 127 ?_;refine gG 7 (some 73) 255 (fun K hK => ?_);refine wK 73 #[.slice NK pg.f0.length NL, .slice vO pg.f1.length rD, .slice none 0 0] 101 ?_;intro g hg w7 aA hb;have ah := A_ (Sat.je HS.out hg aA hb mU.out.1);have bT := A_ (ay HB.out hb);have kU := A_ (mU.out.below hb);have oP := A_ (bG HG.out hb);clear hg aA hb;clear HS HB mU HG;have HS := ah;have HB := bT;have mU := kU;have HG := oP;clear ah bT kU oP;refine dh 73 hK ⟨(HS.out.z 1 rfl 0), (HS.out.z 1 rfl 1)⟩ (fun hHeld => ?_);refine aH 8 5 511 ?_;refine dL (by kernel_rfl) ?_;have ah := A_ (BA (E := 74) (X := [.box 110 b8 #[.slice A0 pg.f0.length c0, .slice A1 pg.f1.length c1, .slice A2 pg.f2.length c2]]) HS.out);clear HS;have HS := ah;clear ah hHeld Gy Gz zf;have zf := HS.out.z 4 rfl 2
     go_upto_region 9 with fail
     go_loopg [77] pg.f2.length (fun kq Y7 w' => ∃ (i jv : Nat) (acc : List NT) (cv : Value), Y7 = .int .i64 (i : Int) /\ af (kq + i = pg.f2.length) /\ af (acc.length = i) /\ af (R = fin pg (fu (bZ P f) (pg.f2.drop i) jv (acc.map NT.erase))) /\ af (next < jv /\ jv <= P.length) /\ af (Sat w' w.heap.size (LL 101 74 g (.slice NK pg.f0.length NL) (.slice vO pg.f1.length rD) cv pg.f0 pg.f1 [.box 110 b8 #[.slice A0 pg.f0.length c0, .slice A1 pg.f1.length c1, .slice A2 pg.f2.length c2]] acc)) /\ af (Below w0.heap.size w0 w') /\ af (Kept w w' (fun k => k = gb)) /\ af (w'.heap[gb]? = some (.cells #[.slice (some ad) P.length c, .int .i64 (jv : Int)] 121 (0, 0))))
     case atStart => exact ⟨0, next + 1, [], .slice none 0 0, by first | rfl | (simp; done), ⟨Nat.add_zero _⟩, ⟨rfl⟩, HR, ⟨by have := HA.out; omega⟩, HS, HB, mU, HG⟩
     case round =>
      clear HR HS HB zf mU HG;obtain ⟨i, jv, acc, cv, rfl, HK, PZ, HR, DU, HS, HB, mU, HG⟩ := hrel;have ci := bV (0 <= (i : Int))
      by_cases hi : i < pg.f2.length
      ·have ce := lQ ((i : Int) < (pg.f2.length : Int))
       have zg : (i < pg.f2.length) = True := eq_true hi;have hi5 : i <= 5 := by have := Sn.out; omega
       have Uy := A_ hi5;have HI := A_ hi;have hnx : jv <= 1000000000000 := Nat.le_trans DU.out.2 Us;have hzg : wr.cell? ⟨gb, 1, none⟩ = some (.int .i64 (jv : Int)) := (au HG.out 1).trans rfl;obtain ⟨YZ, hA2, hk0⟩ := Kd.qY Xq.out (i : Int) (by omega) (by omega);subst hA2;rw [Int.toNat_natCast] at hk0;have hks : pg.f2[i]? = some (rd pg.f2 (i : Int)) := by unfold rd; rw [Int.toNat_natCast, List.getD_eq_getElem?_getD, List.getElem?_eq_getElem hi]; rfl
       generalize rd pg.f2 (i : Int) = k at hk0 hks;have hkz := (Below.cell HB.out (World.block_lt_of_cell? w0 _ hk0)).trans hk0;have jw := A_ hks;clear hk0 hks hi
       by_cases hkn : k = (jv : Int)
       ·subst hkn
        cases hrs : bZ P f jv with
        | none =>
         have jP := A_ hrs;have HE := A_ (sN HR.out jw.out rfl hrs);clear hrs
         go_wp2_with (go_at_call 97; (with_reducible refine (ih jv (by have := HF.out; have := DU.out; omega) DU.out.2 gb _ HB.out Fs.out HG.out).mono ?_); rintro e w8 ⟨hb, hr⟩; rw [jP.out] at hr; obtain ⟨-, rfl⟩ := hr.resolve_right (by rintro ⟨_, _, h, _⟩; cases h); clear HB; have HB := A_ hb; clear hb hr)
         go_ret2
         exact ⟨HB.out, .inl ⟨HE.out, rfl⟩⟩
        | some tn =>
         obtain ⟨t, n⟩ := tn;have jP := A_ hrs;have z8 := A_ (j5 f jv t n hrs);have HE := A_ (xB HR.out jw.out rfl hrs);clear hrs
         go_wp2_with (first | (go_at_call 97; (with_reducible refine (ih jv (by have := HF.out; have := DU.out; omega) DU.out.2 gb _ HB.out Fs.out HG.out).mono ?_); rintro e w8 ⟨hb, hr⟩; rw [jP.out] at hr; obtain ⟨nt, n9, h9, rfl, hs, hk, hg⟩ := hr.resolve_left (by rintro ⟨h, _⟩; cases h); injection h9 with h9; injection h9 with h9 h8; subst h9; subst h8; have ah := A_ (LF HS.out hk (fun k hk => by have := NN.out; omega) mU.out.1 hs); have kU := A_ (mU.out.Ed hk (fun k hk => .inl hk)); have Xt := A_ hg; clear HS; clear HB; clear mU; clear HG; have HS := ah; have HB := A_ hb; have mU := kU; have HG := Xt; clear ah kU Xt; have Y0 := HS.out.z 0 rfl 2; clear hb hr hs hk hg) | ((with_reducible refine bP (b := .append) (xs := #[.tmp 98, .tmp 100]) rfl ?_); at_builtin; refine Kd.xE dZ (w0 := w8) w.heap.size rfl (.tmp 98) (.tmp 100) 99 74 (.pointer none) 8 rfl sO kZ rfl (by decide) (by omega) cv (acc.map NT.p) nt.p [bu nt.p] (fun _ => True) (fun _ => False) rfl rfl ?aP (fun _ h => h.elim) ?aF ?aO ?aB ?aS ?aL ?_; (case aP => exact rfl); (case aB => exact Below.refl _ _); (case aF => exact fun _ _ => trivial); (case aO => exact Bw (HS.out.ok _ (List.mem_of_getElem? (i := 3) rfl))); (case aS => exact mU.out.1); (case aL => rw [List.length_map]; have := PZ.out; have := Uy.out; omega); intro cv' w9 ho hb hg hat; obtain ⟨Aq, nq, cq, rfl⟩ := FI ho; have Sq : ∀ k, cv.ownBlock = some k -> w.heap.size <= k := fun k hk => HS.out.ge ⟨_, List.mem_of_getElem? (i := 3) rfl, hk⟩; have ah := A_ (FJ (x := 0) HS.out ho hg hat); have bT := A_ (HB.out.grown hg (by have := HB.out.size; omega) (fun k hk => by have := Sq k hk; have := NN.out; have := Fs.out; omega)); have kU := A_ (Kept.xG hg mU.out (fun k hk => .inr (Sq k hk))); have oP := A_ ((hg.block gb (gU HG.out) (fun he => by have := Sq gb he.symm; have := NN.out; omega)).trans HG.out); clear HS; clear HB; clear mU; clear HG; have HS := ah; have HB := bT; have mU := kU; have HG := oP; clear ah bT kU oP Sq; have Uz := HS.out.z 0 rfl 2; have UA := HS.out.f 0 rfl 2; clear ho hb hg hat))
         go_roundg (pg.f2.length - (i + 1))
         case measure => have := HK.out; have := HI.out; omega
         case rel => exact ⟨i + 1, n, acc ++ [nt], .slice Aq nq cq, by first | rfl | go_num | (simp; done), ⟨by have := HK.out; have := HI.out; omega⟩, ⟨by rw [List.length_append, PZ.out]; rfl⟩, ⟨by rw [List.map_append]; exact HE.out⟩, ⟨by have := z8.out; have := DU.out; omega⟩, ⟨FL HS.out⟩, ⟨HB.out.setCell (p := ⟨g, 2, none⟩) (by have h_ : w.heap.size <= g := HS.out.ge ⟨_, List.mem_cons_self, rfl⟩; have := NN.out; have := Fs.out; show w0.heap.size <= g; omega) _⟩, ⟨mU.out.setCell (p := ⟨g, 2, none⟩) (.inr (HS.out.ge ⟨_, List.mem_cons_self, rfl⟩)) _⟩, ⟨vw (p := ⟨g, 2, none⟩) HG.out (by have h_ : w.heap.size <= g := HS.out.ge ⟨_, List.mem_cons_self, rfl⟩; have := NN.out; show gb ≠ g; omega) _⟩⟩
       ·have HE := A_ (sM HR.out jw.out hkn)
        have tk : (k != (jv : Int)) = true := bne_iff_ne.2 hkn;clear hkn;go_wp2
        go_ret2
        exact ⟨HB.out, .inl ⟨HE.out, rfl⟩⟩
      ·have ce := kS ((i : Int) < (pg.f2.length : Int))
       have zg : (i < pg.f2.length) = False := eq_false hi;have HE := A_ (vg HR.out (by omega));clear hi;go_wp2
       go_ret2
       exact ⟨HB.out, .inr ⟨.mk g (.slice NK pg.f0.length NL) (.slice vO pg.f1.length rD) cv pg.f0 pg.f1 acc, jv, by rw [HE.out, NT.erase, aC], rfl, FM HS.out, mU.out, HG.out⟩⟩
open Go.Proofs.Ytoddejmlcnbdmaa.Fn
theorem dm.cK {p : Nat} {t : PT} (b : Bool) (hb : decide ((t.kids.length : Int) = 0) = b) (w : World) (h : Rd 96 w p t) :
  Calls Try.prog 84 #[bu p] w fun e w' => e = .returned (.bool b) /\ av w w' := by
 subst hb;obtain ⟨Ak, ck, Av, cv, Ac, cc, ps, HN⟩ := h.open;have hz := HN.z2;clear HN h;go_enter Try.func84, Try.ntmps84;go_wp2;go_ret;exact ⟨by first | rfl | (simp; done), by repeat (first | exact av.refl _ | apply av.step)⟩
theorem Az {p0 q : Prop} (h0 : p0) (h : p0 -> q := by intro uu; repeat (first | exact uu | (with_reducible refine Rd.drewN ?_ _) | (with_reducible refine Rd.drew ?_))) : q := h h0
open Go.Proofs.Ytoddejmlcnbdmaa.Fn
def Rx (w0 : World) (k v : List ByteArray) (e : Ending) (w' : World) : Prop :=
 ∃ v1 v2, e = .returned (.tuple #[v1, v2]) /\ SR w' w0.heap.size v1 k /\ SR w' w0.heap.size v2 v /\ tZ v1 v2 /\ Below w0.heap.size w0 w'
theorem iV {α : Type} {l x r r' L : List α} (h : l ++ r = L) (hr : r = x ++ r') : (l ++ x) ++ r' = L := by rw [<- h, hr, List.append_assoc]
theorem kP {α : Type} {l x r r' L : List α} {N : Nat} (h : l ++ r = L) (hr : r = x ++ r') (hL : L.length <= N) : l.length + x.length <= N := by
 have := congrArg List.length (iV h hr);simp only [List.length_append] at this;omega
theorem oD.calls : ∀ (n : Nat) (t : PT), SizeOf.sizeOf t <= n -> om t -> ∀ {p : Nat} (w0 w : World) (v1 v2 : Value) (l1 l2 : List ByteArray), Rd 96 w0 p t -> Below w0.heap.size w0 w -> SR w w0.heap.size v1 l1 -> SR w w0.heap.size v2 l2 -> tZ v1 v2 ->
  (l1 ++ bB t).length <= 8796093022208 -> (l2 ++ eD t).length <= 8796093022208 -> Calls Try.prog 65 #[bu p, v1, v2] w (Rx w0 (l1 ++ bB t) (l2 ++ eD t)) := by
 intro n
 induction n with
 | zero =>
  intro t hs
  cases t with | mk keys vals kids => simp at hs
 | succ n ih =>
  intro t hs hf p w0 w v1 v2 l1 l2 hrd hB ho1 ho2 hne hb1 hb2;obtain ⟨Ak, ck, Av, cv, Ac, cc, ps, ym⟩ := hrd.open;have HN := A_ ym;have HB := A_ hB;have mE := A_ ho1;have mR := A_ ho2;have qA := A_ hne
  obtain ⟨L1, hL1⟩ : ∃ L, L = l1 ++ bB t := ⟨_, rfl⟩
  obtain ⟨L2, hL2⟩ : ∃ L, L = l2 ++ eD t := ⟨_, rfl⟩
  rw [<- hL1, <- hL2];rw [<- hL1] at hb1;rw [<- hL2] at hb2;have DV := A_ hb1;have HL2 := A_ hb2;have HR1 := A_ (show l1 ++ mH t 0 = L1 by rw [Bj, hL1]);have HR2 := A_ (show l2 ++ nL t 0 = L2 by rw [Bl, hL2]);have h1 := hf.one;unfold wN at h1;have uk := A_ h1;have HF := A_ hf;have Hd := A_ hs;have hm : t.keys.length <= 1000 := h1.2.1;clear hrd hB ho1 ho2 hne hb1 hb2 hL1 hL2 ym h1 hf hs;go_enter Try.func65, Try.ntmps65;go_wp2
  go_loopg [1, 2, 8] (t.keys.length + 1) (fun kq u1 u2 u8 w' => ∃ (i : Nat) (x1 x2 : List ByteArray), u8 = .int .i64 (i : Int) /\ af (kq + i = t.keys.length + 1) /\ af (x1 ++ mH t i = L1) /\ af (x2 ++ nL t i = L2) /\ af (SR w' w0.heap.size u1 x1) /\ af (SR w' w0.heap.size u2 x2) /\ af (tZ u1 u2) /\ af (Below w0.heap.size w0 w'))
  case atStart => exact ⟨0, l1, l2, by first | rfl | (simp; done), ⟨Nat.add_zero _⟩, HR1, HR2, mE, mR, qA, HB⟩
  case round =>
   clear HR1 HR2 mE mR qA HB;obtain ⟨i, x1, x2, rfl, HK, HR1, HR2, mE, mR, qA, HB⟩ := hrel;have Tw := A_ (HN.out.below HB.out);have Sr := A_ Tw.out.rd;have hz0 := Tw.out.z0;have hz2 := Tw.out.z2
   by_cases hi : i <= t.keys.length
   ·have ce := lQ ((i : Int) <= (t.keys.length : Int))
    have zg : (i <= t.keys.length) = True := eq_true hi;have ci := bV (0 <= (i : Int))
    have hJ : i <= 1000 := (by omega)
    have HI := A_ hi
    by_cases h0 : t.kids.length = 0
    ·have hbl := A_ (show decide ((t.kids.length : Int) = 0) = true from decide_eq_true (by omega))
     by_cases hlt : i < t.keys.length
     ·obtain ⟨r1, hr1⟩ : ∃ r, mH t (i + 1) = r := ⟨_, rfl⟩
      obtain ⟨Wt, rfl, hk0⟩ := HN.out.key i (by omega) (by omega);obtain ⟨Mx, rfl, hv0⟩ := HN.out.val i (by omega) (by have := uk.out; omega);rw [Int.toNat_natCast] at hk0 hv0
      obtain ⟨kx, hkx⟩ : ∃ x, x = bO ByteArray.empty t.keys (i : Int) := ⟨_, rfl⟩
      obtain ⟨vx, JL⟩ : ∃ x, x = bO ByteArray.empty t.vals (i : Int) := ⟨_, rfl⟩
      rw [<- hkx] at hk0;rw [<- JL] at hv0;have e1 := Bn h0 hlt;have e2 := Bo h0 (i := i) (by have := uk.out; omega);rw [show t.keys.getD i ByteArray.empty = kx from hkx.symm] at e1;rw [show t.vals.getD i ByteArray.empty = vx from JL.symm] at e2;have oQ := A_ (iV (x := [kx]) HR1.out e1);have HE2 := A_ (iV (x := [vx]) HR2.out e2);have HZ1 := A_ (show x1.length + 1 <= 8796093022208 from kP (x := [kx]) HR1.out e1 DV.out);have HZ2 := A_ (show x2.length + 1 <= 8796093022208 from kP (x := [vx]) HR2.out e2 HL2.out);have GG := A_ hk0;have o6 := A_ hv0;have hlc := lQ ((i : Int) < (t.keys.length : Int));have hlb : (i < t.keys.length) = True := eq_true hlt;have hva : ((i : Int) < (t.vals.length : Int)) = True := eq_true (by have := uk.out; omega);have hvb : (i < t.vals.length) = True := eq_true (by have := uk.out; omega);have Rc := (HB.out.cell (World.block_lt_of_cell? w0 _ hk0)).trans hk0;have hz1 := Tw.out.z1;clear hk0 hv0 hkx JL e1 e2 hi hlt h0 hr1 HR1 HR2
      go_wp2_with (first | (go_at_call 84; (with_reducible refine (dm.cK true hbl.out _ ?az).mono ?_); (case az => exact Az Sr.out); rintro e w' ⟨rfl, ⟨nd, rfl⟩⟩) | ((with_reducible refine bP (b := .append) (xs := #[.tmp 41, .tmp 49]) rfl ?_); at_builtin; refine Kd.rJ Kd.string (w0 := w0) w0.heap.size rfl (.tmp 41) (.tmp 49) 38 9 (.string ⟨#[]⟩) 16 rfl Try.underlying38 dC rfl (by decide) (by omega) u1 x1 kx [.string kx] (fun _ => True) (fun _ => False) rfl rfl ?aP (fun _ hk => hk.elim) ?aF ?aO ?aB ?aS ?aL ?_; (case aP => exact rfl); (case aB => exact Be HB.out); (case aF => exact fun _ _ => trivial); (case aO => exact tY mE.out); (case aS => exact Dw HB.out); (case aL => have := HZ1.out; omega); intro u1' w7 ho hb hg hat; have ah := A_ ho; have bT := A_ (SR.far (SR.Dx (tY mR.out)) hg (yJ qA.out)); have kU := A_ (SR.ne (SR.Dx (tY mR.out)) hat qA.out); have oP := A_ hb; have hz1' := (HN.out.below hb).z1; have hz0' := (HN.out.below hb).z0; have hzv' := (hb.cell (World.block_lt_of_cell? w0 _ o6.out)).trans o6.out; clear mE mR qA HB; have mE := ah; have mR := bT; have qA := kU; have HB := oP; clear ah bT kU oP ho hb hg hat) | ((with_reducible refine bP (b := .append) (xs := #[.tmp 51, .tmp 59]) rfl ?_); at_builtin; refine Kd.rJ Kd.string (w0 := w0) w0.heap.size rfl (.tmp 51) (.tmp 59) 38 9 (.string ⟨#[]⟩) 16 rfl Try.underlying38 dC rfl (by decide) (by omega) u2 x2 vx [.string vx] (fun _ => True) (fun _ => False) rfl rfl ?aP (fun _ hk => hk.elim) ?aF ?aO ?aB ?aS ?aL ?_; (case aP => exact rfl); (case aB => exact Be HB.out); (case aF => exact fun _ _ => trivial); (case aO => exact tY mR.out); (case aS => exact Dw HB.out); (case aL => have := HZ2.out; omega); intro u2' w8 ho hb hg hat; have ah := A_ ho; have bT := A_ (SR.far (SR.Dx (tY mE.out)) hg qA.out); have kU := A_ (yJ (SR.ne (SR.Dx (tY mE.out)) hat (yJ qA.out))); have oP := A_ hb; clear mE mR qA HB; have mR := ah; have mE := bT; have qA := kU; have HB := oP; clear ah bT kU oP ho hb hg hat))
      go_roundg (t.keys.length - i)
      case measure => have := HK.out; have := HI.out; omega
      case rel => exact ⟨i + 1, _, _, by first | rfl | go_num | (simp; done), ⟨by have := HK.out; have := HI.out; omega⟩, oQ, HE2, ⟨SR.Dx (tY mE.out)⟩, ⟨SR.Dx (tY mR.out)⟩, qA, ⟨Be HB.out⟩⟩
     ·obtain rfl : i = t.keys.length := by omega
      have oQ := A_ (show x1 ++ mH t (t.keys.length + 1) = L1 by rw [<- HR1.out, rF (by omega) (by omega), rF (by omega) (by omega)]);have HE2 := A_ (show x2 ++ nL t (t.keys.length + 1) = L2 by have := uk.out; rw [<- HR2.out, rG (by omega) (by omega), rG (by omega) (by omega)]);have hlc := kS ((t.keys.length : Int) < (t.keys.length : Int));clear hi hlt h0 HR1 HR2
      go_wp2_with (first | (go_at_call 84; (with_reducible refine (dm.cK true hbl.out _ ?az).mono ?_); (case az => exact Az Sr.out); rintro e w' ⟨rfl, ⟨nd, rfl⟩⟩))
      go_roundg (t.keys.length - t.keys.length)
      case measure => have := HK.out; have := HI.out; omega
      case rel => exact ⟨t.keys.length + 1, _, _, by first | rfl | go_num | (simp; done), ⟨by have := HK.out; have := HI.out; omega⟩, oQ, HE2, ⟨SR.Dx (tY mE.out)⟩, ⟨SR.Dx (tY mR.out)⟩, qA, ⟨Be HB.out⟩⟩
    ·have hbl := A_ (show decide ((t.kids.length : Int) = 0) = false from decide_eq_false (by omega))
     have hkl : t.kids.length = t.keys.length + 1 := uk.out.2.2.resolve_left h0;obtain ⟨adc, q, s, rfl, hc0, hs, hrs⟩ := HN.out.kid i (by omega) (by omega);rw [Int.toNat_natCast] at hc0 hs;have HS := A_ hs;have Re := A_ hrs;have hzc := (HB.out.cell (World.block_lt_of_cell? w0 _ hc0)).trans hc0;have Yn := bV ((i : Int) < (t.kids.length : Int));have hcb := bV (i < t.kids.length)
     by_cases hlt : i < t.keys.length
     ·obtain ⟨r1, hr1⟩ : ∃ r, mH t (i + 1) = r := ⟨_, rfl⟩
      obtain ⟨Wt, rfl, hk0⟩ := HN.out.key i (by omega) (by omega);obtain ⟨Mx, rfl, hv0⟩ := HN.out.val i (by omega) (by have := uk.out; omega);rw [Int.toNat_natCast] at hk0 hv0
      obtain ⟨kx, hkx⟩ : ∃ x, x = bO ByteArray.empty t.keys (i : Int) := ⟨_, rfl⟩
      obtain ⟨vx, JL⟩ : ∃ x, x = bO ByteArray.empty t.vals (i : Int) := ⟨_, rfl⟩
      rw [<- hkx] at hk0;rw [<- JL] at hv0;have e1 := Bp hs hlt;have e2 := Bq hs (i := i) (by have := uk.out; omega);rw [show t.keys.getD i ByteArray.empty = kx from hkx.symm] at e1;rw [show t.vals.getD i ByteArray.empty = vx from JL.symm] at e2;have KA := iV HR1.out e1;have KC := iV HR2.out e2;have oQ := A_ (iV (x := [kx]) KA rfl);have HE2 := A_ (iV (x := [vx]) KC rfl);have HZ1 := A_ (show (x1 ++ bB s).length <= 8796093022208 by rw [List.length_append]; exact kP HR1.out e1 DV.out);have HZ2 := A_ (show (x2 ++ eD s).length <= 8796093022208 by rw [List.length_append]; exact kP HR2.out e2 HL2.out);have HZ3 := A_ (show (x1 ++ bB s).length + 1 <= 8796093022208 from kP (x := [kx]) KA rfl DV.out);have Y8 := A_ (show (x2 ++ eD s).length + 1 <= 8796093022208 from kP (x := [vx]) KC rfl HL2.out);have GG := A_ hk0;have o6 := A_ hv0;have hlc := lQ ((i : Int) < (t.keys.length : Int));have hlb : (i < t.keys.length) = True := eq_true hlt;have hva : ((i : Int) < (t.vals.length : Int)) = True := eq_true (by have := uk.out; omega);have hvb : (i < t.vals.length) = True := eq_true (by have := uk.out; omega);clear hk0 hv0 hkx JL e1 e2 hi hlt h0 hr1 HR1 HR2 KA KC hkl hs hrs hc0
      go_wp2_with (first | (go_at_call 84; (with_reducible refine (dm.cK false hbl.out _ ?az).mono ?_); (case az => exact Az Sr.out); rintro e w' ⟨rfl, ⟨nd, rfl⟩⟩) | (go_at_call 65; (with_reducible refine (ih s (by have := PT.iT HS.out; have := Hd.out; omega) (HF.out.kid HS.out) w0 _ u1 u2 x1 x2 Re.out ?bW ?CQ ?CR qA.out HZ1.out HZ2.out).mono ?_); (case bW => exact Be HB.out); (case CQ => exact SR.Dx (tY mE.out)); (case CR => exact SR.Dx (tY mR.out)); rintro e w5 ⟨u3, u4, rfl, ho1, ho2, hne, hb⟩; have ah := A_ ho1; have bT := A_ ho2; have kU := A_ hne; have oP := A_ hb; have hz0' := (HN.out.below hb).z0; have hzk' := (hb.cell (World.block_lt_of_cell? w0 _ GG.out)).trans GG.out; clear mE mR qA HB; have mE := ah; have mR := bT; have qA := kU; have HB := oP; clear ah bT kU oP ho1 ho2 hne hb) | ((with_reducible refine bP (b := .append) (xs := #[.tmp 41, .tmp 49]) rfl ?_); at_builtin; refine Kd.rJ Kd.string (w0 := w0) w0.heap.size rfl (.tmp 41) (.tmp 49) 38 9 (.string ⟨#[]⟩) 16 rfl Try.underlying38 dC rfl (by decide) (by omega) u3 (x1 ++ bB s) kx [.string kx] (fun _ => True) (fun _ => False) rfl rfl ?aP (fun _ hk => hk.elim) ?aF ?aO ?aB ?aS ?aL ?_; (case aP => exact rfl); (case aB => exact Be HB.out); (case aF => exact fun _ _ => trivial); (case aO => exact tY mE.out); (case aS => exact Dw HB.out); (case aL => have := HZ3.out; omega); intro u1' w7 ho hb hg hat; have ah := A_ ho; have bT := A_ (SR.far (SR.Dx (tY mR.out)) hg (yJ qA.out)); have kU := A_ (SR.ne (SR.Dx (tY mR.out)) hat qA.out); have oP := A_ hb; have hz1' := (HN.out.below hb).z1; have hz0b := (HN.out.below hb).z0; have hzv' := (hb.cell (World.block_lt_of_cell? w0 _ o6.out)).trans o6.out; clear mE mR qA HB; have mE := ah; have mR := bT; have qA := kU; have HB := oP; clear ah bT kU oP ho hb hg hat) | ((with_reducible refine bP (b := .append) (xs := #[.tmp 51, .tmp 59]) rfl ?_); at_builtin; refine Kd.rJ Kd.string (w0 := w0) w0.heap.size rfl (.tmp 51) (.tmp 59) 38 9 (.string ⟨#[]⟩) 16 rfl Try.underlying38 dC rfl (by decide) (by omega) u4 (x2 ++ eD s) vx [.string vx] (fun _ => True) (fun _ => False) rfl rfl ?aP (fun _ hk => hk.elim) ?aF ?aO ?aB ?aS ?aL ?_; (case aP => exact rfl); (case aB => exact Be HB.out); (case aF => exact fun _ _ => trivial); (case aO => exact tY mR.out); (case aS => exact Dw HB.out); (case aL => have := Y8.out; omega); intro u2' w8 ho hb hg hat; have ah := A_ ho; have bT := A_ (SR.far (SR.Dx (tY mE.out)) hg qA.out); have kU := A_ (yJ (SR.ne (SR.Dx (tY mE.out)) hat (yJ qA.out))); have oP := A_ hb; clear mE mR qA HB; have mR := ah; have mE := bT; have qA := kU; have HB := oP; clear ah bT kU oP ho hb hg hat))
      go_roundg (t.keys.length - i)
      case measure => have := HK.out; have := HI.out; omega
      case rel => exact ⟨i + 1, _, _, by first | rfl | go_num | (simp; done), ⟨by have := HK.out; have := HI.out; omega⟩, oQ, HE2, ⟨SR.Dx (tY mE.out)⟩, ⟨SR.Dx (tY mR.out)⟩, qA, ⟨Be HB.out⟩⟩
     ·obtain rfl : i = t.keys.length := by omega
      have e1 := Br hs (Nat.le_refl _) hkl;have e2 := Bt hs (by have := uk.out; omega) hkl;have oQ := A_ (iV HR1.out e1);have HE2 := A_ (iV HR2.out e2);have HZ1 := A_ (show (x1 ++ bB s).length <= 8796093022208 by rw [List.length_append]; exact kP HR1.out e1 DV.out);have HZ2 := A_ (show (x2 ++ eD s).length <= 8796093022208 by rw [List.length_append]; exact kP HR2.out e2 HL2.out);have hlc := kS ((t.keys.length : Int) < (t.keys.length : Int));clear hi hlt h0 HR1 HR2 e1 e2 hkl hs hrs hc0
      go_wp2_with (first | (go_at_call 84; (with_reducible refine (dm.cK false hbl.out _ ?az).mono ?_); (case az => exact Az Sr.out); rintro e w' ⟨rfl, ⟨nd, rfl⟩⟩) | (go_at_call 65; (with_reducible refine (ih s (by have := PT.iT HS.out; have := Hd.out; omega) (HF.out.kid HS.out) w0 _ u1 u2 x1 x2 Re.out ?bW ?CQ ?CR qA.out HZ1.out HZ2.out).mono ?_); (case bW => exact Be HB.out); (case CQ => exact SR.Dx (tY mE.out)); (case CR => exact SR.Dx (tY mR.out)); rintro e w5 ⟨u3, u4, rfl, ho1, ho2, hne, hb⟩; have ah := A_ ho1; have bT := A_ ho2; have kU := A_ hne; have oP := A_ hb; have hz0' := (HN.out.below hb).z0;  clear mE mR qA HB; have mE := ah; have mR := bT; have qA := kU; have HB := oP; clear ah bT kU oP ho1 ho2 hne hb))
      go_roundg (t.keys.length - t.keys.length)
      case measure => have := HK.out; have := HI.out; omega
      case rel => exact ⟨t.keys.length + 1, _, _, by first | rfl | go_num | (simp; done), ⟨by have := HK.out; have := HI.out; omega⟩, oQ, HE2, ⟨SR.Dx (tY mE.out)⟩, ⟨SR.Dx (tY mR.out)⟩, qA, ⟨Be HB.out⟩⟩
   ·have ce := kS ((i : Int) <= (t.keys.length : Int))
    have zg : (i <= t.keys.length) = False := eq_false hi;have oQ := show x1 = L1 by have := uk.out; rw [<- HR1.out, rF (by omega) (by omega), List.append_nil]
    have HE2 := show x2 = L2 by have := uk.out; rw [<- HR2.out, rG (by omega) (by omega), List.append_nil]
    subst oQ;subst HE2;clear hi;go_wp2
    go_ret2
    exact ⟨_, _, rfl, SR.Dx (tY mE.out), SR.Dx (tY mR.out), qA.out, Be HB.out⟩
open Go.Proofs.Ytoddejmlcnbdmaa.Fn
theorem sP {p0 q : Prop} (h0 : p0) (h : p0 -> q := by intro uu; repeat (first | exact uu | (with_reducible refine Rd.drewN ?_ _) | (with_reducible refine Rd.drew ?_))) : q := h h0
theorem cz.cK {p : Nat} {t : PT} (b : Bool) (hb : decide ((t.kids.length : Int) = 0) = b) (w : World) (h : Rd 101 w p t) :
  Calls Try.prog 99 #[bu p] w fun e w' => e = .returned (.bool b) /\ av w w' := by
 subst hb;obtain ⟨Ak, ck, Av, cv, Ac, cc, ps, HN⟩ := h.open;have hz := HN.z2;clear HN h;go_enter Try.func99, Try.ntmps99;go_wp2;go_ret;exact ⟨by first | rfl | (simp; done), by repeat (first | exact av.refl _ | apply av.step)⟩
theorem wQ.calls : ∀ (n : Nat) (t : PT), SizeOf.sizeOf t <= n -> JS t -> ∀ (d : Int) (b : Bool), jy t = (d, b) -> ∀ {p : Nat} (w : World), Rd 101 w p t ->
  Calls Try.prog 62 #[bu p] w fun e w' => e = .returned (.tuple #[.int .i64 d, .bool b]) /\ av w w' := by
 intro n
 induction n with
 | zero =>
  intro t hs
  cases t with | mk keys vals kids => simp at hs
 | succ n ih =>
  intro t hs hf d b hr p w h
  by_cases h0 : t.kids.length = 0
  ·have HO := A_ h
   have he := zq h0;rw [hr] at he
   injection he with e1 e2
   subst e1; subst e2;have hb0 := A_ (show decide ((t.kids.length : Int) = 0) = true from decide_eq_true (by omega));clear h h0 hr;go_enter Try.func62, Try.ntmps62
   go_wp2_with (go_at_call 99; (with_reducible refine (cz.cK true hb0.out _ ?az).mono ?_); (case az => exact sP HO.out); rintro e w' ⟨rfl, ⟨nd, rfl⟩⟩)
   go_ret2
   exact ⟨by first | done | rfl, by repeat (first | exact av.refl _ | apply av.step)⟩
  ·have HO := A_ h
   have hb0 := A_ (show decide ((t.kids.length : Int) = 0) = false from decide_eq_false (by omega));obtain ⟨Ak, ck, Av, cv, Ac, cc, ps, HN⟩ := h.open;have hz0 := HN.z0;have hz2 := HN.z2;have Y9 := A_ HN;have HF := A_ hf;have Hd := A_ hs;have HL := A_ (show 0 < t.kids.length by omega);have HE := A_ (hr.symm.trans (zt h0));clear h h0 HN hf hs hr;go_enter Try.func62, Try.ntmps62
   go_upto_region 5 with (go_at_call 99; (with_reducible refine (cz.cK false hb0.out _ ?az).mono ?_); (case az => exact sP HO.out); rintro e w' ⟨rfl, ⟨nd, rfl⟩⟩)
   go_loopg [4, 16] t.kids.length (fun kq v4 v16 w' => ∃ (i m : Nat) (f : Int), v16 = .int .i64 (i : Int) /\ v4 = .int .i64 f /\ af (kq + i = t.kids.length) /\ af ((d, b) = wL t.keys.length (jd i f (t.kids.drop i))) /\ w' = w.drewN m)
   case atStart => exact ⟨0, _, 0, by first | rfl | (simp; done), rfl, ⟨Nat.add_zero _⟩, HE, rfl⟩
   case round =>
    clear HE;obtain ⟨i, m, f, rfl, rfl, HK, HE, rfl⟩ := hrel
    by_cases hi : i < t.kids.length
    ·obtain ⟨ad, q, s, rfl, hz, hs, ho⟩ := Y9.out.kid i (by omega) (by omega)
     rw [Int.toNat_natCast] at hz hs;obtain ⟨zG, ck1, vO, rD, UD, Tx, ps1, P8⟩ := ho.open;have Rc := P8.z0;have HS := A_ hs;have H1 := A_ ho;have HI := A_ hi;have ce := lQ ((i : Int) < (t.kids.length : Int));have cea := bV ((i : Int) < (t.kids.length : Int));have zg : (i < t.kids.length) = True := eq_true hi;have cec := bV (0 <= (i : Int))
     obtain ⟨d1, b1, Yo⟩ : ∃ d1 b1, jy s = (d1, b1) := ⟨_, _, rfl⟩
     have HD := A_ Yo;clear P8 ho hs hi Yo
     cases b1 with
     | false =>
      have oQ := A_ (wM HS.out HE.out (.inl (by rw [HD.out])))
      go_wp2_with (go_at_call 62; (with_reducible refine (ih s (by have := PT.iT HS.out; have := Hd.out; omega) (HF.out.kid HS.out) d1 false HD.out _ ?az).mono ?_); (case az => exact sP H1.out); rintro e w' ⟨rfl, ⟨nd, rfl⟩⟩)
      go_ret2
      have := oQ.out
      injection this with e1 e2
      exact ⟨by rw [e1, e2]; first | done | rfl, by repeat (first | exact av.refl _ | apply av.step | exact ⟨_, rfl⟩)⟩
     | true =>
      by_cases hk : s.keys.length < 2
      ·have oQ := A_ (wM HS.out HE.out (.inr (.inl hk)))
       have hkb := lQ ((s.keys.length : Int) < 2);clear hk
       go_wp2_with (go_at_call 62; (with_reducible refine (ih s (by have := PT.iT HS.out; have := Hd.out; omega) (HF.out.kid HS.out) d1 true HD.out _ ?az).mono ?_); (case az => exact sP H1.out); rintro e w' ⟨rfl, ⟨nd, rfl⟩⟩)
       go_ret2
       have := oQ.out
       injection this with e1 e2
       exact ⟨by rw [e1, e2]; first | done | rfl, by repeat (first | exact av.refl _ | apply av.step | exact ⟨_, rfl⟩)⟩
      ·have hkb := kS ((s.keys.length : Int) < 2)
       by_cases h3 : i = 0 \/ d1 = f
       ·have oQ := A_ (MS HS.out HE.out (by rw [HD.out]) hk (by rw [HD.out]; exact h3))
        have hm : t.kids.length <= 1048576 := HF.out.len;have hj : i < t.kids.length := HI.out;rw [HD.out] at oQ;clear hk
        by_cases hi0 : 0 < i
        ·obtain rfl : d1 = f := h3.resolve_left (by omega)
         have hi0b := lQ (0 < (i : Int));have hi0c : (0 < i) = True := eq_true hi0;clear hi0 h3
         go_wp2_with (go_at_call 62; (with_reducible refine (ih s (by have := PT.iT HS.out; have := Hd.out; omega) (HF.out.kid HS.out) d1 true HD.out _ ?az).mono ?_); (case az => exact sP H1.out); rintro e w' ⟨rfl, ⟨nd, rfl⟩⟩)
         go_roundg (t.kids.length - (i + 1))
         case measure => have := HK.out; omega
         case rel => exact ⟨i + 1, _, d1, by first | rfl | go_num | (simp; done), rfl, ⟨by omega⟩, oQ, rfl⟩
        ·have hi0b := kS (0 < (i : Int))
         have hi0c : (0 < i) = False := eq_false hi0;clear hi0 h3
         go_wp2_with (go_at_call 62; (with_reducible refine (ih s (by have := PT.iT HS.out; have := Hd.out; omega) (HF.out.kid HS.out) d1 true HD.out _ ?az).mono ?_); (case az => exact sP H1.out); rintro e w' ⟨rfl, ⟨nd, rfl⟩⟩)
         go_roundg (t.kids.length - (i + 1))
         case measure => have := HK.out; omega
         case rel => exact ⟨i + 1, _, d1, by first | rfl | go_num | (simp; done), rfl, ⟨by omega⟩, oQ, rfl⟩
       ·have h4 : 0 < i /\ d1 ≠ f := ⟨by omega, fun e => h3 (.inr e)⟩
        have oQ := A_ (wM HS.out HE.out (.inr (.inr ⟨h4.1, by rw [HD.out]; exact h4.2⟩)));have hi0b := lQ (0 < (i : Int));have hi0c : (0 < i) = True := eq_true h4.1;have hne : (d1 != f) = true := by simpa using h4.2
        clear hk h3 h4
        go_wp2_with (go_at_call 62; (with_reducible refine (ih s (by have := PT.iT HS.out; have := Hd.out; omega) (HF.out.kid HS.out) d1 true HD.out _ ?az).mono ?_); (case az => exact sP H1.out); rintro e w' ⟨rfl, ⟨nd, rfl⟩⟩)
        go_ret2
        have := oQ.out
        injection this with e1 e2
        exact ⟨by rw [e1, e2]; first | done | rfl, by repeat (first | exact av.refl _ | apply av.step | exact ⟨_, rfl⟩)⟩
    ·have ce := kS ((i : Int) < (t.kids.length : Int))
     have zg : (i < t.kids.length) = False := eq_false (by omega);have oQ := JU (by omega) HE.out
     injection oQ with e1 e2
     subst e1; subst e2;clear hi HE;go_wp2
     go_quiet (fail)
     go_wp2
     go_ret2
     exact ⟨by first | done | rfl | simp [uA] | simp [IntKind.wrap_i64, wrap64], by repeat (first | exact av.refl _ | apply av.step | exact ⟨_, rfl⟩)⟩
open Go.Proofs.Ytoddejmlcnbdmaa.Fn
theorem gN {w w' : World} (h : av w w') : Below w.heap.size w w' := by
 obtain ⟨n, rfl⟩ := h.out;exact aj (Below.refl _ _) n
theorem mV {N : Nat} {w w' : World} (h : av w w') : Below N w w' := by
 obtain ⟨n, rfl⟩ := h.out;exact aj (Below.refl _ _) n
theorem rM.calls : ∀ (n : Nat) (t : PT), SizeOf.sizeOf t <= n -> om t -> ∀ {p : Nat} (w0 w : World) (v1 v2 : Value) (l1 l2 : List ByteArray), Rd 101 w0 p t -> Below w0.heap.size w0 w -> SR w w0.heap.size v1 l1 -> SR w w0.heap.size v2 l2 -> tZ v1 v2 ->
  (l1 ++ bB t).length <= 8796093022208 -> (l2 ++ eD t).length <= 8796093022208 -> Calls Try.prog 66 #[bu p, v1, v2] w (Rx w0 (l1 ++ bB t) (l2 ++ eD t)) := by
 intro n
 induction n with
 | zero =>
  intro t hs
  cases t with | mk keys vals kids => simp at hs
 | succ n ih =>
  intro t hs hf p w0 w v1 v2 l1 l2 hrd hB ho1 ho2 hne hb1 hb2;obtain ⟨Ak, ck, Av, cv, Ac, cc, ps, ym⟩ := hrd.open;have HN := A_ ym;have HB := A_ hB;have mE := A_ ho1;have mR := A_ ho2;have qA := A_ hne
  obtain ⟨L1, hL1⟩ : ∃ L, L = l1 ++ bB t := ⟨_, rfl⟩
  obtain ⟨L2, hL2⟩ : ∃ L, L = l2 ++ eD t := ⟨_, rfl⟩
  rw [<- hL1, <- hL2];rw [<- hL1] at hb1;rw [<- hL2] at hb2;have DV := A_ hb1;have HL2 := A_ hb2;have HR1 := A_ (show l1 ++ mH t 0 = L1 by rw [Bj, hL1]);have HR2 := A_ (show l2 ++ nL t 0 = L2 by rw [Bl, hL2]);have h1 := hf.one;unfold wN at h1;have uk := A_ h1;have HF := A_ hf;have Hd := A_ hs;have hm : t.keys.length <= 1000 := h1.2.1;have hz0 := (ym.below hB).z0;clear hrd hB ho1 ho2 hne hb1 hb2 hL1 hL2 ym h1 hf hs;go_enter Try.func66, Try.ntmps66;go_wp2
  go_loopg [1, 2, 15] t.keys.length (fun kq u1 u2 u15 w' => ∃ (i : Nat) (x1 x2 : List ByteArray), u15 = .int .i64 (i : Int) /\ af (kq + i = t.keys.length) /\ af (x1 ++ mH t i = L1) /\ af (x2 ++ nL t i = L2) /\ af (SR w' w0.heap.size u1 x1) /\ af (SR w' w0.heap.size u2 x2) /\ af (tZ u1 u2) /\ af (Below w0.heap.size w0 w'))
  case atStart => exact ⟨0, l1, l2, by first | rfl | (simp; done), ⟨Nat.add_zero _⟩, HR1, HR2, mE, mR, qA, HB⟩
  case round =>
   clear HR1 HR2 mE mR qA HB hz0;obtain ⟨i, x1, x2, rfl, HK, HR1, HR2, mE, mR, qA, HB⟩ := hrel;have Tw := A_ (HN.out.below HB.out);have Sr := A_ Tw.out.rd;have hz0 := Tw.out.z0;have hz2 := Tw.out.z2;have ci := bV (0 <= (i : Int))
   by_cases hi : i < t.keys.length
   ·have ce := lQ ((i : Int) < (t.keys.length : Int))
    have zg : (i < t.keys.length) = True := eq_true hi
    have hJ : i <= 1000 := (by omega)
    have HI := A_ hi;obtain ⟨Wt, rfl, hk0⟩ := HN.out.key i (by omega) (by omega);obtain ⟨Mx, rfl, hv0⟩ := HN.out.val i (by omega) (by have := uk.out; omega);rw [Int.toNat_natCast] at hk0 hv0
    obtain ⟨kx, hkx⟩ : ∃ x, x = bO ByteArray.empty t.keys (i : Int) := ⟨_, rfl⟩
    obtain ⟨vx, JL⟩ : ∃ x, x = bO ByteArray.empty t.vals (i : Int) := ⟨_, rfl⟩
    rw [<- hkx] at hk0;rw [<- JL] at hv0
    by_cases h0 : t.kids.length = 0
    ·have hbl := A_ (show decide ((t.kids.length : Int) = 0) = true from decide_eq_true (by omega))
     have e1 := Bn h0 hi;have e2 := Bo h0 (i := i) (by have := uk.out; omega);rw [show t.keys.getD i ByteArray.empty = kx from hkx.symm] at e1;rw [show t.vals.getD i ByteArray.empty = vx from JL.symm] at e2;have oQ := A_ (iV (x := [kx]) HR1.out e1);have HE2 := A_ (iV (x := [vx]) HR2.out e2);have HZ1 := A_ (show x1.length + 1 <= 8796093022208 from kP (x := [kx]) HR1.out e1 DV.out);have HZ2 := A_ (show x2.length + 1 <= 8796093022208 from kP (x := [vx]) HR2.out e2 HL2.out);have o6 := A_ hv0;have Rc := (Below.cell HB.out (World.block_lt_of_cell? w0 _ hk0)).trans hk0;have hva : ((i : Int) < (t.vals.length : Int)) = True := eq_true (by have := uk.out; omega);have hvb : (i < t.vals.length) = True := eq_true (by have := uk.out; omega);clear hk0 hv0 hkx JL e1 e2 hi h0 HR1 HR2
     go_wp2_with ((go_at_call 99; (with_reducible refine (cz.cK true hbl.out _ ?az).mono ?_); (case az => exact Sr.out); rintro e w6 ⟨rfl, hd⟩; have ah := A_ (HB.out.trans (mV hd)); have hz0' := (HN.out.below ah.out).z0; have hz2' := (HN.out.below ah.out).z2; have bT := A_ (SR.under mE.out (gN hd)); have kU := A_ (SR.under mR.out (gN hd)); clear hd; clear HB; clear mE; clear mR; have HB := ah; have mE := bT; have mR := kU; clear ah bT kU))
     have HS2 := A_ (Sat.two mE.out mR.out qA.out);refine bS (n := 16) (S := fun w' => w'.cell? ⟨p, 1, none⟩ = some (.slice (some Mx) t.vals.length cv) /\ w'.cell? (Mx.add i) = some (.string vx)) (ds := []) (bt 16 0) (by kernel_rfl) rfl rfl ⟨(HN.out.below (aG HB.out)).z1, (Below.cell (aG HB.out) (World.block_lt_of_cell? w0 _ o6.out)).trans o6.out⟩ (fun hHeld => ?_);refine aH 0 36 1 ?_;refine aH 1 37 3 ?_;refine aH 4 40 19 ?_;refine aH 5 41 51 ?_;refine aH 6 42 115 ?_;refine aH 7 43 243 ?_;refine aH 9 45 755 ?_;refine fq 8 44 1011 hHeld ?_;refine aH 10 46 2035 ?_;refine fq 11 47 4083 hHeld ?_;refine gQ (σ := Value × Value × Value) 3 (bt 16 8191) (fun z => [(38, z.1), (39, z.2.1), (48, z.2.2)]) (fun z w' => Below w0.heap.size w0 w' /\ Sat w' w0.heap.size [txt z.2.1 (x1 ++ [kx]), txt u2 x2, txt z.2.2 [vx]]) ?_ ?_;rotate_left
     ·intro iE
      refine ve 2 12 (some 38) (some 48) 4087 8179 (fun K hK => ?_) (fun K hK => ?_)
      ·skip
       refine Kd.dO Kd.string (w0 := w0) w0.heap.size 9 (by rfl) (N := 38) rfl (xs := [kx]) (inner := [.string kx]) (ok := fun _ => True) (okp := fun _ => False) ?hr (Kd.aY (enc := Value.string) [kx]) (fun _ h => h.elim) trivial (aG HB.out) ((aG HB.out)).size (by simp) ?_
       (case hr => first | (go_simp; done) | (go_simp; rfl))
       intro vb1 NJ dx hbb hgb hnb;have lV := A_ hbb;have lN := A_ (Sat.lit (Sat.drew HS2.out) dx hgb hnb);obtain ⟨gL, gM, rfl⟩ : ∃ A c, vb1 = .slice A 1 c := Kd.ak dx;clear dx hbb hgb hnb;refine dh 38 hK ⟨(HN.out.below lV.out).z1, (Below.cell lV.out (World.block_lt_of_cell? w0 _ o6.out)).trans o6.out⟩ (fun hHeld => ?_);refine ve 3 12 (some 39) (some 48) 4095 8183 (fun K hK => ?_) (fun K hK => ?_)
       ·skip
        refine Kd.aM Kd.string (w0 := w0) w0.heap.size (by rfl) (.tmp 36) (.tmp 38) 38 9 (.string ⟨#[]⟩) 16 rfl Try.underlying38 dC rfl (by decide) (by omega) u1 x1 [kx] gL 1 gM (fun _ => True) (fun _ => False) rfl rfl (Sat.sr lN.out 0 rfl) (Kd.dS (Sat.sr lN.out 2 rfl)).2.2 (fun _ _ h => h) (fun _ h => h.elim) (fun _ _ => trivial) lV.out (lV.out).size (by have := HZ1.out; (try simp only [List.length_singleton]); omega) ?_;intro NP DT ho hb hg hat;have jD := A_ hb;have iA := A_ (Sat.app 0 lN.out rfl ho hg hat);clear ho hb hg hat;refine dh 39 hK ⟨(HN.out.below jD.out).z1, (Below.cell jD.out (World.block_lt_of_cell? w0 _ o6.out)).trans o6.out⟩ (fun hHeld => ?_);refine gG 12 (some 48) 8191 (fun K hK => ?_);refine Kd.dO Kd.string (w0 := w0) w0.heap.size 9 (by rfl) (N := 48) rfl (xs := [vx]) (inner := [.string vx]) (ok := fun _ => True) (okp := fun _ => False) ?hr (Kd.aY (enc := Value.string) [vx]) (fun _ h => h.elim) trivial jD.out (jD.out).size (by simp) ?_
        (case hr => first | (go_simp; done) | (go_simp; rfl))
        intro pX AZ dx hbb hgb hnb;have kD := A_ hbb;have iw := A_ (Sat.lit iA.out dx hgb hnb);obtain ⟨fQ, fT, rfl⟩ : ∃ A c, pX = .slice A 1 c := Kd.ak dx;clear dx hbb hgb hnb;refine dh 48 hK ⟨(HN.out.below kD.out).z1, (Below.cell kD.out (World.block_lt_of_cell? w0 _ o6.out)).trans o6.out⟩ (fun hHeld => ?_);exact yA (iE ⟨.slice gL 1 gM, NP, .slice fQ 1 fT⟩ _ ⟨kD.out, Sat.sub iw.out (by simp)⟩)
       ·skip
        refine Kd.dO Kd.string (w0 := w0) w0.heap.size 9 (by rfl) (N := 48) rfl (xs := [vx]) (inner := [.string vx]) (ok := fun _ => True) (okp := fun _ => False) ?hr (Kd.aY (enc := Value.string) [vx]) (fun _ h => h.elim) trivial lV.out (lV.out).size (by simp) ?_
        (case hr => first | (go_simp; done) | (go_simp; rfl))
        intro pX DT dx hbb hgb hnb;have jD := A_ hbb;have iA := A_ (Sat.lit lN.out dx hgb hnb);obtain ⟨fQ, fT, rfl⟩ : ∃ A c, pX = .slice A 1 c := Kd.ak dx;clear dx hbb hgb hnb;refine dh 48 hK ⟨(HN.out.below jD.out).z1, (Below.cell jD.out (World.block_lt_of_cell? w0 _ o6.out)).trans o6.out⟩ (fun hHeld => ?_);refine gG 3 (some 39) 8191 (fun K hK => ?_);refine Kd.aM Kd.string (w0 := w0) w0.heap.size (by rfl) (.tmp 36) (.tmp 38) 38 9 (.string ⟨#[]⟩) 16 rfl Try.underlying38 dC rfl (by decide) (by omega) u1 x1 [kx] gL 1 gM (fun _ => True) (fun _ => False) rfl rfl (Sat.sr iA.out 0 rfl) (Kd.dS (Sat.sr iA.out 2 rfl)).2.2 (fun _ _ h => h) (fun _ h => h.elim) (fun _ _ => trivial) jD.out (jD.out).size (by have := HZ1.out; (try simp only [List.length_singleton]); omega) ?_;intro NP AZ ho hb hg hat;have kD := A_ hb;have iw := A_ (Sat.app 0 iA.out rfl ho hg hat);clear ho hb hg hat;refine dh 39 hK ⟨(HN.out.below kD.out).z1, (Below.cell kD.out (World.block_lt_of_cell? w0 _ o6.out)).trans o6.out⟩ (fun hHeld => ?_);exact yA (iE ⟨.slice gL 1 gM, NP, .slice fQ 1 fT⟩ _ ⟨kD.out, Sat.sub iw.out (by simp)⟩)
      ·skip
       refine Kd.dO Kd.string (w0 := w0) w0.heap.size 9 (by rfl) (N := 48) rfl (xs := [vx]) (inner := [.string vx]) (ok := fun _ => True) (okp := fun _ => False) ?hr (Kd.aY (enc := Value.string) [vx]) (fun _ h => h.elim) trivial (aG HB.out) ((aG HB.out)).size (by simp) ?_
       (case hr => first | (go_simp; done) | (go_simp; rfl))
       intro pX NJ dx hbb hgb hnb;have lV := A_ hbb;have lN := A_ (Sat.lit (Sat.drew HS2.out) dx hgb hnb);obtain ⟨fQ, fT, rfl⟩ : ∃ A c, pX = .slice A 1 c := Kd.ak dx;clear dx hbb hgb hnb;refine dh 48 hK ⟨(HN.out.below lV.out).z1, (Below.cell lV.out (World.block_lt_of_cell? w0 _ o6.out)).trans o6.out⟩ (fun hHeld => ?_);refine gG 2 (some 38) 8183 (fun K hK => ?_);refine Kd.dO Kd.string (w0 := w0) w0.heap.size 9 (by rfl) (N := 38) rfl (xs := [kx]) (inner := [.string kx]) (ok := fun _ => True) (okp := fun _ => False) ?hr (Kd.aY (enc := Value.string) [kx]) (fun _ h => h.elim) trivial lV.out (lV.out).size (by simp) ?_
       (case hr => first | (go_simp; done) | (go_simp; rfl))
       intro vb1 DT dx hbb hgb hnb;have jD := A_ hbb;have iA := A_ (Sat.lit lN.out dx hgb hnb);obtain ⟨gL, gM, rfl⟩ : ∃ A c, vb1 = .slice A 1 c := Kd.ak dx;clear dx hbb hgb hnb;refine dh 38 hK ⟨(HN.out.below jD.out).z1, (Below.cell jD.out (World.block_lt_of_cell? w0 _ o6.out)).trans o6.out⟩ (fun hHeld => ?_);refine gG 3 (some 39) 8191 (fun K hK => ?_);refine Kd.aM Kd.string (w0 := w0) w0.heap.size (by rfl) (.tmp 36) (.tmp 38) 38 9 (.string ⟨#[]⟩) 16 rfl Try.underlying38 dC rfl (by decide) (by omega) u1 x1 [kx] gL 1 gM (fun _ => True) (fun _ => False) rfl rfl (Sat.sr iA.out 0 rfl) (Kd.dS (Sat.sr iA.out 3 rfl)).2.2 (fun _ _ h => h) (fun _ h => h.elim) (fun _ _ => trivial) jD.out (jD.out).size (by have := HZ1.out; (try simp only [List.length_singleton]); omega) ?_;intro NP AZ ho hb hg hat;have kD := A_ hb;have iw := A_ (Sat.app 0 iA.out rfl ho hg hat);clear ho hb hg hat;refine dh 39 hK ⟨(HN.out.below kD.out).z1, (Below.cell kD.out (World.block_lt_of_cell? w0 _ o6.out)).trans o6.out⟩ (fun hHeld => ?_);exact yA (iE ⟨.slice gL 1 gM, NP, .slice fQ 1 fT⟩ _ ⟨kD.out, Sat.sub iw.out (by simp)⟩)
     rintro ⟨vb1, NP, pX⟩ w8 ⟨hb, hs⟩;obtain ⟨fQ, fT, rfl⟩ : ∃ A c, pX = .slice A 1 c := Kd.ak (Sat.sr hs 2 rfl)
     have hHeld : (w8.cell? ⟨p, 1, none⟩ = some (.slice (some Mx) t.vals.length cv)) /\ (w8.cell? (Mx.add i) = some (.string vx)) := ⟨(HN.out.below hb).z1, (Below.cell hb (World.block_lt_of_cell? w0 _ o6.out)).trans o6.out⟩
     have He := A_ hb;have DW := A_ hs;clear hb hs;refine uq ?_;refine gG 13 (some 49) 16383 (fun K hK => ?_);refine Kd.aM Kd.string (w0 := w0) w0.heap.size (by rfl) (.tmp 40) (.tmp 48) 38 9 (.string ⟨#[]⟩) 16 rfl Try.underlying38 dC rfl (by decide) (by omega) u2 x2 [vx] fQ 1 fT (fun _ => True) (fun _ => False) rfl rfl (Sat.sr DW.out 1 rfl) (Kd.dS (Sat.sr DW.out 2 rfl)).2.2 (fun _ _ h => h) (fun _ h => h.elim) (fun _ _ => trivial) He.out He.out.size (by have := HZ2.out; (try simp only [List.length_singleton]); omega) ?_;intro u2n w9 ho hb hg hat;have ah := A_ hb;have bT := A_ (Sat.app 1 DW.out rfl ho hg hat);clear ho hb hg hat He DW;have He := ah;have DW := bT;clear ah bT;refine dh 49 hK ⟨(HN.out.below He.out).z1, (Below.cell He.out (World.block_lt_of_cell? w0 _ o6.out)).trans o6.out⟩ (fun hHeld => ?_);refine aH 14 1 32767 ?_;refine aH 15 2 65535 ?_;refine dL (by kernel_rfl) ?_;go_wp2
     go_roundg (t.keys.length - (i + 1))
     case measure => have := HK.out; have := HI.out; omega
     case rel => exact ⟨i + 1, _, _, by first | rfl | go_num | (simp; done), ⟨by have := HK.out; have := HI.out; omega⟩, oQ, HE2, ⟨Sat.sr DW.out 0 rfl⟩, ⟨Sat.sr DW.out 1 rfl⟩, ⟨Sat.ap2 DW.out (i := 0) (j := 1) (by omega) rfl rfl⟩, He⟩
    ·have hbl := A_ (show decide ((t.kids.length : Int) = 0) = false from decide_eq_false (by omega))
     have hkl : t.kids.length = t.keys.length + 1 := uk.out.2.2.resolve_left h0;obtain ⟨adc, q, s, rfl, hc0, hs, hrs⟩ := HN.out.kid i (by omega) (by omega);rw [Int.toNat_natCast] at hc0 hs;have HS := A_ hs;have Re := A_ hrs;have qP := A_ hc0;have Yn := bV ((i : Int) < (t.kids.length : Int));have hcb := bV (i < t.kids.length);have e1 := Bp hs hi;have e2 := Bq hs (i := i) (by have := uk.out; omega);rw [show t.keys.getD i ByteArray.empty = kx from hkx.symm] at e1;rw [show t.vals.getD i ByteArray.empty = vx from JL.symm] at e2;have KA := iV HR1.out e1;have KC := iV HR2.out e2;have oQ := A_ (iV (x := [kx]) KA rfl);have HE2 := A_ (iV (x := [vx]) KC rfl);have HZ1 := A_ (show (x1 ++ bB s).length <= 8796093022208 by rw [List.length_append]; exact kP HR1.out e1 DV.out);have HZ2 := A_ (show (x2 ++ eD s).length <= 8796093022208 by rw [List.length_append]; exact kP HR2.out e2 HL2.out);have HZ3 := A_ (show (x1 ++ bB s).length + 1 <= 8796093022208 from kP (x := [kx]) KA rfl DV.out);have Y8 := A_ (show (x2 ++ eD s).length + 1 <= 8796093022208 from kP (x := [vx]) KC rfl HL2.out);have o6 := A_ hv0;have Rc := (Below.cell HB.out (World.block_lt_of_cell? w0 _ hk0)).trans hk0;have hva : ((i : Int) < (t.vals.length : Int)) = True := eq_true (by have := uk.out; omega);have hvb : (i < t.vals.length) = True := eq_true (by have := uk.out; omega);clear hk0 hv0 hkx JL e1 e2 hi h0 HR1 HR2 KA KC hkl hs hrs hc0
     go_wp2_with (first | (go_at_call 99; (with_reducible refine (cz.cK false hbl.out _ ?az).mono ?_); (case az => exact Sr.out); rintro e w6 ⟨rfl, hd⟩; have ah := A_ (HB.out.trans (mV hd)); have hz0' := (HN.out.below ah.out).z0; have hz2' := (HN.out.below ah.out).z2; have bT := A_ (SR.under mE.out (gN hd)); have kU := A_ (SR.under mR.out (gN hd)); have hzc := (Below.cell ah.out (World.block_lt_of_cell? w0 _ qP.out)).trans qP.out; clear hd; clear HB; clear mE; clear mR; have HB := ah; have mE := bT; have mR := kU; clear ah bT kU) | (go_at_call 66; (with_reducible refine (ih s (by have := PT.iT HS.out; have := Hd.out; omega) (HF.out.kid HS.out) w0 _ u1 u2 x1 x2 Re.out HB.out mE.out mR.out qA.out HZ1.out HZ2.out).mono ?_); rintro e w7 ⟨u3, u4, rfl, ho1, ho2, hne, hb⟩; have ah := A_ ho1; have bT := A_ ho2; have kU := A_ hne; have oP := A_ hb; clear mE mR qA HB; have mE := ah; have mR := bT; have qA := kU; have HB := oP; clear ah bT kU oP ho1 ho2 hne hb))
     have HS2 := A_ (Sat.two mE.out mR.out qA.out);refine bS (n := 16) (S := fun w' => w'.cell? ⟨p, 1, none⟩ = some (.slice (some Mx) t.vals.length cv) /\ w'.cell? (Mx.add i) = some (.string vx)) (ds := []) (bt 16 0) (by kernel_rfl) rfl rfl ⟨(HN.out.below (aG HB.out)).z1, (Below.cell (aG HB.out) (World.block_lt_of_cell? w0 _ o6.out)).trans o6.out⟩ (fun hHeld => ?_);refine aH 0 36 1 ?_;refine aH 1 37 3 ?_;refine aH 4 40 19 ?_;refine aH 5 41 51 ?_;refine aH 6 42 115 ?_;refine aH 7 43 243 ?_;refine aH 9 45 755 ?_;refine fq 8 44 1011 hHeld ?_;refine aH 10 46 2035 ?_;refine fq 11 47 4083 hHeld ?_;refine gQ (σ := Value × Value × Value) 3 (bt 16 8191) (fun z => [(38, z.1), (39, z.2.1), (48, z.2.2)]) (fun z w' => Below w0.heap.size w0 w' /\ Sat w' w0.heap.size [txt z.2.1 ((x1 ++ bB s) ++ [kx]), txt u4 (x2 ++ eD s), txt z.2.2 [vx]]) ?_ ?_;rotate_left
     ·intro iE
      refine ve 2 12 (some 38) (some 48) 4087 8179 (fun K hK => ?_) (fun K hK => ?_)
      ·skip
       refine Kd.dO Kd.string (w0 := w0) w0.heap.size 9 (by rfl) (N := 38) rfl (xs := [kx]) (inner := [.string kx]) (ok := fun _ => True) (okp := fun _ => False) ?hr (Kd.aY (enc := Value.string) [kx]) (fun _ h => h.elim) trivial (aG HB.out) ((aG HB.out)).size (by simp) ?_
       (case hr => first | (go_simp; done) | (go_simp; rfl))
       intro vb1 NJ dx hbb hgb hnb;have lV := A_ hbb;have lN := A_ (Sat.lit (Sat.drew HS2.out) dx hgb hnb);obtain ⟨gL, gM, rfl⟩ : ∃ A c, vb1 = .slice A 1 c := Kd.ak dx;clear dx hbb hgb hnb;refine dh 38 hK ⟨(HN.out.below lV.out).z1, (Below.cell lV.out (World.block_lt_of_cell? w0 _ o6.out)).trans o6.out⟩ (fun hHeld => ?_);refine ve 3 12 (some 39) (some 48) 4095 8183 (fun K hK => ?_) (fun K hK => ?_)
       ·skip
        refine Kd.aM Kd.string (w0 := w0) w0.heap.size (by rfl) (.tmp 36) (.tmp 38) 38 9 (.string ⟨#[]⟩) 16 rfl Try.underlying38 dC rfl (by decide) (by omega) u3 (x1 ++ bB s) [kx] gL 1 gM (fun _ => True) (fun _ => False) rfl rfl (Sat.sr lN.out 0 rfl) (Kd.dS (Sat.sr lN.out 2 rfl)).2.2 (fun _ _ h => h) (fun _ h => h.elim) (fun _ _ => trivial) lV.out (lV.out).size (by have := HZ3.out; (try simp only [List.length_singleton]); omega) ?_;intro NP DT ho hb hg hat;have jD := A_ hb;have iA := A_ (Sat.app 0 lN.out rfl ho hg hat);clear ho hb hg hat;refine dh 39 hK ⟨(HN.out.below jD.out).z1, (Below.cell jD.out (World.block_lt_of_cell? w0 _ o6.out)).trans o6.out⟩ (fun hHeld => ?_);refine gG 12 (some 48) 8191 (fun K hK => ?_);refine Kd.dO Kd.string (w0 := w0) w0.heap.size 9 (by rfl) (N := 48) rfl (xs := [vx]) (inner := [.string vx]) (ok := fun _ => True) (okp := fun _ => False) ?hr (Kd.aY (enc := Value.string) [vx]) (fun _ h => h.elim) trivial jD.out (jD.out).size (by simp) ?_
        (case hr => first | (go_simp; done) | (go_simp; rfl))
        intro pX AZ dx hbb hgb hnb;have kD := A_ hbb;have iw := A_ (Sat.lit iA.out dx hgb hnb);obtain ⟨fQ, fT, rfl⟩ : ∃ A c, pX = .slice A 1 c := Kd.ak dx;clear dx hbb hgb hnb;refine dh 48 hK ⟨(HN.out.below kD.out).z1, (Below.cell kD.out (World.block_lt_of_cell? w0 _ o6.out)).trans o6.out⟩ (fun hHeld => ?_);exact yA (iE ⟨.slice gL 1 gM, NP, .slice fQ 1 fT⟩ _ ⟨kD.out, Sat.sub iw.out (by simp)⟩)
       ·skip
        refine Kd.dO Kd.string (w0 := w0) w0.heap.size 9 (by rfl) (N := 48) rfl (xs := [vx]) (inner := [.string vx]) (ok := fun _ => True) (okp := fun _ => False) ?hr (Kd.aY (enc := Value.string) [vx]) (fun _ h => h.elim) trivial lV.out (lV.out).size (by simp) ?_
        (case hr => first | (go_simp; done) | (go_simp; rfl))
        intro pX DT dx hbb hgb hnb;have jD := A_ hbb;have iA := A_ (Sat.lit lN.out dx hgb hnb);obtain ⟨fQ, fT, rfl⟩ : ∃ A c, pX = .slice A 1 c := Kd.ak dx;clear dx hbb hgb hnb;refine dh 48 hK ⟨(HN.out.below jD.out).z1, (Below.cell jD.out (World.block_lt_of_cell? w0 _ o6.out)).trans o6.out⟩ (fun hHeld => ?_);refine gG 3 (some 39) 8191 (fun K hK => ?_);refine Kd.aM Kd.string (w0 := w0) w0.heap.size (by rfl) (.tmp 36) (.tmp 38) 38 9 (.string ⟨#[]⟩) 16 rfl Try.underlying38 dC rfl (by decide) (by omega) u3 (x1 ++ bB s) [kx] gL 1 gM (fun _ => True) (fun _ => False) rfl rfl (Sat.sr iA.out 0 rfl) (Kd.dS (Sat.sr iA.out 2 rfl)).2.2 (fun _ _ h => h) (fun _ h => h.elim) (fun _ _ => trivial) jD.out (jD.out).size (by have := HZ3.out; (try simp only [List.length_singleton]); omega) ?_;intro NP AZ ho hb hg hat;have kD := A_ hb;have iw := A_ (Sat.app 0 iA.out rfl ho hg hat);clear ho hb hg hat;refine dh 39 hK ⟨(HN.out.below kD.out).z1, (Below.cell kD.out (World.block_lt_of_cell? w0 _ o6.out)).trans o6.out⟩ (fun hHeld => ?_);exact yA (iE ⟨.slice gL 1 gM, NP, .slice fQ 1 fT⟩ _ ⟨kD.out, Sat.sub iw.out (by simp)⟩)
      ·skip
       refine Kd.dO Kd.string (w0 := w0) w0.heap.size 9 (by rfl) (N := 48) rfl (xs := [vx]) (inner := [.string vx]) (ok := fun _ => True) (okp := fun _ => False) ?hr (Kd.aY (enc := Value.string) [vx]) (fun _ h => h.elim) trivial (aG HB.out) ((aG HB.out)).size (by simp) ?_
       (case hr => first | (go_simp; done) | (go_simp; rfl))
       intro pX NJ dx hbb hgb hnb;have lV := A_ hbb;have lN := A_ (Sat.lit (Sat.drew HS2.out) dx hgb hnb);obtain ⟨fQ, fT, rfl⟩ : ∃ A c, pX = .slice A 1 c := Kd.ak dx;clear dx hbb hgb hnb;refine dh 48 hK ⟨(HN.out.below lV.out).z1, (Below.cell lV.out (World.block_lt_of_cell? w0 _ o6.out)).trans o6.out⟩ (fun hHeld => ?_);refine gG 2 (some 38) 8183 (fun K hK => ?_);refine Kd.dO Kd.string (w0 := w0) w0.heap.size 9 (by rfl) (N := 38) rfl (xs := [kx]) (inner := [.string kx]) (ok := fun _ => True) (okp := fun _ => False) ?hr (Kd.aY (enc := Value.string) [kx]) (fun _ h => h.elim) trivial lV.out (lV.out).size (by simp) ?_
       (case hr => first | (go_simp; done) | (go_simp; rfl))
       intro vb1 DT dx hbb hgb hnb;have jD := A_ hbb;have iA := A_ (Sat.lit lN.out dx hgb hnb);obtain ⟨gL, gM, rfl⟩ : ∃ A c, vb1 = .slice A 1 c := Kd.ak dx;clear dx hbb hgb hnb;refine dh 38 hK ⟨(HN.out.below jD.out).z1, (Below.cell jD.out (World.block_lt_of_cell? w0 _ o6.out)).trans o6.out⟩ (fun hHeld => ?_);refine gG 3 (some 39) 8191 (fun K hK => ?_);refine Kd.aM Kd.string (w0 := w0) w0.heap.size (by rfl) (.tmp 36) (.tmp 38) 38 9 (.string ⟨#[]⟩) 16 rfl Try.underlying38 dC rfl (by decide) (by omega) u3 (x1 ++ bB s) [kx] gL 1 gM (fun _ => True) (fun _ => False) rfl rfl (Sat.sr iA.out 0 rfl) (Kd.dS (Sat.sr iA.out 3 rfl)).2.2 (fun _ _ h => h) (fun _ h => h.elim) (fun _ _ => trivial) jD.out (jD.out).size (by have := HZ3.out; (try simp only [List.length_singleton]); omega) ?_;intro NP AZ ho hb hg hat;have kD := A_ hb;have iw := A_ (Sat.app 0 iA.out rfl ho hg hat);clear ho hb hg hat;refine dh 39 hK ⟨(HN.out.below kD.out).z1, (Below.cell kD.out (World.block_lt_of_cell? w0 _ o6.out)).trans o6.out⟩ (fun hHeld => ?_);exact yA (iE ⟨.slice gL 1 gM, NP, .slice fQ 1 fT⟩ _ ⟨kD.out, Sat.sub iw.out (by simp)⟩)
     rintro ⟨vb1, NP, pX⟩ w8 ⟨hb, hs⟩;obtain ⟨fQ, fT, rfl⟩ : ∃ A c, pX = .slice A 1 c := Kd.ak (Sat.sr hs 2 rfl)
     have hHeld : (w8.cell? ⟨p, 1, none⟩ = some (.slice (some Mx) t.vals.length cv)) /\ (w8.cell? (Mx.add i) = some (.string vx)) := ⟨(HN.out.below hb).z1, (Below.cell hb (World.block_lt_of_cell? w0 _ o6.out)).trans o6.out⟩
     have He := A_ hb;have DW := A_ hs;clear hb hs;refine uq ?_;refine gG 13 (some 49) 16383 (fun K hK => ?_);refine Kd.aM Kd.string (w0 := w0) w0.heap.size (by rfl) (.tmp 40) (.tmp 48) 38 9 (.string ⟨#[]⟩) 16 rfl Try.underlying38 dC rfl (by decide) (by omega) u4 (x2 ++ eD s) [vx] fQ 1 fT (fun _ => True) (fun _ => False) rfl rfl (Sat.sr DW.out 1 rfl) (Kd.dS (Sat.sr DW.out 2 rfl)).2.2 (fun _ _ h => h) (fun _ h => h.elim) (fun _ _ => trivial) He.out He.out.size (by have := Y8.out; (try simp only [List.length_singleton]); omega) ?_;intro u2n w9 ho hb hg hat;have ah := A_ hb;have bT := A_ (Sat.app 1 DW.out rfl ho hg hat);clear ho hb hg hat He DW;have He := ah;have DW := bT;clear ah bT;refine dh 49 hK ⟨(HN.out.below He.out).z1, (Below.cell He.out (World.block_lt_of_cell? w0 _ o6.out)).trans o6.out⟩ (fun hHeld => ?_);refine aH 14 1 32767 ?_;refine aH 15 2 65535 ?_;refine dL (by kernel_rfl) ?_;go_wp2
     go_roundg (t.keys.length - (i + 1))
     case measure => have := HK.out; have := HI.out; omega
     case rel => exact ⟨i + 1, _, _, by first | rfl | go_num | (simp; done), ⟨by have := HK.out; have := HI.out; omega⟩, oQ, HE2, ⟨Sat.sr DW.out 0 rfl⟩, ⟨Sat.sr DW.out 1 rfl⟩, ⟨Sat.ap2 DW.out (i := 0) (j := 1) (by omega) rfl rfl⟩, He⟩
   ·have ce := kS ((i : Int) < (t.keys.length : Int))
    have zg : (i < t.keys.length) = False := eq_false hi;obtain rfl : i = t.keys.length := by have := HK.out; omega
    by_cases h0 : t.kids.length = 0
    ·have hbl := A_ (show decide ((t.kids.length : Int) = 0) = true from decide_eq_true (by omega))
     have oQ := show x1 = L1 by have := uk.out; rw [<- HR1.out, rF (by omega) (by omega), List.append_nil]
     have HE2 := show x2 = L2 by have := uk.out; rw [<- HR2.out, rG (by omega) (by omega), List.append_nil]
     subst oQ;subst HE2;clear hi
     go_wp2_with ((go_at_call 99; (with_reducible refine (cz.cK true hbl.out _ ?az).mono ?_); (case az => exact Sr.out); rintro e w6 ⟨rfl, hd⟩; have ah := A_ (HB.out.trans (mV hd)); have hz0' := (HN.out.below ah.out).z0; have hz2' := (HN.out.below ah.out).z2; have bT := A_ (SR.under mE.out (gN hd)); have kU := A_ (SR.under mR.out (gN hd)); clear hd; clear HB; clear mE; clear mR; have HB := ah; have mE := bT; have mR := kU; clear ah bT kU))
     go_ret2
     exact ⟨_, _, rfl, mE.out, mR.out, qA.out, HB.out⟩
    ·have hbl := A_ (show decide ((t.kids.length : Int) = 0) = false from decide_eq_false (by omega))
     have hkl : t.kids.length = t.keys.length + 1 := uk.out.2.2.resolve_left h0;obtain ⟨adc, q, s, rfl, hc0, hs, hrs⟩ := HN.out.kid (t.keys.length : Int) (by omega) (by omega);rw [Int.toNat_natCast] at hc0 hs;have HS := A_ hs;have Re := A_ hrs;have qP := A_ hc0;have Yn := lQ ((t.keys.length : Int) < (t.kids.length : Int));have hcb := bV (t.keys.length < t.kids.length);have e1 := Br hs (Nat.le_refl _) hkl;have e2 := Bt hs (by have := uk.out; omega) hkl;have oQ := show x1 ++ bB s = L1 by rw [<- HR1.out, e1, rF (by omega) (by omega), List.append_nil]
     have HE2 := show x2 ++ eD s = L2 by have := uk.out; rw [<- HR2.out, e2, rG (by omega) (by omega), List.append_nil]
     have HZ1 := A_ (show (x1 ++ bB s).length <= 8796093022208 by rw [oQ]; exact DV.out);have HZ2 := A_ (show (x2 ++ eD s).length <= 8796093022208 by rw [HE2]; exact HL2.out);subst oQ;subst HE2;clear hi e1 e2 hkl hs hrs hc0 h0 HR1 HR2
     go_wp2_with ((go_at_call 99; (with_reducible refine (cz.cK false hbl.out _ ?az).mono ?_); (case az => exact Sr.out); rintro e w6 ⟨rfl, hd⟩; have ah := A_ (HB.out.trans (mV hd)); have hz0 := (HN.out.below ah.out).z0; have hz2 := (HN.out.below ah.out).z2; have bT := A_ (SR.under mE.out (gN hd)); have kU := A_ (SR.under mR.out (gN hd)); have hzc := (Below.cell ah.out (World.block_lt_of_cell? w0 _ qP.out)).trans qP.out; clear hd; clear HB; clear mE; clear mR; have HB := ah; have mE := bT; have mR := kU; clear ah bT kU))
     have Ty := HB;refine bS (n := 19) (S := fun w' => w'.cell? ⟨p, 2, none⟩ = some (.slice (some adc) t.kids.length cc) /\ w'.cell? ⟨p, 0, none⟩ = some (.slice Ak t.keys.length ck) /\ w'.cell? (adc.add t.keys.length) = some (bu q)) (ds := [13]) (bt 19 0) (by kernel_rfl) rfl rfl ⟨hz2, hz0, hzc⟩ (fun hHeld => ?_);refine aH 0 55 1 ?_;refine aH 1 56 3 ?_;refine aH 2 57 7 ?_;refine aH 4 59 23 ?_;refine aH 5 60 55 ?_;refine aH 6 61 119 ?_;refine aH 11 66 2167 ?_;refine aH 12 67 6263 ?_;refine fq 3 58 6271 hHeld ?_;refine fq 7 62 6399 hHeld ?_;refine aH 8 63 6655 ?_;refine aH 9 64 7167 ?_;refine fq 10 65 8191 hHeld ?_;refine qz 13 (some 68) 16383 (fun K hK => ?_);refine lI Try.func66 #[bu q, u1, u2] ?_
     with_reducible refine (ih s (by have := PT.iT HS.out; have := Hd.out; omega) (HF.out.kid HS.out) w0 _ u1 u2 x1 x2 Re.out (aG Ty.out) (SR.under mE.out (aG (Below.refl _ _))) (SR.under mR.out (aG (Below.refl _ _))) qA.out HZ1.out HZ2.out).mono ?_
     rintro e w5 ⟨u3, u4, rfl, ho1, ho2, hne, hb⟩;refine ⟨_, rfl, ?_⟩;have ah := A_ ho1;have bT := A_ ho2;have kU := A_ hne;have oP := A_ hb;clear ho1 ho2 hne hb;refine hK.out _ _ ?_;clear hK K;refine YK 68 ?_;refine aH 14 54 32767 ?_;refine aH 15 69 65535 ?_;refine aH 16 70 131071 ?_;refine aH 17 1 262143 ?_;refine aH 18 2 524287 ?_;refine dL (by kernel_rfl) ?_;go_wp2
     go_ret2
     exact ⟨_, _, rfl, ah.out, bT.out, kU.out, oP.out⟩
open Go.Proofs.Ytoddejmlcnbdmaa.Fn
theorem vz {p0 q : Prop} (h0 : p0) (h : p0 -> q := by intro uu; repeat (first | exact uu | (with_reducible refine Rd.drewN ?_ _) | (with_reducible refine Rd.drew ?_))) : q := h h0
theorem pY.calls : ∀ (n : Nat) (t : PT), SizeOf.sizeOf t <= n -> JS t -> ∀ {p : Nat} (w : World), Rd 96 w p t ->
  Calls Try.prog 61 #[bu p] w fun e w' => e = .returned (.int .i64 (iJ t)) /\ av w w' := by
 intro n
 induction n with
 | zero =>
  intro t hs
  cases t with | mk keys vals kids => simp at hs
 | succ n ih =>
  intro t hs hf p w h
  by_cases h0 : t.kids.length = 0
  ·have HO := A_ h
   have HE := A_ (Bg h0);have hb0 := A_ (show decide ((t.kids.length : Int) = 0) = true from decide_eq_true (by omega));clear h h0;go_enter Try.func61, Try.ntmps61
   go_wp2_with (go_at_call 84; (with_reducible refine (dm.cK true hb0.out _ ?az).mono ?_); (case az => exact vz HO.out); rintro e w' ⟨rfl, ⟨nd, rfl⟩⟩)
   go_ret;exact ⟨by rw [HE.out]; first | done | rfl, by repeat (first | exact av.refl _ | apply av.step)⟩
  ·have HO := A_ h
   have hb0 := A_ (show decide ((t.kids.length : Int) = 0) = false from decide_eq_false (by omega));obtain ⟨Ak, ck, Av, cv, Ac, cc, ps, HN⟩ := h.open;have hz2 := HN.z2;obtain ⟨ad, q0, c, rfl, hz0, hs0, ho0⟩ := HN.kid 0 (by omega) (by omega);have H0 := A_ ho0;have hS := A_ (PT.iT hs0);have HC := A_ hs0;have Y9 := A_ HN;have HF := A_ hf;have Hd := A_ hs;have HL := A_ (show 0 < t.kids.length by omega);have HE := A_ (Bh hs0);have hz0' : w.cell? ad = some (bu q0) := at0 hz0;have p0b : (0 < t.kids.length) = True := eq_true HL.out;clear h h0 hz0 hs0 ho0 HN hf hs;go_enter Try.func61, Try.ntmps61
   go_upto_region 5 with (first | (go_at_call 84; (with_reducible refine (dm.cK false hb0.out _ ?az).mono ?_); (case az => exact vz HO.out); rintro e w' ⟨rfl, ⟨nd, rfl⟩⟩) | (go_at_call 61; (with_reducible refine (ih c (by have := hS.out; have := Hd.out; omega) (HF.out.kid HC.out) _ ?az).mono ?_); (case az => exact vz H0.out); rintro e w' ⟨rfl, ⟨nd, rfl⟩⟩))
   generalize iJ c = d at HE
   go_loopg [20] t.kids.length (fun kq v20 w' => ∃ (i m : Nat), v20 = .int .i64 (i : Int) /\ af (kq + i = t.kids.length) /\ af (iJ t = if pq d (t.kids.drop i) then wrap64 (d + 1) else -1) /\ w' = w.drewN m)
   case atStart => exact ⟨0, _, by first | rfl | (simp; done), ⟨Nat.add_zero _⟩, HE, rfl⟩
   case round =>
    clear HE H0 HC hz0' hS;obtain ⟨i, m, rfl, HK, HE, rfl⟩ := hrel
    by_cases hi : i < t.kids.length
    ·obtain ⟨Xu, q, s, ha, hz, hs, ho⟩ := Y9.out.kid i (by omega) (by omega)
     obtain rfl : ad = Xu := Option.some.inj ha;rw [Int.toNat_natCast] at hz hs;obtain ⟨zG, ck1, vO, rD, UD, Tx, ps1, P8⟩ := ho.open;have Rc := P8.z0;have HS := A_ hs;have H1 := A_ ho;have HI := A_ hi;have ce := lQ ((i : Int) < (t.kids.length : Int));have cea := bV ((i : Int) < (t.kids.length : Int));have zg : (i < t.kids.length) = True := eq_true hi;have cec := bV (0 <= (i : Int));clear P8 ho hs hi ha
     by_cases hd : d < 0
     ·have Yo : decide (d < 0) = true := decide_eq_true hd
      have oQ := A_ (yI HS.out HE.out (.inl hd));clear hd;go_wp2;go_ret;exact ⟨by rw [oQ.out]; first | done | rfl, by repeat (first | exact av.refl _ | apply av.step | exact ⟨_, rfl⟩)⟩
     ·have Yo : decide (d < 0) = false := decide_eq_false hd
      have HD := A_ hd;clear hd
      by_cases he : iJ s = d
      ·subst he
       by_cases hk : s.keys.length < 2
       ·have oQ := A_ (yI HS.out HE.out (.inr (.inr hk)))
        have hkb := lQ ((s.keys.length : Int) < 2);clear hk
        go_wp2_with (go_at_call 61; (with_reducible refine (ih s (by have := PT.iT HS.out; have := Hd.out; omega) (HF.out.kid HS.out) _ ?az).mono ?_); (case az => exact vz H1.out); rintro e w' ⟨rfl, ⟨nd, rfl⟩⟩)
        go_ret;exact ⟨by rw [oQ.out]; first | done | rfl, by repeat (first | exact av.refl _ | apply av.step | exact ⟨_, rfl⟩)⟩
       ·have oQ := A_ (OG HS.out HE.out HD.out rfl hk)
        have hkb := kS ((s.keys.length : Int) < 2);clear hk;have hm : t.kids.length <= 1048576 := HF.out.len;have hj : i < t.kids.length := HI.out
        go_wp2_with (go_at_call 61; (with_reducible refine (ih s (by have := PT.iT HS.out; have := Hd.out; omega) (HF.out.kid HS.out) _ ?az).mono ?_); (case az => exact vz H1.out); rintro e w' ⟨rfl, ⟨nd, rfl⟩⟩)
        go_roundg (t.kids.length - (i + 1))
        case measure => have := HK.out; omega
        case rel => exact ⟨i + 1, _, by first | rfl | go_num | (simp; done), ⟨by omega⟩, oQ, rfl⟩
      ·have oQ := A_ (yI HS.out HE.out (.inr (.inl he)))
       have heb : (iJ s != d) = true := by simpa using he
       clear he
       go_wp2_with (go_at_call 61; (with_reducible refine (ih s (by have := PT.iT HS.out; have := Hd.out; omega) (HF.out.kid HS.out) _ ?az).mono ?_); (case az => exact vz H1.out); rintro e w' ⟨rfl, ⟨nd, rfl⟩⟩)
       go_ret;exact ⟨by rw [oQ.out]; first | done | rfl, by repeat (first | exact av.refl _ | apply av.step | exact ⟨_, rfl⟩)⟩
    ·have ce := kS ((i : Int) < (t.kids.length : Int))
     have zg : (i < t.kids.length) = False := eq_false (by omega);have oQ := A_ (MR (by omega) HE.out);clear hi;go_wp2;go_ret;exact ⟨by rw [oQ.out]; first | rfl | simp [uA] | simp [IntKind.wrap_i64, wrap64], by repeat (first | exact av.refl _ | apply av.step | exact ⟨_, rfl⟩)⟩
end Go.Proofs.Ytoddejmlcnbdmaa.Tree
namespace Go.Proofs.Ytoddejmlcnbdmaa.Fn
def cmp_isNaN_string.f (a0 : ByteArray) : Option (Bool) := some (a0.toList != a0.toList)
theorem cmp_isNaN_string.calls (a0 : ByteArray) (r : Bool) (w : World) (h : cmp_isNaN_string.f a0 = some r) :
  Calls Try.prog 135 #[.string a0] w fun e w' => e = .returned (.bool r) /\ av w w' := by
 have H : (some (a0.toList != a0.toList)) = some r := h;clear h;obtain rfl := Option.some.inj H;go_enter Try.func135, Try.ntmps135;go_wp2;go_ret;exact ⟨by first | rfl | (simp; done) | (simp [*]; done), by repeat (first | exact av.refl _ | apply av.step)⟩
def cmp_Less_string.f (a0 : ByteArray) (a1 : ByteArray) : Option (Bool) := (cmp_isNaN_string.f a0).bind fun NQ => (if NQ = true then ((cmp_isNaN_string.f a1).bind fun DX => (if DX = true then (some (Op.bytesLess a0.toList a1.toList)) else (some true))) else (some (Op.bytesLess a0.toList a1.toList)))
theorem cmp_Less_string.calls (a0 : ByteArray) (a1 : ByteArray) (r : Bool) (w : World) (h : cmp_Less_string.f a0 a1 = some r) :
  Calls Try.prog 122 #[.string a0, .string a1] w fun e w' => e = .returned (.bool r) /\ av w w' := by
 have H : ((cmp_isNaN_string.f a0).bind fun NQ => (if NQ = true then ((cmp_isNaN_string.f a1).bind fun DX => (if DX = true then (some (Op.bytesLess a0.toList a1.toList)) else (some true))) else (some (Op.bytesLess a0.toList a1.toList)))) = some r := h;clear h;replace H := Option.bind_eq_some_iff.mp H;obtain ⟨NQ, xx, H⟩ := H;replace H : (if NQ = true then ((cmp_isNaN_string.f a1).bind fun DX => (if DX = true then (some (Op.bytesLess a0.toList a1.toList)) else (some true))) else (some (Op.bytesLess a0.toList a1.toList))) = some r := H;have A3 := A_ xx;clear xx
 by_cases c4 : NQ = true
 ·subst c4
  have H1 : ((cmp_isNaN_string.f a1).bind fun DX => (if DX = true then (some (Op.bytesLess a0.toList a1.toList)) else (some true))) = some r := by rw [if_pos rfl] at H; exact H
  clear H;have H := H1;clear H1;replace H := Option.bind_eq_some_iff.mp H;obtain ⟨DX, P9, H⟩ := H;replace H : (if DX = true then (some (Op.bytesLess a0.toList a1.toList)) else (some true)) = some r := H;have A5 := A_ P9;clear P9
  by_cases c6 : DX = true
  ·subst c6
   have H1 : (some (Op.bytesLess a0.toList a1.toList)) = some r := by rw [if_pos rfl] at H; exact H
   clear H;have H := H1;clear H1;obtain rfl := Option.some.inj H;go_enter Try.func122, Try.ntmps122
   go_wp2_with (first | ((with_reducible refine cB (f := 135) rfl ?_); refine jf (some 6) rfl rfl Try.func135 (by kernel_rfl) rfl #[.string a0] rfl (Dv) ?_; (with_reducible refine (cmp_isNaN_string.calls a0 true _ A3.out).mono ?_); rintro e w' ⟨rfl, ⟨nd, rfl⟩⟩; refine ⟨_, rfl, ?_⟩) | (go_at_call 135; (with_reducible refine (cmp_isNaN_string.calls a1 true _ A5.out).mono ?_); rintro e w' ⟨rfl, ⟨nd, rfl⟩⟩))
   go_ret;exact ⟨by first | rfl | (simp only [Gen.pG, Gen.sJ]; first | done | rfl | (simp; done)) | (simp; done) | (simp [*]; done), by repeat (first | exact av.refl _ | apply av.step)⟩
  ·replace c6 := Bool.eq_false_iff.mpr c6
   subst c6;have H1 : (some true) = some r := by rw [if_neg (show ¬ (false = true) by decide)] at H; exact H
   clear H;have H := H1;clear H1;obtain rfl := Option.some.inj H;go_enter Try.func122, Try.ntmps122
   go_wp2_with (first | ((with_reducible refine cB (f := 135) rfl ?_); refine jf (some 6) rfl rfl Try.func135 (by kernel_rfl) rfl #[.string a0] rfl (Dv) ?_; (with_reducible refine (cmp_isNaN_string.calls a0 true _ A3.out).mono ?_); rintro e w' ⟨rfl, ⟨nd, rfl⟩⟩; refine ⟨_, rfl, ?_⟩) | (go_at_call 135; (with_reducible refine (cmp_isNaN_string.calls a1 false _ A5.out).mono ?_); rintro e w' ⟨rfl, ⟨nd, rfl⟩⟩))
   go_ret;exact ⟨by first | rfl | (simp only [Gen.pG, Gen.sJ]; first | done | rfl | (simp; done)) | (simp; done) | (simp [*]; done), by repeat (first | exact av.refl _ | apply av.step)⟩
 ·replace c4 := Bool.eq_false_iff.mpr c4
  subst c4;have H1 : (some (Op.bytesLess a0.toList a1.toList)) = some r := by rw [if_neg (show ¬ (false = true) by decide)] at H; exact H
  clear H;have H := H1;clear H1;obtain rfl := Option.some.inj H;go_enter Try.func122, Try.ntmps122
  go_wp2_with (first | ((with_reducible refine cB (f := 135) rfl ?_); refine jf (some 6) rfl rfl Try.func135 (by kernel_rfl) rfl #[.string a0] rfl (Dv) ?_; (with_reducible refine (cmp_isNaN_string.calls a0 false _ A3.out).mono ?_); rintro e w' ⟨rfl, ⟨nd, rfl⟩⟩; refine ⟨_, rfl, ?_⟩))
  go_ret;exact ⟨by first | rfl | (simp only [Gen.pG, Gen.sJ]; first | done | rfl | (simp; done)) | (simp; done) | (simp [*]; done), by repeat (first | exact av.refl _ | apply av.step)⟩
def slices_isNaN_string.f (a0 : ByteArray) : Option (Bool) := some (a0.toList != a0.toList)
theorem slices_isNaN_string.calls (a0 : ByteArray) (r : Bool) (w : World) (h : slices_isNaN_string.f a0 = some r) :
  Calls Try.prog 123 #[.string a0] w fun e w' => e = .returned (.bool r) /\ av w w' := by
 have H : (some (a0.toList != a0.toList)) = some r := h;clear h;obtain rfl := Option.some.inj H;go_enter Try.func123, Try.ntmps123;go_wp2;go_ret;exact ⟨by first | rfl | (simp; done) | (simp [*]; done), by repeat (first | exact av.refl _ | apply av.step)⟩
def ag.l0 : Nat -> List ByteArray -> ByteArray -> Int -> Int -> Int -> Option (Int × Bool)
 | 0, _, _, _, _, _ => none
 | k + 1, x0, x1, x6, x7, x8 => if x7 < x8 then (if 0 <= (wrap64 ((IntKind.u64.wrap (wrap64 (x7 + x8))) / 2)) then (if (wrap64 ((IntKind.u64.wrap (wrap64 (x7 + x8))) / 2)) < (x0.length : Int) then ((cmp_Less_string.f (bO ByteArray.empty x0 (wrap64 ((IntKind.u64.wrap (wrap64 (x7 + x8))) / 2))) x1).bind fun NR => (if NR = true then (ag.l0 k x0 x1 x6 (wrap64 ((wrap64 ((IntKind.u64.wrap (wrap64 (x7 + x8))) / 2)) + 1)) x8) else (ag.l0 k x0 x1 x6 x7 (wrap64 ((IntKind.u64.wrap (wrap64 (x7 + x8))) / 2))))) else (none)) else (none)) else (if x7 < x6 then (if 0 <= x7 then (if x7 < (x0.length : Int) then (if (bO ByteArray.empty x0 x7).toList = x1.toList then (some (x7, true)) else ((slices_isNaN_string.f (bO ByteArray.empty x0 x7)).bind fun Su => (if Su = true then ((slices_isNaN_string.f x1).bind fun I9 => (some (x7, I9))) else (some (x7, false))))) else (none)) else (none)) else (some (x7, false)))
def ag.f (k : Nat) (l0 : List ByteArray) (a1 : ByteArray) : Option (Int × Bool) := ag.l0 k l0 a1 (l0.length : Int) 0 (l0.length : Int)
theorem ag.uC : ∀ k, (∀ y0 y1 y2 y3 y4, j6 (ag.l0 k y0 y1 y2 y3 y4) (ag.l0 (k + 1) y0 y1 y2 y3 y4))
 | 0 => fun _ _ _ _ _ r h => by simp [ag.l0] at h
 | k + 1 => by
  have Qa := ag.uC k
  ·intro y0 y1 y2 y3 y4
   unfold ag.l0
   repeat' (with_reducible first | exact Qa _ _ _ _ _ | exact j6.refl _ | exact j6.none _ | refine j6.ite ?_ ?_ | refine j6.bind ?_ (fun _ => ?_))
theorem ag.mono : ∀ a0 a1 k, j6 (ag.f k a0 a1) (ag.f (k + 1) a0 a1) := by
 intro a0 a1 k;have Qa := ag.uC k;unfold ag.f
 repeat' (with_reducible first | exact Qa _ _ _ _ _ | exact j6.refl _ | exact j6.none _ | refine j6.ite ?_ ?_ | refine j6.bind ?_ (fun _ => ?_))
theorem ag.calls (k : Nat) (A0 : Option Addr) (c0 : Nat) (l0 : List ByteArray) (a1 : ByteArray) (r1 : Int) (r2 : Bool) (w : World) (hr0 : Kd.C Kd.string w A0 l0.length l0) (hc0 : l0.length <= c0) (h : ag.f k l0 a1 = some (r1, r2)) :
  Calls Try.prog 103 #[.slice A0 l0.length c0, .string a1] w fun e w' => e = .returned (.tuple #[.int .i64 r1, .bool r2]) /\ av w w' := by
 have nJ := A_ hr0;have qP := A_ hc0;clear hr0 hc0;have H : (ag.l0 k l0 a1 (l0.length : Int) 0 (l0.length : Int)) = some (r1, r2) := h;clear h;have H' := A_ H;clear H;go_enter Try.func103, Try.ntmps103;go_wp2
 go_loopg [7, 8] k (fun kq v7 v8 w' => ∃ (bX : Int) (kE : Int), v7 = .int .i64 bX /\ v8 = .int .i64 kE /\ af (ag.l0 kq l0 a1 (l0.length : Int) bX kE = some (r1, r2)) /\ af (kq <= k) /\ av w w')
 case atStart => exact ⟨(0), ((l0.length : Int)), (by first | rfl | (simp; done) | (simp [*]; done)), (by first | rfl | (simp; done) | (simp [*]; done)), H', ⟨Nat.le_refl _⟩, by repeat (first | exact av.refl _ | apply av.step)⟩
 case round =>
  clear H';(try clear c1); (try clear p2);obtain ⟨bX, kE, rfl, rfl, HA, wE, ⟨m1, rfl⟩⟩ := hrel
  cases gk with
  | zero => exact absurd HA.out (by simp [ag.l0])
  | succ k1 =>
   have H := HA.out;clear HA;simp only [ag.l0] at H
   by_cases c3 : bX < kE
   ·rw [if_pos c3] at H
    have tT : decide (bX < kE) = true := decide_eq_true c3;clear c3
    obtain ⟨zH, KD⟩ : ∃ j_ : Int, (wrap64 ((IntKind.u64.wrap (wrap64 (bX + kE))) / 2)) = j_ := ⟨_, rfl⟩
    replace H : (if 0 <= (zH) then (if (zH) < (l0.length : Int) then ((cmp_Less_string.f (bO ByteArray.empty l0 (zH)) a1).bind fun NR => (if NR = true then (ag.l0 k1 l0 a1 (l0.length : Int) (wrap64 ((zH) + 1)) kE) else (ag.l0 k1 l0 a1 (l0.length : Int) bX zH))) else (none)) else (none)) = some (r1, r2) := by first | (rw [KD] at H; exact H) | (simp only [KD] at H ⊢; exact H)
    have hji4w : (IntKind.i64.wrap ((IntKind.u64.wrap (wrap64 (bX + kE))) / 2)) = zH := (uA _).trans KD
    by_cases c5 : 0 <= (zH)
    ·rw [if_pos c5] at H
     have DY : decide (0 <= (zH)) = true := decide_eq_true c5;clear c5
     by_cases c6 : (zH) < (l0.length : Int)
     ·rw [if_pos c6] at H
      have Sv : decide ((zH) < (l0.length : Int)) = true := decide_eq_true c6;clear c6;replace H := Option.bind_eq_some_iff.mp H;obtain ⟨NR, Xv, H⟩ := H;replace H : (if NR = true then (ag.l0 k1 l0 a1 (l0.length : Int) (wrap64 ((zH) + 1)) kE) else (ag.l0 k1 l0 a1 (l0.length : Int) bX zH)) = some (r1, r2) := H;have A7 := A_ Xv;clear Xv
      by_cases c8 : NR = true
      ·subst c8
       have H1 : (ag.l0 k1 l0 a1 (l0.length : Int) (wrap64 ((zH) + 1)) kE) = some (r1, r2) := by rw [if_pos rfl] at H; exact H
       clear H;have H := H1;clear H1;have H' := A_ H;clear H;have KE : 0 <= ((zH) : Int) := of_decide_eq_true jh;have KF : (zH) < (l0.length : Int) := of_decide_eq_true jh;obtain ⟨ad239, UE, hx239_0⟩ := Kd.bH nJ.out (zH) KE KF
       cases UE
       replace KE := eq_true KE;replace KF := eq_true KF
       go_wp2_with (first | ((with_reducible refine cB (f := 122) rfl ?_); refine jf (some 27) rfl rfl Try.func122 (by kernel_rfl) rfl #[.string (bO ByteArray.empty l0 (zH)), .string a1] rfl (by (try simp only [List.map_toArray, List.map_cons, List.map_nil]); first | done | (simp only [KD]; rfl) | rfl | (simp only [List.length_drop, List.length_take]; rfl)) ?_; (with_reducible refine (cmp_Less_string.calls (bO ByteArray.empty l0 (zH)) a1 true _ A7.out).mono ?_); rintro e w' ⟨rfl, ⟨nd, rfl⟩⟩; refine ⟨_, rfl, ?_⟩))
       go_roundg k1
       case measure => have := wE.out; omega
       case rel => exact ⟨(wrap64 ((zH) + 1)), (kE), (by first | rfl | (simp; done) | (simp only [<- KD] <;> (first | rfl | simp)) | (simp [*]; done)), (by first | rfl | (simp; done) | (simp [*]; done)), H', ⟨by have := wE.out; omega⟩, by repeat (first | exact av.refl _ | apply av.step)⟩
      ·replace c8 := Bool.eq_false_iff.mpr c8
       subst c8;have H1 : (ag.l0 k1 l0 a1 (l0.length : Int) bX zH) = some (r1, r2) := by rw [if_neg (show ¬ (false = true) by decide)] at H; exact H
       clear H;have H := H1;clear H1;have H' := A_ H;clear H;have KE : 0 <= ((zH) : Int) := of_decide_eq_true jh;have KF : (zH) < (l0.length : Int) := of_decide_eq_true jh;obtain ⟨ad239, UE, hx239_0⟩ := Kd.bH nJ.out (zH) KE KF
       cases UE
       replace KE := eq_true KE;replace KF := eq_true KF
       go_wp2_with (first | ((with_reducible refine cB (f := 122) rfl ?_); refine jf (some 27) rfl rfl Try.func122 (by kernel_rfl) rfl #[.string (bO ByteArray.empty l0 (zH)), .string a1] rfl (by (try simp only [List.map_toArray, List.map_cons, List.map_nil]); first | done | (simp only [KD]; rfl) | rfl | (simp only [List.length_drop, List.length_take]; rfl)) ?_; (with_reducible refine (cmp_Less_string.calls (bO ByteArray.empty l0 (zH)) a1 false _ A7.out).mono ?_); rintro e w' ⟨rfl, ⟨nd, rfl⟩⟩; refine ⟨_, rfl, ?_⟩))
       go_roundg k1
       case measure => have := wE.out; omega
       case rel => exact ⟨(bX), (zH), (by first | rfl | (simp; done) | (simp [*]; done)), (by first | rfl | (simp; done) | (simp only [<- KD] <;> (first | rfl | simp)) | (simp [*]; done)), H', ⟨by have := wE.out; omega⟩, by repeat (first | exact av.refl _ | apply av.step)⟩
     ·rw [if_neg c6] at H
      exact absurd H (by simp)
    ·rw [if_neg c5] at H
     exact absurd H (by simp)
   ·rw [if_neg c3] at H
    have tT : decide (bX < kE) = false := decide_eq_false c3;clear c3
    by_cases c9 : bX < (l0.length : Int)
    ·rw [if_pos c9] at H
     have Sw : decide (bX < (l0.length : Int)) = true := decide_eq_true c9;clear c9
     by_cases c10 : 0 <= bX
     ·rw [if_pos c10] at H
      have c10b0 : decide (0 <= bX) = true := decide_eq_true c10;clear c10
      by_cases c11 : bX < (l0.length : Int)
      ·rw [if_pos c11] at H
       have c11b0 : decide (bX < (l0.length : Int)) = true := decide_eq_true c11;clear c11
       by_cases c12 : (bO ByteArray.empty l0 bX).toList = a1.toList
       ·rw [if_pos c12] at H
        have c12b0 : ((bO ByteArray.empty l0 bX).toList == a1.toList) = true := beq_iff_eq.mpr c12;have c12b1 : ((bO ByteArray.empty l0 bX).toList != a1.toList) = false := bne_eq_false_iff_eq.mpr c12;clear c12;simp only [Option.some.injEq, Prod.mk.injEq] at H;obtain ⟨rfl, rfl⟩ := H;have CS : 0 <= (bX : Int) := of_decide_eq_true jh;have CU : bX < (l0.length : Int) := of_decide_eq_true jh;obtain ⟨MB, e241, hx241_0⟩ := Kd.bH nJ.out bX CS CU
        cases e241
        replace CS := eq_true CS;replace CU := eq_true CU;go_wp2
        go_ret2
        exact ⟨by first | rfl | (simp; done) | (simp [*]; done), by repeat (first | exact av.refl _ | apply av.step)⟩
       ·rw [if_neg c12] at H
        have c12b0 : ((bO ByteArray.empty l0 bX).toList == a1.toList) = false := beq_eq_false_iff_ne.mpr c12;have c12b1 : ((bO ByteArray.empty l0 bX).toList != a1.toList) = true := bne_iff_ne.mpr c12;replace H := Option.bind_eq_some_iff.mp H;obtain ⟨Su, A130, H⟩ := H;replace H : (if Su = true then ((slices_isNaN_string.f a1).bind fun I9 => (some (bX, I9))) else (some (bX, false))) = some (r1, r2) := H;have A13 := A_ A130;clear A130
        by_cases c14 : Su = true
        ·subst c14
         have H1 : ((slices_isNaN_string.f a1).bind fun I9 => (some (bX, I9))) = some (r1, r2) := by rw [if_pos rfl] at H; exact H
         clear H;have H := H1;clear H1;replace H := Option.bind_eq_some_iff.mp H;obtain ⟨I9, A150, H⟩ := H;replace H : (some (bX, I9)) = some (r1, r2) := H;have Za := A_ A150;clear A150;simp only [Option.some.injEq, Prod.mk.injEq] at H;obtain ⟨rfl, rfl⟩ := H;have CS : 0 <= (bX : Int) := of_decide_eq_true jh;have CU : bX < (l0.length : Int) := of_decide_eq_true jh;obtain ⟨MB, e241, hx241_0⟩ := Kd.bH nJ.out bX CS CU
         cases e241
         replace CS := eq_true CS;replace CU := eq_true CU;have KG : 0 <= (bX : Int) := of_decide_eq_true jh;have KH : bX < (l0.length : Int) := of_decide_eq_true jh;obtain ⟨Qb, e242, hx242_0⟩ := Kd.bH nJ.out bX KG KH
         obtain rfl : MB = Qb := (by injection e242)
         replace KG := eq_true KG;replace KH := eq_true KH
         go_wp2_with (first | (go_at_call 123; (with_reducible refine (slices_isNaN_string.calls (bO ByteArray.empty l0 bX) true _ A13.out).mono ?_); rintro e w' ⟨rfl, ⟨nd, rfl⟩⟩) | (go_at_call 123; (with_reducible refine (slices_isNaN_string.calls a1 I9 _ Za.out).mono ?_); rintro e w' ⟨rfl, ⟨nd, rfl⟩⟩))
         go_ret2
         exact ⟨by first | rfl | (simp; done) | (simp [*]; done), by repeat (first | exact av.refl _ | apply av.step)⟩
        ·replace c14 := Bool.eq_false_iff.mpr c14
         subst c14;have H1 : (some (bX, false)) = some (r1, r2) := by rw [if_neg (show ¬ (false = true) by decide)] at H; exact H
         clear H;have H := H1;clear H1;simp only [Option.some.injEq, Prod.mk.injEq] at H;obtain ⟨rfl, rfl⟩ := H;have CS : 0 <= (bX : Int) := of_decide_eq_true jh;have CU : bX < (l0.length : Int) := of_decide_eq_true jh;obtain ⟨MB, e241, hx241_0⟩ := Kd.bH nJ.out bX CS CU
         cases e241
         replace CS := eq_true CS;replace CU := eq_true CU;have KG : 0 <= (bX : Int) := of_decide_eq_true jh;have KH : bX < (l0.length : Int) := of_decide_eq_true jh;obtain ⟨Qb, e242, hx242_0⟩ := Kd.bH nJ.out bX KG KH
         obtain rfl : MB = Qb := (by injection e242)
         replace KG := eq_true KG;replace KH := eq_true KH
         go_wp2_with (first | (go_at_call 123; (with_reducible refine (slices_isNaN_string.calls (bO ByteArray.empty l0 bX) false _ A13.out).mono ?_); rintro e w' ⟨rfl, ⟨nd, rfl⟩⟩))
         go_ret2
         exact ⟨by first | rfl | (simp; done) | (simp [*]; done), by repeat (first | exact av.refl _ | apply av.step)⟩
      ·rw [if_neg c11] at H
       exact absurd H (by simp)
     ·rw [if_neg c10] at H
      exact absurd H (by simp)
    ·rw [if_neg c9] at H
     have Sw : decide (bX < (l0.length : Int)) = false := decide_eq_false c9;clear c9;simp only [Option.some.injEq, Prod.mk.injEq] at H;obtain ⟨rfl, rfl⟩ := H;go_wp2
     go_ret2
     exact ⟨by first | rfl | (simp; done) | (simp [*]; done), by repeat (first | exact av.refl _ | apply av.step)⟩
def ed.f (k : Nat) (l0 : List ByteArray) (a1 : ByteArray) : Option (Int) := (ag.f k l0 a1).bind fun Qc => (some Qc.1)
theorem ed.mono : ∀ a0 a1 k, j6 (ed.f k a0 a1) (ed.f (k + 1) a0 a1) := by
 intro a0 a1 k;unfold ed.f
 repeat' (with_reducible first | exact ag.mono _ _ _ | exact j6.refl _ | exact j6.none _ | refine j6.ite ?_ ?_ | refine j6.bind ?_ (fun _ => ?_))
theorem ed.calls (k : Nat) (A0 : Option Addr) (c0 : Nat) (l0 : List ByteArray) (a1 : ByteArray) (r : Int) (w : World) (hr0 : Kd.C Kd.string w A0 l0.length l0) (hc0 : l0.length <= c0) (h : ed.f k l0 a1 = some r) :
  Calls Try.prog 73 #[.slice A0 l0.length c0, .string a1] w fun e w' => e = .returned (.int .i64 r) /\ av w w' := by
 have nJ := A_ hr0;have qP := A_ hc0;clear hr0 hc0;have H : ((ag.f k l0 a1).bind fun Qc => (some Qc.1)) = some r := h;clear h;replace H := Option.bind_eq_some_iff.mp H;obtain ⟨⟨t245, t246⟩, xx, H⟩ := H;replace H : (some t245) = some r := H;have A3 := A_ xx;clear xx;obtain rfl := Option.some.inj H;go_enter Try.func73, Try.ntmps73
 go_wp2_with (first | ((with_reducible refine cB (f := 103) rfl ?_); refine jf (some 10) rfl rfl Try.func103 (by kernel_rfl) rfl #[.slice A0 l0.length c0, .string a1] rfl (Dv) ?_; (with_reducible refine (ag.calls k _ _ l0 a1 t245 t246 _ ?az ?bW A3.out).mono ?_); (case az => refine TH ?_; exact nJ.out); (case bW => exact qP.out); rintro e w' ⟨rfl, ⟨nd, rfl⟩⟩; refine ⟨_, rfl, ?_⟩))
 go_ret;exact ⟨by first | rfl | (simp; done) | (simp [*]; done), by repeat (first | exact av.refl _ | apply av.step)⟩
def eH.f (l0 : List ByteArray) (a1 : Int) (a2 : ByteArray) : Option (Bool) := if a1 < (l0.length : Int) then (if 0 <= a1 then (some ((bO ByteArray.empty l0 a1).toList == a2.toList)) else (none)) else (some false)
theorem eH.calls (A0 : Option Addr) (c0 : Nat) (l0 : List ByteArray) (a1 : Int) (a2 : ByteArray) (r : Bool) (w : World) (hr0 : Kd.C Kd.string w A0 l0.length l0) (hc0 : l0.length <= c0) (h : eH.f l0 a1 a2 = some r) :
  Calls Try.prog 101 #[.slice A0 l0.length c0, .int .i64 a1, .string a2] w fun e w' => e = .returned (.bool r) /\ av w w' := by
 have nJ := A_ hr0;have qP := A_ hc0;clear hr0 hc0;have H : (if a1 < (l0.length : Int) then (if 0 <= a1 then (some ((bO ByteArray.empty l0 a1).toList == a2.toList)) else (none)) else (some false)) = some r := h;clear h
 by_cases c4 : a1 < (l0.length : Int)
 ·rw [if_pos c4] at H
  have tV : decide (a1 < (l0.length : Int)) = true := decide_eq_true c4;clear c4
  by_cases c5 : 0 <= a1
  ·rw [if_pos c5] at H
   have DY : decide (0 <= a1) = true := decide_eq_true c5;clear c5;obtain rfl := Option.some.inj H;have UF : 0 <= (a1 : Int) := of_decide_eq_true jh;have UG : a1 < (l0.length : Int) := of_decide_eq_true jh;obtain ⟨ad247, e247, hx247_0⟩ := Kd.bH nJ.out a1 UF UG
   cases e247
   replace UF := eq_true UF;replace UG := eq_true UG;go_enter Try.func101, Try.ntmps101;go_wp2;go_ret;exact ⟨by first | rfl | (simp; done) | (simp [*]; done), by repeat (first | exact av.refl _ | apply av.step)⟩
  ·rw [if_neg c5] at H
   exact absurd H (by simp)
 ·rw [if_neg c4] at H
  have tV : decide (a1 < (l0.length : Int)) = false := decide_eq_false c4;clear c4;obtain rfl := Option.some.inj H;go_enter Try.func101, Try.ntmps101;go_wp2;go_ret;exact ⟨by first | rfl | (simp; done) | (simp [*]; done), by repeat (first | exact av.refl _ | apply av.step)⟩
end Go.Proofs.Ytoddejmlcnbdmaa.Fn
namespace Go.Proofs.Ytoddejmlcnbdmaa.Tree
open Go.Proofs.Ytoddejmlcnbdmaa.Fn
def yK (a b : ByteArray) : Bool := Op.bytesLess a.toList b.toList
def dG (key : ByteArray) : List ByteArray -> Nat
 | [] => 0
 | k :: ks => if yK k key then dG key ks + 1 else 0
def jg (keys : List ByteArray) (i : Nat) (key : ByteArray) : Bool := match keys[i]? with
 | some k => k.toList == key.toList
 | none => false
theorem TJ {key k : ByteArray} {l : List ByteArray} {i x : Nat} (hk : l[i]? = some k) (h : x = i + dG key (l.drop i)) (hlt : yK k key = true) : x = (i + 1) + dG key (l.drop (i + 1)) := by
 rw [fO hk, dG, if_pos hlt] at h;omega
theorem Ry {key k : ByteArray} {l : List ByteArray} {i x : Nat} (hk : l[i]? = some k) (h : x = i + dG key (l.drop i)) (hlt : yK k key = false) : x = i := by
 rw [fO hk, dG, if_neg (by rw [hlt]; decide)] at h;omega
theorem Rz {key : ByteArray} {l : List ByteArray} {i x : Nat} (hi : l.length <= i) (h : x = i + dG key (l.drop i)) : x = i := by
 rw [List.drop_eq_nil_of_le hi, dG] at h;omega
theorem lS (key : ByteArray) : ∀ l : List ByteArray, dG key l <= l.length
 | [] => Nat.le_refl _
 | k :: ks => by
  rw [dG];have := lS key ks
  split
  ·simp only [List.length_cons]; omega
  ·exact Nat.zero_le _
theorem jQ {keys : List ByteArray} {i : Nat} {key : ByteArray} (h : jg keys i key = true) : i < keys.length := by
 unfold jg at h
 rcases Nat.lt_or_ge i keys.length with hi | hi
 ·exact hi
 ·rw [List.getElem?_eq_none hi] at h
  cases h
def xH : Nat -> PT -> ByteArray -> ByteArray × Bool
 | 0, _, _ => (ByteArray.empty, false)
 | n + 1, t, key => if jg t.keys (dG key t.keys) key then (bO ByteArray.empty t.vals (dG key t.keys : Int), true) else if t.kids.length = 0 then (ByteArray.empty, false) else match t.kids[dG key t.keys]? with
  | some s => xH n s key
  | none => (ByteArray.empty, false)
def vT (k : Nat) : Nat -> PT -> ByteArray -> Option (ByteArray × Bool)
 | 0, _, _ => none
 | n + 1, t, key => (ed.f k t.keys key).bind fun a => (eH.f t.keys a key).bind fun h =>
  if h = true then (if 0 <= a /\ a < (t.vals.length : Int) then some (bO ByteArray.empty t.vals a, true) else none)
  else if t.kids.length = 0 then some (ByteArray.empty, false)
  else if 0 <= a then (match t.kids[a.toNat]? with
   | some s => vT k n s key
   | none => none) else none
end Go.Proofs.Ytoddejmlcnbdmaa.Tree
namespace Go.Proofs.Ytoddejmlcnbdmaa.Fn
def eO.f (a0 : ByteArray) : Option (Bool) := some (decide ((a0.size : Int) <= 12))
theorem eO.calls (a0 : ByteArray) (r : Bool) (w : World) (h : eO.f a0 = some r) :
  Calls Try.prog 104 #[.string a0] w fun e w' => e = .returned (.bool r) /\ av w w' := by
 have H : (some (decide ((a0.size : Int) <= 12))) = some r := h;clear h;obtain rfl := Option.some.inj H;go_enter Try.func104, Try.ntmps104;go_wp2;go_ret;exact ⟨by first | rfl | (simp; done) | (simp [*]; done), by repeat (first | exact av.refl _ | apply av.step)⟩
def eP.f (a0 : ByteArray) (a1 : ByteArray) : Option (Bool) := (eO.f a0).bind fun t167 => (if t167 = true then ((eO.f a1).bind fun t168 => (if t168 = true then (some (a0.toList != ([] : List UInt8))) else (some false))) else (some false))
theorem eP.calls (a0 : ByteArray) (a1 : ByteArray) (r : Bool) (w : World) (h : eP.f a0 a1 = some r) :
  Calls Try.prog 75 #[.string a0, .string a1] w fun e w' => e = .returned (.bool r) /\ av w w' := by
 have H : ((eO.f a0).bind fun t167 => (if t167 = true then ((eO.f a1).bind fun t168 => (if t168 = true then (some (a0.toList != ([] : List UInt8))) else (some false))) else (some false))) = some r := h;clear h;replace H := Option.bind_eq_some_iff.mp H;obtain ⟨t167, xx, H⟩ := H;replace H : (if t167 = true then ((eO.f a1).bind fun t168 => (if t168 = true then (some (a0.toList != ([] : List UInt8))) else (some false))) else (some false)) = some r := H;have A3 := A_ xx;clear xx
 by_cases c4 : t167 = true
 ·subst c4
  have H1 : ((eO.f a1).bind fun t168 => (if t168 = true then (some (a0.toList != ([] : List UInt8))) else (some false))) = some r := by rw [if_pos rfl] at H; exact H
  clear H;have H := H1;clear H1;replace H := Option.bind_eq_some_iff.mp H;obtain ⟨t168, P9, H⟩ := H;replace H : (if t168 = true then (some (a0.toList != ([] : List UInt8))) else (some false)) = some r := H;have A5 := A_ P9;clear P9
  by_cases c6 : t168 = true
  ·subst c6
   have H1 : (some (a0.toList != ([] : List UInt8))) = some r := by rw [if_pos rfl] at H; exact H
   clear H;have H := H1;clear H1;obtain rfl := Option.some.inj H;go_enter Try.func75, Try.ntmps75
   go_wp2_with (first | ((with_reducible refine cB (f := 104) rfl ?_); refine jf (some 6) rfl rfl Try.func104 (by kernel_rfl) rfl #[.string a0] rfl (Dv) ?_; (with_reducible refine (eO.calls a0 true _ A3.out).mono ?_); rintro e w' ⟨rfl, ⟨nd, rfl⟩⟩; refine ⟨_, rfl, ?_⟩) | (go_at_call 104; (with_reducible refine (eO.calls a1 true _ A5.out).mono ?_); rintro e w' ⟨rfl, ⟨nd, rfl⟩⟩))
   go_ret;exact ⟨by first | rfl | (simp only [Gen.pG, Gen.sJ]; first | done | rfl | (simp; done)) | (simp; done) | (simp [*]; done), by repeat (first | exact av.refl _ | apply av.step)⟩
  ·replace c6 := Bool.eq_false_iff.mpr c6
   subst c6;have H1 : (some false) = some r := by rw [if_neg (show ¬ (false = true) by decide)] at H; exact H
   clear H;have H := H1;clear H1;obtain rfl := Option.some.inj H;go_enter Try.func75, Try.ntmps75
   go_wp2_with (first | ((with_reducible refine cB (f := 104) rfl ?_); refine jf (some 6) rfl rfl Try.func104 (by kernel_rfl) rfl #[.string a0] rfl (Dv) ?_; (with_reducible refine (eO.calls a0 true _ A3.out).mono ?_); rintro e w' ⟨rfl, ⟨nd, rfl⟩⟩; refine ⟨_, rfl, ?_⟩) | (go_at_call 104; (with_reducible refine (eO.calls a1 false _ A5.out).mono ?_); rintro e w' ⟨rfl, ⟨nd, rfl⟩⟩))
   go_ret;exact ⟨by first | rfl | (simp only [Gen.pG, Gen.sJ]; first | done | rfl | (simp; done)) | (simp; done) | (simp [*]; done), by repeat (first | exact av.refl _ | apply av.step)⟩
 ·replace c4 := Bool.eq_false_iff.mpr c4
  subst c4;have H1 : (some false) = some r := by rw [if_neg (show ¬ (false = true) by decide)] at H; exact H
  clear H;have H := H1;clear H1;obtain rfl := Option.some.inj H;go_enter Try.func75, Try.ntmps75
  go_wp2_with (first | ((with_reducible refine cB (f := 104) rfl ?_); refine jf (some 6) rfl rfl Try.func104 (by kernel_rfl) rfl #[.string a0] rfl (Dv) ?_; (with_reducible refine (eO.calls a0 false _ A3.out).mono ?_); rintro e w' ⟨rfl, ⟨nd, rfl⟩⟩; refine ⟨_, rfl, ?_⟩))
  go_ret;exact ⟨by first | rfl | (simp only [Gen.pG, Gen.sJ]; first | done | rfl | (simp; done)) | (simp; done) | (simp [*]; done), by repeat (first | exact av.refl _ | apply av.step)⟩
def lg.f (a0 : Int) (a1 : Int) (a2 : Int) : Option (Bool) := if a0 >= a1 then (some (decide (a0 <= a2))) else (some false)
theorem lg.calls (a0 : Int) (a1 : Int) (a2 : Int) (r : Bool) (w : World) (h : lg.f a0 a1 a2 = some r) :
  Calls Try.prog 69 #[.int .i64 a0, .int .i64 a1, .int .i64 a2] w fun e w' => e = .returned (.bool r) /\ av w w' := by
 have H : (if a0 >= a1 then (some (decide (a0 <= a2))) else (some false)) = some r := h;clear h
 by_cases c4 : a0 >= a1
 ·rw [if_pos c4] at H
  have tV : decide (a1 <= a0) = true := decide_eq_true c4;clear c4;obtain rfl := Option.some.inj H;go_enter Try.func69, Try.ntmps69;go_wp2;go_ret;exact ⟨by first | rfl | (simp; done) | (simp [*]; done), by repeat (first | exact av.refl _ | apply av.step)⟩
 ·rw [if_neg c4] at H
  have tV : decide (a1 <= a0) = false := decide_eq_false c4;clear c4;obtain rfl := Option.some.inj H;go_enter Try.func69, Try.ntmps69;go_wp2;go_ret;exact ⟨by first | rfl | (simp; done) | (simp [*]; done), by repeat (first | exact av.refl _ | apply av.step)⟩
def iF.f (a0 : ByteArray) : Option (Bool) := (lg.f (a0.size : Int) 1 12).bind fun t169 => (some t169)
theorem iF.calls (a0 : ByteArray) (r : Bool) (w : World) (h : iF.f a0 = some r) :
  Calls Try.prog 78 #[.string a0] w fun e w' => e = .returned (.bool r) /\ av w w' := by
 have H : ((lg.f (a0.size : Int) 1 12).bind fun t169 => (some t169)) = some r := h;clear h;replace H := Option.bind_eq_some_iff.mp H;obtain ⟨t169, zI, H⟩ := H;replace H : (some t169) = some r := H;have A2 := A_ zI;clear zI;obtain rfl := Option.some.inj H;go_enter Try.func78, Try.ntmps78
 go_wp2_with (first | ((with_reducible refine cB (f := 69) rfl ?_); refine jf (some 5) rfl rfl Try.func69 (by kernel_rfl) rfl #[.int .i64 (a0.size : Int), .int .i64 1, .int .i64 12] rfl (Dv) ?_; (with_reducible refine (lg.calls (a0.size : Int) 1 12 t169 _ A2.out).mono ?_); rintro e w' ⟨rfl, ⟨nd, rfl⟩⟩; refine ⟨_, rfl, ?_⟩))
 go_ret;exact ⟨by first | rfl | (simp; done) | (simp [*]; done), by repeat (first | exact av.refl _ | apply av.step)⟩
def aT.l0 : Nat -> List ByteArray -> List ByteArray -> Int -> Int -> Option (Bool)
 | 0, _, _, _, _ => none
 | k + 1, x0, x5, x6, x7 => if x7 < x6 then (if 0 <= x7 then (if x7 < (x5.length : Int) then ((iF.f (bO ByteArray.empty x5 x7)).bind fun t171 => (if t171 = true then (if x7 > 0 then (if 0 <= (wrap64 (x7 - 1)) then (if (wrap64 (x7 - 1)) < (x0.length : Int) then (if ((Op.bytesLess ((bO ByteArray.empty x0 (wrap64 (x7 - 1))).toList) ((bO ByteArray.empty x5 x7).toList)) = true) then (aT.l0 k x0 x5 x6 (wrap64 (x7 + 1))) else (some false)) else (none)) else (none)) else (aT.l0 k x0 x5 x6 (wrap64 (x7 + 1)))) else (some false))) else (none)) else (none)) else (some true)
def aT.f (k : Nat) (l0 : List ByteArray) : Option (Bool) := aT.l0 k l0 l0 (l0.length : Int) 0
theorem aT.uC : ∀ k, (∀ y0 y1 y2 y3, j6 (aT.l0 k y0 y1 y2 y3) (aT.l0 (k + 1) y0 y1 y2 y3))
 | 0 => fun _ _ _ _ r h => by simp [aT.l0] at h
 | k + 1 => by
  have Qa := aT.uC k
  ·intro y0 y1 y2 y3
   unfold aT.l0
   repeat' (with_reducible first | exact Qa _ _ _ _ | exact j6.refl _ | exact j6.none _ | refine j6.ite ?_ ?_ | refine j6.bind ?_ (fun _ => ?_))
theorem aT.mono : ∀ a0 k, j6 (aT.f k a0) (aT.f (k + 1) a0) := by
 intro a0 k;have Qa := aT.uC k;unfold aT.f
 repeat' (with_reducible first | exact Qa _ _ _ _ | exact j6.refl _ | exact j6.none _ | refine j6.ite ?_ ?_ | refine j6.bind ?_ (fun _ => ?_))
theorem aT.calls (k : Nat) (A0 : Option Addr) (c0 : Nat) (l0 : List ByteArray) (r : Bool) (w : World) (hr0 : Kd.C Kd.string w A0 l0.length l0) (hc0 : l0.length <= c0) (h : aT.f k l0 = some r) :
  Calls Try.prog 115 #[.slice A0 l0.length c0] w fun e w' => e = .returned (.bool r) /\ av w w' := by
 have nJ := A_ hr0;have qP := A_ hc0;clear hr0 hc0;have H : (aT.l0 k l0 l0 (l0.length : Int) 0) = some r := h;clear h;have H' := A_ H;clear H;go_enter Try.func115, Try.ntmps115;go_wp2
 go_loopg [7] k (fun kq v7 w' => ∃ (bX : Int), v7 = .int .i64 bX /\ af (aT.l0 kq l0 l0 (l0.length : Int) bX = some r) /\ af (kq <= k) /\ av w w')
 case atStart => exact ⟨(0), (by first | rfl | (simp; done) | (simp [*]; done)), H', ⟨Nat.le_refl _⟩, by repeat (first | exact av.refl _ | apply av.step)⟩
 case round =>
  clear H';(try clear c1);obtain ⟨bX, rfl, HA, wE, ⟨m1, rfl⟩⟩ := hrel
  cases gk with
  | zero => exact absurd HA.out (by simp [aT.l0])
  | succ k1 =>
   have H := HA.out;clear HA;simp only [aT.l0] at H
   by_cases c2 : bX < (l0.length : Int)
   ·rw [if_pos c2] at H
    have UH : decide (bX < (l0.length : Int)) = true := decide_eq_true c2;clear c2
    by_cases c3 : 0 <= bX
    ·rw [if_pos c3] at H
     have tT : decide (0 <= bX) = true := decide_eq_true c3;clear c3
     by_cases c4 : bX < (l0.length : Int)
     ·rw [if_pos c4] at H
      have tV : decide (bX < (l0.length : Int)) = true := decide_eq_true c4;clear c4;replace H := Option.bind_eq_some_iff.mp H;obtain ⟨t171, P9, H⟩ := H;replace H : (if t171 = true then (if bX > 0 then (if 0 <= (wrap64 (bX - 1)) then (if (wrap64 (bX - 1)) < (l0.length : Int) then (if ((Op.bytesLess ((bO ByteArray.empty l0 (wrap64 (bX - 1))).toList) ((bO ByteArray.empty l0 bX).toList)) = true) then (aT.l0 k1 l0 l0 (l0.length : Int) (wrap64 (bX + 1))) else (some false)) else (none)) else (none)) else (aT.l0 k1 l0 l0 (l0.length : Int) (wrap64 (bX + 1)))) else (some false)) = some r := H;have A5 := A_ P9;clear P9
      by_cases c6 : t171 = true
      ·subst c6
       have H1 : (if bX > 0 then (if 0 <= (wrap64 (bX - 1)) then (if (wrap64 (bX - 1)) < (l0.length : Int) then (if ((Op.bytesLess ((bO ByteArray.empty l0 (wrap64 (bX - 1))).toList) ((bO ByteArray.empty l0 bX).toList)) = true) then (aT.l0 k1 l0 l0 (l0.length : Int) (wrap64 (bX + 1))) else (some false)) else (none)) else (none)) else (aT.l0 k1 l0 l0 (l0.length : Int) (wrap64 (bX + 1)))) = some r := by rw [if_pos rfl] at H; exact H
       clear H;have H := H1;clear H1
       by_cases c7 : bX > 0
       ·rw [if_pos c7] at H
        have Ja : decide (0 < bX) = true := decide_eq_true c7;clear c7
        obtain ⟨Jb, Qd⟩ : ∃ j_ : Int, (wrap64 (bX - 1)) = j_ := ⟨_, rfl⟩
        replace H : (if 0 <= (Jb) then (if (Jb) < (l0.length : Int) then (if ((Op.bytesLess ((bO ByteArray.empty l0 (Jb)).toList) ((bO ByteArray.empty l0 bX).toList)) = true) then (aT.l0 k1 l0 l0 (l0.length : Int) (wrap64 (bX + 1))) else (some false)) else (none)) else (none)) = some r := by first | (rw [Qd] at H; exact H) | (simp only [Qd] at H ⊢; exact H)
        (try rw [Qd] at A5)
        have hji8w : (IntKind.i64.wrap (bX - 1)) = Jb := (uA _).trans Qd
        by_cases c9 : 0 <= (Jb)
        ·rw [if_pos c9] at H
         have Sw : decide (0 <= (Jb)) = true := decide_eq_true c9;clear c9
         by_cases c10 : (Jb) < (l0.length : Int)
         ·rw [if_pos c10] at H
          have c10b0 : decide ((Jb) < (l0.length : Int)) = true := decide_eq_true c10;clear c10
          by_cases c11 : ((Op.bytesLess ((bO ByteArray.empty l0 (Jb)).toList) ((bO ByteArray.empty l0 bX).toList)) = true)
          ·rw [if_pos c11] at H
           have c11b0 : (Op.bytesLess ((bO ByteArray.empty l0 (Jb)).toList) ((bO ByteArray.empty l0 bX).toList)) = true := c11;clear c11;have H' := A_ H;clear H;have xn : 0 <= (bX : Int) := of_decide_eq_true jh;have xq : bX < (l0.length : Int) := of_decide_eq_true jh;obtain ⟨Jc, e170, GH⟩ := Kd.bH nJ.out bX xn xq
           cases e170
           replace xn := eq_true xn;replace xq := eq_true xq
           go_wp2_with (first | ((with_reducible refine cB (f := 78) rfl ?_); refine jf (some 13) rfl rfl Try.func78 (by kernel_rfl) rfl #[.string (bO ByteArray.empty l0 bX)] rfl (Dv) ?_; (with_reducible refine (iF.calls (bO ByteArray.empty l0 bX) true _ A5.out).mono ?_); rintro e w' ⟨rfl, ⟨nd, rfl⟩⟩; refine ⟨_, rfl, ?_⟩; have KI : 0 <= ((Jb) : Int) := of_decide_eq_true jh; have KJ : (Jb) < (l0.length : Int) := of_decide_eq_true jh; obtain ⟨Qe, UI, hx172_0⟩ := Kd.bH nJ.out (Jb) KI KJ; obtain rfl : Jc = Qe := (by injection UI); replace KI := eq_true KI; replace KJ := eq_true KJ))
           go_roundg k1
           case measure => have := wE.out; omega
           case rel => exact ⟨(wrap64 (bX + 1)), (by first | rfl | (simp; done) | (simp [*]; done)), H', ⟨by have := wE.out; omega⟩, by repeat (first | exact av.refl _ | apply av.step)⟩
          ·rw [if_neg c11] at H
           have c11b0 : (Op.bytesLess ((bO ByteArray.empty l0 (Jb)).toList) ((bO ByteArray.empty l0 bX).toList)) = false := by simpa using c11
           clear c11;obtain rfl := Option.some.inj H;have xn : 0 <= (bX : Int) := of_decide_eq_true jh;have xq : bX < (l0.length : Int) := of_decide_eq_true jh;obtain ⟨Jc, e170, GH⟩ := Kd.bH nJ.out bX xn xq
           cases e170
           replace xn := eq_true xn;replace xq := eq_true xq
           go_wp2_with (first | ((with_reducible refine cB (f := 78) rfl ?_); refine jf (some 13) rfl rfl Try.func78 (by kernel_rfl) rfl #[.string (bO ByteArray.empty l0 bX)] rfl (Dv) ?_; (with_reducible refine (iF.calls (bO ByteArray.empty l0 bX) true _ A5.out).mono ?_); rintro e w' ⟨rfl, ⟨nd, rfl⟩⟩; refine ⟨_, rfl, ?_⟩; have KI : 0 <= ((Jb) : Int) := of_decide_eq_true jh; have KJ : (Jb) < (l0.length : Int) := of_decide_eq_true jh; obtain ⟨Qe, UI, hx172_0⟩ := Kd.bH nJ.out (Jb) KI KJ; obtain rfl : Jc = Qe := (by injection UI); replace KI := eq_true KI; replace KJ := eq_true KJ))
           go_ret;exact ⟨by first | rfl | (simp only [Gen.pG, Gen.sJ]; first | done | rfl | (simp; done)) | (simp; done) | (simp only [<- Qd] <;> (first | rfl | simp)) | (simp [*]; done), by repeat (first | exact av.refl _ | apply av.step)⟩
         ·rw [if_neg c10] at H
          exact absurd H (by simp)
        ·rw [if_neg c9] at H
         exact absurd H (by simp)
       ·rw [if_neg c7] at H
        have Ja : decide (0 < bX) = false := decide_eq_false c7;clear c7;have H' := A_ H;clear H;have xn : 0 <= (bX : Int) := of_decide_eq_true jh;have xq : bX < (l0.length : Int) := of_decide_eq_true jh;obtain ⟨Jc, e170, GH⟩ := Kd.bH nJ.out bX xn xq
        cases e170
        replace xn := eq_true xn;replace xq := eq_true xq
        go_wp2_with (first | ((with_reducible refine cB (f := 78) rfl ?_); refine jf (some 13) rfl rfl Try.func78 (by kernel_rfl) rfl #[.string (bO ByteArray.empty l0 bX)] rfl (Dv) ?_; (with_reducible refine (iF.calls (bO ByteArray.empty l0 bX) true _ A5.out).mono ?_); rintro e w' ⟨rfl, ⟨nd, rfl⟩⟩; refine ⟨_, rfl, ?_⟩))
        go_roundg k1
        case measure => have := wE.out; omega
        case rel => exact ⟨(wrap64 (bX + 1)), (by first | rfl | (simp; done) | (simp [*]; done)), H', ⟨by have := wE.out; omega⟩, by repeat (first | exact av.refl _ | apply av.step)⟩
      ·replace c6 := Bool.eq_false_iff.mpr c6
       subst c6;have H1 : (some false) = some r := by rw [if_neg (show ¬ (false = true) by decide)] at H; exact H
       clear H;have H := H1;clear H1;obtain rfl := Option.some.inj H;have xn : 0 <= (bX : Int) := of_decide_eq_true jh;have xq : bX < (l0.length : Int) := of_decide_eq_true jh;obtain ⟨Jc, e170, GH⟩ := Kd.bH nJ.out bX xn xq
       cases e170
       replace xn := eq_true xn;replace xq := eq_true xq
       go_wp2_with (first | ((with_reducible refine cB (f := 78) rfl ?_); refine jf (some 13) rfl rfl Try.func78 (by kernel_rfl) rfl #[.string (bO ByteArray.empty l0 bX)] rfl (Dv) ?_; (with_reducible refine (iF.calls (bO ByteArray.empty l0 bX) false _ A5.out).mono ?_); rintro e w' ⟨rfl, ⟨nd, rfl⟩⟩; refine ⟨_, rfl, ?_⟩))
       go_ret;exact ⟨by first | rfl | (simp only [Gen.pG, Gen.sJ]; first | done | rfl | (simp; done)) | (simp; done) | (simp [*]; done), by repeat (first | exact av.refl _ | apply av.step)⟩
     ·rw [if_neg c4] at H
      exact absurd H (by simp)
    ·rw [if_neg c3] at H
     exact absurd H (by simp)
   ·rw [if_neg c2] at H
    have UH : decide (bX < (l0.length : Int)) = false := decide_eq_false c2;clear c2;obtain rfl := Option.some.inj H;go_wp2;go_ret;exact ⟨by first | rfl | (simp only [Gen.pG, Gen.sJ]; first | done | rfl | (simp; done)) | (simp; done) | (simp [*]; done), by repeat (first | exact av.refl _ | apply av.step)⟩
def jR.f (a0 : ByteArray) : Option (Bool) := some (decide ((a0.size : Int) <= 12))
theorem jR.calls (a0 : ByteArray) (r : Bool) (w : World) (h : jR.f a0 = some r) :
  Calls Try.prog 79 #[.string a0] w fun e w' => e = .returned (.bool r) /\ av w w' := by
 have H : (some (decide ((a0.size : Int) <= 12))) = some r := h;clear h;obtain rfl := Option.some.inj H;go_enter Try.func79, Try.ntmps79;go_wp2;go_ret;exact ⟨by first | rfl | (simp; done) | (simp [*]; done), by repeat (first | exact av.refl _ | apply av.step)⟩
def iG.f (a0 : ByteArray) : Option (Bool) := (jR.f a0).bind fun t173 => (some (!t173))
theorem iG.calls (a0 : ByteArray) (r : Bool) (w : World) (h : iG.f a0 = some r) :
  Calls Try.prog 117 #[.string a0] w fun e w' => e = .returned (.bool r) /\ av w w' := by
 have H : ((jR.f a0).bind fun t173 => (some (!t173))) = some r := h;clear h;replace H := Option.bind_eq_some_iff.mp H;obtain ⟨t173, zI, H⟩ := H;replace H : (some (!t173)) = some r := H;have A2 := A_ zI;clear zI;obtain rfl := Option.some.inj H;go_enter Try.func117, Try.ntmps117
 go_wp2_with (first | ((with_reducible refine cB (f := 79) rfl ?_); refine jf (some 4) rfl rfl Try.func79 (by kernel_rfl) rfl #[.string a0] rfl (Dv) ?_; (with_reducible refine (jR.calls a0 t173 _ A2.out).mono ?_); rintro e w' ⟨rfl, ⟨nd, rfl⟩⟩; refine ⟨_, rfl, ?_⟩))
 go_ret;exact ⟨by first | rfl | (simp; done) | (simp [*]; done), by repeat (first | exact av.refl _ | apply av.step)⟩
def aD.l0 : Nat -> List ByteArray -> Int -> Int -> Option (Int)
 | 0, _, _, _ => none
 | k + 1, x0, x7, x8 => if x8 < x7 then (if 0 <= x8 then (if x8 < (x0.length : Int) then ((iG.f (bO ByteArray.empty x0 x8)).bind fun t175 => (if t175 = true then (some x8) else (aD.l0 k x0 x7 (wrap64 (x8 + 1))))) else (none)) else (none)) else (some (-1))
def aD.f (k : Nat) (l0 : List ByteArray)  : Option (Int) := aD.l0 k l0 (l0.length : Int) 0
theorem aD.uC : ∀ k, (∀ y0 y1 y2, j6 (aD.l0 k y0 y1 y2) (aD.l0 (k + 1) y0 y1 y2))
 | 0 => fun _ _ _ r h => by simp [aD.l0] at h
 | k + 1 => by
  have Qa := aD.uC k
  ·intro y0 y1 y2
   unfold aD.l0
   repeat' (with_reducible first | exact Qa _ _ _ | exact j6.refl _ | exact j6.none _ | refine j6.ite ?_ ?_ | refine j6.bind ?_ (fun _ => ?_))
theorem aD.mono : ∀ a0 k, j6 (aD.f k a0) (aD.f (k + 1) a0) := by
 intro a0 k;have Qa := aD.uC k;unfold aD.f
 repeat' (with_reducible first | exact Qa _ _ _ | exact j6.refl _ | exact j6.none _ | refine j6.ite ?_ ?_ | refine j6.bind ?_ (fun _ => ?_))
theorem aD.calls (k : Nat) (A0 : Option Addr) (c0 : Nat) (l0 : List ByteArray)  (r : Int) (w : World) (hr0 : Kd.C Kd.string w A0 l0.length l0) (hc0 : l0.length <= c0) (h : aD.f k l0 = some r) :
  Calls Try.prog 134 #[.slice A0 l0.length c0, .func (.func 117) #[] #[]] w fun e w' => e = .returned (.int .i64 r) /\ av w w' := by
 have nJ := A_ hr0;have qP := A_ hc0;clear hr0 hc0;have H : (aD.l0 k l0 (l0.length : Int) 0) = some r := h;clear h;have H' := A_ H;clear H;go_enter Try.func134, Try.ntmps134;go_wp2
 go_loopg [8] k (fun kq v8 w' => ∃ (kE : Int), v8 = .int .i64 kE /\ af (aD.l0 kq l0 (l0.length : Int) kE = some r) /\ af (kq <= k) /\ av w w')
 case atStart => exact ⟨(0), (by first | rfl | (simp; done) | (simp [*]; done)), H', ⟨Nat.le_refl _⟩, by repeat (first | exact av.refl _ | apply av.step)⟩
 case round =>
  clear H';(try clear c1); (try clear p2);obtain ⟨kE, rfl, HA, wE, ⟨m1, rfl⟩⟩ := hrel
  cases gk with
  | zero => exact absurd HA.out (by simp [aD.l0])
  | succ k1 =>
   have H := HA.out;clear HA;simp only [aD.l0] at H
   by_cases c3 : kE < (l0.length : Int)
   ·rw [if_pos c3] at H
    have tT : decide (kE < (l0.length : Int)) = true := decide_eq_true c3;clear c3
    by_cases c4 : 0 <= kE
    ·rw [if_pos c4] at H
     have tV : decide (0 <= kE) = true := decide_eq_true c4;clear c4
     by_cases c5 : kE < (l0.length : Int)
     ·rw [if_pos c5] at H
      have DY : decide (kE < (l0.length : Int)) = true := decide_eq_true c5;clear c5;replace H := Option.bind_eq_some_iff.mp H;obtain ⟨t175, Xw, H⟩ := H;replace H : (if t175 = true then (some kE) else (aD.l0 k1 l0 (l0.length : Int) (wrap64 (kE + 1)))) = some r := H;have A6 := A_ Xw;clear Xw
      by_cases c7 : t175 = true
      ·subst c7
       have H1 : (some kE) = some r := by rw [if_pos rfl] at H; exact H
       clear H;have H := H1;clear H1;obtain rfl := Option.some.inj H;have KM : 0 <= (kE : Int) := of_decide_eq_true jh;have KN : kE < (l0.length : Int) := of_decide_eq_true jh;obtain ⟨ad174, UJ, hx174_0⟩ := Kd.bH nJ.out kE KM KN
       cases UJ
       replace KM := eq_true KM;replace KN := eq_true KN
       go_wp2_with (first | ((with_reducible refine Gen.Ta rfl ?_); refine Gen.OC (some 16) rfl rfl Try.func117 (by kernel_rfl) rfl #[.string (bO ByteArray.empty l0 kE)] rfl (Dv) ?_; (with_reducible refine (iG.calls (bO ByteArray.empty l0 kE) true _ A6.out).mono ?_); rintro e w' ⟨rfl, ⟨nd, rfl⟩⟩; refine ⟨_, rfl, ?_⟩))
       go_ret;exact ⟨by first | rfl | (simp; done) | (simp [*]; done), by repeat (first | exact av.refl _ | apply av.step)⟩
      ·replace c7 := Bool.eq_false_iff.mpr c7
       subst c7;have H1 : (aD.l0 k1 l0 (l0.length : Int) (wrap64 (kE + 1))) = some r := by rw [if_neg (show ¬ (false = true) by decide)] at H; exact H
       clear H;have H := H1;clear H1;have H' := A_ H;clear H;have KM : 0 <= (kE : Int) := of_decide_eq_true jh;have KN : kE < (l0.length : Int) := of_decide_eq_true jh;obtain ⟨ad174, UJ, hx174_0⟩ := Kd.bH nJ.out kE KM KN
       cases UJ
       replace KM := eq_true KM;replace KN := eq_true KN
       go_wp2_with (first | ((with_reducible refine Gen.Ta rfl ?_); refine Gen.OC (some 16) rfl rfl Try.func117 (by kernel_rfl) rfl #[.string (bO ByteArray.empty l0 kE)] rfl (Dv) ?_; (with_reducible refine (iG.calls (bO ByteArray.empty l0 kE) false _ A6.out).mono ?_); rintro e w' ⟨rfl, ⟨nd, rfl⟩⟩; refine ⟨_, rfl, ?_⟩))
       go_roundg k1
       case measure => have := wE.out; omega
       case rel => exact ⟨(wrap64 (kE + 1)), (by first | rfl | (simp; done) | (simp [*]; done)), H', ⟨by have := wE.out; omega⟩, by repeat (first | exact av.refl _ | apply av.step)⟩
     ·rw [if_neg c5] at H
      exact absurd H (by simp)
    ·rw [if_neg c4] at H
     exact absurd H (by simp)
   ·rw [if_neg c3] at H
    have tT : decide (kE < (l0.length : Int)) = false := decide_eq_false c3;clear c3;obtain rfl := Option.some.inj H;go_wp2;go_ret;exact ⟨by first | rfl | (simp; done) | (simp [*]; done), by repeat (first | exact av.refl _ | apply av.step)⟩
def bn.f (k : Nat) (l0 : List ByteArray)  : Option (Bool) := (aD.f k l0).bind fun NS => (some (decide (NS >= 0)))
theorem bn.mono : ∀ a0 k, j6 (bn.f k a0) (bn.f (k + 1) a0) := by
 intro a0 k;unfold bn.f
 repeat' (with_reducible first | exact aD.mono _ _ | exact j6.refl _ | exact j6.none _ | refine j6.ite ?_ ?_ | refine j6.bind ?_ (fun _ => ?_))
theorem bn.calls (k : Nat) (A0 : Option Addr) (c0 : Nat) (l0 : List ByteArray)  (r : Bool) (w : World) (hr0 : Kd.C Kd.string w A0 l0.length l0) (hc0 : l0.length <= c0) (h : bn.f k l0 = some r) :
  Calls Try.prog 116 #[.slice A0 l0.length c0, .func (.func 117) #[] #[]] w fun e w' => e = .returned (.bool r) /\ av w w' := by
 have nJ := A_ hr0;have qP := A_ hc0;clear hr0 hc0;have H : ((aD.f k l0).bind fun NS => (some (decide (NS >= 0)))) = some r := h;clear h;replace H := Option.bind_eq_some_iff.mp H;obtain ⟨NS, xx, H⟩ := H;replace H : (some (decide (NS >= 0))) = some r := H;have A3 := A_ xx;clear xx;obtain rfl := Option.some.inj H;go_enter Try.func116, Try.ntmps116
 go_wp2_with (first | ((with_reducible refine cB (f := 134) rfl ?_); refine jf (some 7) rfl rfl Try.func134 (by kernel_rfl) rfl #[.slice A0 l0.length c0, .func (.func 117) #[] #[]] rfl (Dv) ?_; (with_reducible refine (aD.calls k _ _ l0  NS _ ?az ?bW A3.out).mono ?_); (case az => refine TH ?_; exact nJ.out); (case bW => exact qP.out); rintro e w' ⟨rfl, ⟨nd, rfl⟩⟩; refine ⟨_, rfl, ?_⟩))
 go_ret;exact ⟨by first | rfl | (simp; done) | (simp [*]; done), by repeat (first | exact av.refl _ | apply av.step)⟩
def eZ.f (k : Nat) (l0 : List ByteArray) (l1 : List ByteArray) : Option (Bool) := if (l0.length : Int) <= 40 then (if (l0.length : Int) = (l1.length : Int) then ((aT.f k l0).bind fun NU => (if NU = true then ((bn.f k l1).bind fun DZ => (some (!DZ))) else (some false))) else (some false)) else (some false)
theorem eZ.mono : ∀ a0 a1 k, j6 (eZ.f k a0 a1) (eZ.f (k + 1) a0 a1) := by
 intro a0 a1 k;unfold eZ.f
 repeat' (with_reducible first | exact aT.mono _ _ | exact bn.mono _ _ | exact j6.refl _ | exact j6.none _ | refine j6.ite ?_ ?_ | refine j6.bind ?_ (fun _ => ?_))
theorem eZ.calls (k : Nat) (A0 : Option Addr) (c0 : Nat) (l0 : List ByteArray) (A1 : Option Addr) (c1 : Nat) (l1 : List ByteArray) (r : Bool) (w : World) (hr0 : Kd.C Kd.string w A0 l0.length l0) (hc0 : l0.length <= c0) (hr1 : Kd.C Kd.string w A1 l1.length l1) (hc1 : l1.length <= c1) (h : eZ.f k l0 l1 = some r) :
  Calls Try.prog 86 #[.slice A0 l0.length c0, .slice A1 l1.length c1] w fun e w' => e = .returned (.bool r) /\ av w w' := by
 have nJ := A_ hr0;have qP := A_ hc0;clear hr0 hc0;have HR1 := A_ hr1;have Aa := A_ hc1;clear hr1 hc1;have H : (if (l0.length : Int) <= 40 then (if (l0.length : Int) = (l1.length : Int) then ((aT.f k l0).bind fun NU => (if NU = true then ((bn.f k l1).bind fun DZ => (some (!DZ))) else (some false))) else (some false)) else (some false)) = some r := h;clear h
 by_cases c3 : (l0.length : Int) <= 40
 ·rw [if_pos c3] at H
  have tT : decide ((l0.length : Int) <= 40) = true := decide_eq_true c3;have GI := lQ (l0.length <= 40);clear c3
  by_cases c4 : (l0.length : Int) = (l1.length : Int)
  ·rw [if_pos c4] at H
   have tV : ((l0.length : Int) == (l1.length : Int)) = true := beq_iff_eq.mpr c4;have Qf : ((l0.length : Int) != (l1.length : Int)) = false := bne_eq_false_iff_eq.mpr c4
   have c4b2 : (l0.length == l1.length) = true := by first | simpa using c4 | (simp at c4 ⊢; omega)
   clear c4;replace H := Option.bind_eq_some_iff.mp H;obtain ⟨NU, P9, H⟩ := H;replace H : (if NU = true then ((bn.f k l1).bind fun DZ => (some (!DZ))) else (some false)) = some r := H;have A5 := A_ P9;clear P9
   by_cases c6 : NU = true
   ·subst c6
    have H1 : ((bn.f k l1).bind fun DZ => (some (!DZ))) = some r := by rw [if_pos rfl] at H; exact H
    clear H;have H := H1;clear H1;replace H := Option.bind_eq_some_iff.mp H;obtain ⟨DZ, Xv, H⟩ := H;replace H : (some (!DZ)) = some r := H;have A7 := A_ Xv;clear Xv;obtain rfl := Option.some.inj H;go_enter Try.func86, Try.ntmps86
    go_wp2_with (first | (go_at_call 115; (with_reducible refine (aT.calls k _ _ l0 true _ ?az ?bW A5.out).mono ?_); (case az => refine TH ?_; exact nJ.out); (case bW => exact qP.out); rintro e w' ⟨rfl, ⟨nd, rfl⟩⟩) | (go_at_call 116; (with_reducible refine (bn.calls k _ _ l1  DZ _ ?az ?bW A7.out).mono ?_); (case az => refine TH ?_; exact HR1.out); (case bW => exact Aa.out); rintro e w' ⟨rfl, ⟨nd, rfl⟩⟩))
    go_ret;exact ⟨by first | rfl | (simp; done) | (simp [*]; done), by repeat (first | exact av.refl _ | apply av.step)⟩
   ·replace c6 := Bool.eq_false_iff.mpr c6
    subst c6;have H1 : (some false) = some r := by rw [if_neg (show ¬ (false = true) by decide)] at H; exact H
    clear H;have H := H1;clear H1;obtain rfl := Option.some.inj H;go_enter Try.func86, Try.ntmps86
    go_wp2_with (first | (go_at_call 115; (with_reducible refine (aT.calls k _ _ l0 false _ ?az ?bW A5.out).mono ?_); (case az => refine TH ?_; exact nJ.out); (case bW => exact qP.out); rintro e w' ⟨rfl, ⟨nd, rfl⟩⟩))
    go_ret;exact ⟨by first | rfl | (simp; done) | (simp [*]; done), by repeat (first | exact av.refl _ | apply av.step)⟩
  ·rw [if_neg c4] at H
   have tV : ((l0.length : Int) == (l1.length : Int)) = false := beq_eq_false_iff_ne.mpr c4;have Qf : ((l0.length : Int) != (l1.length : Int)) = true := bne_iff_ne.mpr c4
   have c4b2 : (l0.length == l1.length) = false := by first | simpa using c4 | (simp at c4 ⊢; omega)
   obtain rfl := Option.some.inj H;go_enter Try.func86, Try.ntmps86;go_wp2;go_ret;exact ⟨by first | rfl | (simp; done) | (simp [*]; done), by repeat (first | exact av.refl _ | apply av.step)⟩
 ·rw [if_neg c3] at H
  have tT : decide ((l0.length : Int) <= 40) = false := decide_eq_false c3;have GI := kS (l0.length <= 40);clear c3;obtain rfl := Option.some.inj H;go_enter Try.func86, Try.ntmps86;go_wp2;go_ret;exact ⟨by first | rfl | (simp; done) | (simp [*]; done), by repeat (first | exact av.refl _ | apply av.step)⟩
end Go.Proofs.Ytoddejmlcnbdmaa.Fn
namespace Go.Proofs.Ytoddejmlcnbdmaa.Tree
open Go.Proofs.Ytoddejmlcnbdmaa.Fn
def oF (k v : ByteArray) : Bool := (eP.f k v).getD false
theorem sQ (k v : ByteArray) : eP.f k v = some (oF k v) := by
 unfold oF eP.f eO.f;simp only [Option.bind_some]
 split
 ·split <;> rfl
 ·rfl
def wR : Option ByteArray -> ByteArray -> Bool
 | none, _ => true
 | some p, k => yK p k
def pJ : List ByteArray -> List ByteArray -> Option ByteArray -> Bool
 | [], _, _ => true
 | k :: ks, vs, prev => oF k (vs.headD ByteArray.empty) && wR prev k && pJ ks (vs.drop 1) (some k)
def mo (keys : List ByteArray) : Nat -> Option ByteArray
 | 0 => none
 | j + 1 => keys[j]?
theorem OM {keys vals : List ByteArray} {i : Nat} {k v : ByteArray} {B : Bool} (h : B = pJ (keys.drop i) (vals.drop i) (mo keys i)) (hk : keys[i]? = some k) (hv : vals[i]? = some v) (hp : oF k v = true) (ho : ∀ p, mo keys i = some p -> yK p k = true) :
  B = pJ (keys.drop (i + 1)) (vals.drop (i + 1)) (mo keys (i + 1)) := by
 rw [fO hk, fO hv, pJ, List.headD_cons, hp, List.drop_succ_cons, List.drop_zero, Bool.true_and] at h;rw [h];show _ = pJ _ _ (keys[i]?);rw [hk]
 cases hpr : mo keys i with
 | none => rfl
 | some p => simp only [wR, ho p hpr, Bool.true_and]
theorem OO {keys vals : List ByteArray} {i : Nat} {k v : ByteArray} {B : Bool} (h : B = pJ (keys.drop i) (vals.drop i) (mo keys i)) (hk : keys[i]? = some k) (hv : vals[i]? = some v) (hp : oF k v = false) : B = false := by
 rw [fO hk, fO hv, pJ, List.headD_cons, hp, Bool.false_and, Bool.false_and] at h;exact h
theorem OP {keys vals : List ByteArray} {i : Nat} {k p : ByteArray} {B : Bool} (h : B = pJ (keys.drop i) (vals.drop i) (mo keys i)) (hk : keys[i]? = some k) (hpr : mo keys i = some p) (ho : yK p k = false) : B = false := by
 rw [fO hk, pJ, hpr] at h;rw [h];simp only [wR, ho, Bool.and_false, Bool.false_and]
theorem RA {keys vals : List ByteArray} {i : Nat} {B : Bool} (h : B = pJ (keys.drop i) (vals.drop i) (mo keys i)) (hi : keys.length <= i) : B = true := by
 rw [List.drop_eq_nil_of_le hi, pJ] at h;exact h
def mq (P : List bC) : Option PT := match bZ P 10 0 with
 | none => none
 | some r => if r.2 ≠ P.length then none else if pJ (bB r.1) (eD r.1) none = false then none else if iJ r.1 < 0 \/ (r.1.kids.length ≠ 0 /\ r.1.keys.length = 0) \/ 40 < (bB r.1).length then none else some r.1
def mK (k : Nat) (P : List bC) : Option (Option PT) := match bZ P (P.length + 1) 0 with
 | none => some none
 | some r => if r.2 ≠ P.length then some none else if (jy r.1).2 = false then some none else (eZ.f k (bB r.1) (eD r.1)).bind fun b => some (if b = true then some r.1 else none)
theorem BB {α : Type} : ∀ (cs : List (List α)) (ks : List α), (bN cs ks).length <= (cs.map List.length).sum + ks.length
 | [], ks => by simp [bN]
 | c :: cs, [] => by simp [bN]
 | c :: cs, k :: ks => by
  have := BB cs ks;simp only [bN, List.length_append, List.length_cons, List.map_cons, List.sum_cons];omega
structure Fits (t : PT) (m : Nat) : Prop where
 BC : om t
 four : t.keys.length <= 4
 k : (bB t).length <= 4 * m
 v : (eD t).length <= 4 * m
theorem BD {rd : Nat -> Option (PT × Nat)} (hrd : ∀ a t n, rd a = some (t, n) -> a < n /\ Fits t (n - a)) : ∀ (l : List Int) (next : Nat) (acc ts : List PT) (n s : Nat),
  (∀ t ∈ acc, om t) -> ((acc.map bB).map List.length).sum <= 4 * s -> ((acc.map eD).map List.length).sum <= 4 * s -> fu rd l next acc = some (ts, n) ->
  next <= n /\ ts.length = acc.length + l.length /\ (∀ t ∈ ts, om t) /\ ((ts.map bB).map List.length).sum <= 4 * (s + (n - next)) /\ ((ts.map eD).map List.length).sum <= 4 * (s + (n - next))
 | [], next, acc, ts, n, s, h1, h2, h3, h => by
  rw [fu] at h
  injection h with h
  injection h with e1 e2
  subst e1; subst e2;refine ⟨Nat.le_refl _, by simp, h1, by omega, by omega⟩
 | k :: ks, next, acc, ts, n, s, h1, h2, h3, h => by
  rw [fu] at h
  split at h
  ·cases h
  ·cases hr : rd next with
   | none => rw [hr] at h; cases h
   | some r =>
    rw [hr] at h;obtain ⟨t, m⟩ := r;obtain ⟨hlt, hf⟩ := hrd next t m hr;have hk := hf.k;have hv := hf.v
    have := BD hrd ks m (acc ++ [t]) ts n (s + (m - next)) (fun x hx => by
     rcases List.mem_append.1 hx with hx | hx
     ·exact h1 x hx
     ·rw [List.mem_singleton.1 hx]; exact hf.BC) (by simp only [List.map_append, List.map_cons, List.map_nil, List.sum_append, List.sum_cons, List.sum_nil]; omega) (by simp only [List.map_append, List.map_cons, List.map_nil, List.sum_append, List.sum_cons, List.sum_nil]; omega) h
    obtain ⟨g1, g2, g3, g4, g5⟩ := this;rw [List.length_append] at g2;simp only [List.length_cons, List.length_nil] at g2 ⊢;exact ⟨by omega, by omega, g3, by omega, by omega⟩
theorem jS {P : List bC} : ∀ (f a : Nat) (t : PT) (n : Nat), bZ P f a = some (t, n) -> a < n /\ Fits t (n - a)
 | 0, a, t, n, h => by cases h
 | f + 1, a, t, n, h => by
  rw [bZ] at h
  split at h
  ·cases h
  ·split at h
   ·cases h
   ·rename_i hl hb
    generalize P.getD a mQ = p at h hb;unfold fin at h;obtain ⟨r, hr, e⟩ := Option.map_eq_some_iff.1 h;obtain ⟨ts, m⟩ := r
    injection e with e1 e2
    have e2 : m = n := e2;subst e2;have := BD (fun a t n h => jS f a t n h) p.f2 (a + 1) [] ts m 0 (fun t h => by cases h) (by simp) (by simp) hr;obtain ⟨g1, g2, g3, g4, g5⟩ := this;have hb' : qX p = false := by cases hbb : qX p <;> simp_all
    unfold qX at hb';simp only [Bool.or_eq_false_iff, Bool.and_eq_false_iff, decide_eq_false_iff_not, bne_eq_false_iff_eq] at hb';have e1 : PT.mk p.f0 p.f1 ts = t := e1;subst e1;simp only [List.length_nil] at g2
    have s1 : wN (.mk p.f0 p.f1 ts) := by
     unfold wN;simp only [PT.keys, PT.vals, PT.kids];omega
    refine ⟨by omega, om.mk' s1 (fun i s hs => g3 s (List.mem_of_getElem? hs)), by show p.f0.length <= 4; omega, ?_, ?_⟩
    ·rw [pI]
     have := BB (ts.map bB) p.f0;show (bN (ts.map bB) p.f0).length <= _;omega
    ·rw [Am]
     have := BB (ts.map eD) p.f1;show (bN (ts.map eD) p.f1).length <= _;omega
theorem Ee {α β : Type} : ∀ (cs : List (List α)) (ds : List (List β)) (ks : List α) (vs : List β), cs.map List.length = ds.map List.length -> ks.length = vs.length -> (bN cs ks).length = (bN ds vs).length
 | [], [], ks, vs, _, h => by simpa [bN] using h
 | [], d :: ds, ks, vs, h, _ => by simp at h
 | c :: cs, [], ks, vs, h, _ => by simp at h
 | c :: cs, d :: ds, [], [], h, _ => by simp at h; simp [bN, h.1]
 | c :: cs, d :: ds, [], v :: vs, _, h => by simp at h
 | c :: cs, d :: ds, k :: ks, [], _, h => by simp at h
 | c :: cs, d :: ds, k :: ks, v :: vs, h1, h2 => by
  simp only [List.map_cons, List.cons.injEq] at h1;have := Ee cs ds ks vs h1.2 (by simpa using h2);simp only [bN, List.length_append, List.length_cons];omega
theorem Ef : ∀ (n : Nat) {t : PT}, SizeOf.sizeOf t <= n -> om t -> (eD t).length = (bB t).length
 | 0, t, h, _ => by cases t; simp at h
 | n + 1, t, h, hs => by
  have h1 := hs.one;unfold wN at h1;rw [Am, pI];refine Ee _ _ _ _ ?_ h1.1.symm;rw [List.map_map, List.map_map]
  refine List.map_congr_left fun s hm => ?_
  obtain ⟨i, hi⟩ := List.getElem?_of_mem hm;have := PT.iT hi;exact Ef n (by omega) (hs.kid hi)
theorem iW {t : PT} (h : om t) : (eD t).length = (bB t).length := Ef _ (Nat.le_refl _) h
end Go.Proofs.Ytoddejmlcnbdmaa.Tree

