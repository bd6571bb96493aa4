/- The law FnTrees holds of the given program: at every input it answers true and leaves its arguments as they were; no condition. This text: part 1 of what its proof reaches. -/
import Derived.Test.YtoddejmlcnbdmaaQWLast
import Derived.Test.YtoddejmlcnbdmaaQWMore
import Derived.Lib.SliceRun
import Derived.Deep.QuietTactic
import Derived.BigQuiet
import Derived.KernelRfl
import Derived.RowKit
import Derived.Test.YtoddejmlcnbdmaaQWKept
import Derived.Test.YtoddejmlcnbdmaaProg
import Derived.Below
import Derived.Deep.Draws
import Derived.Deep.AppendLies
import Derived.Maps.AppendAt
import Derived.OwnWalk
import Derived.Laws.BytesArg
import Derived.Laws.MakeOwn
import Derived.Laws.OwnMore
import Derived.Deep.OwnRows
import Derived.Tactics
import Derived.Lib.ConvBytes
import Derived.Laws.Slices
import Derived.WalkKit
import Derived.RowKit3
import Derived.Deep.LoopGhost
import Derived.WideLaws
import Derived.Deep.DeepCutAuto
import Derived.Deep.CutBlock
import Derived.Deep.RegionHeld3
import Derived.Laws.Rows
import Derived.Lib.AppendStr
import Derived.ArgAppend
import Derived.Laws.IdiomCopy
import Derived.OrdersHeld
import Derived.Laws.BitsLemmas
import Derived.Laws.Cover1
import Derived.Laws.Strings
import Derived.Test.YtoddejmlcnbdmaaQWWords
import Derived.Test.YtoddejmlcnbdmaaQWTab
import Derived.Test.YtoddejmlcnbdmaaQWFour
import Derived.Test.YtoddejmlcnbdmaaQWQPut
import Derived.Test.YtoddejmlcnbdmaaQWApart
import Derived.Test.YtoddejmlcnbdmaaQWArr
import Derived.Test.YtoddejmlcnbdmaaQWZeros
import Derived.Test.YtoddejmlcnbdmaaQWFoot
import Derived.Test.YtoddejmlcnbdmaaQWShare
import Derived.Test.YtoddejmlcnbdmaaQWN
import Derived.Test.YtoddejmlcnbdmaaQWFootNe
import Derived.Test.YtoddejmlcnbdmaaQWAt
import Derived.Test.YtoddejmlcnbdmaaQWEqStruct
import Derived.Test.YtoddejmlcnbdmaaQWRepsOne
import Derived.Test.YtoddejmlcnbdmaaQWInv
import Derived.Test.YtoddejmlcnbdmaaQWInvWords
import Derived.Test.YtoddejmlcnbdmaaQWGuard
import Derived.Test.YtoddejmlcnbdmaaQWNEv
set_option maxHeartbeats 8000000
set_option maxRecDepth 100000
set_option linter.unusedVariables false
set_option linter.unusedSimpArgs false
open Go.RowKit Go.Proofs.YtoddejmlcnbdmaaW.PrintWords Go.Proofs.YtoddejmlcnbdmaaW.PrintLast Go.Proofs.YtoddejmlcnbdmaaW.PrintMore
namespace Go.Proofs.Ytoddejmlcnbdmaa.Gen
theorem VU {o : Option Bool} {r : Bool} (h : o = some r) (hf : o = none ∨ o = some false) (ht : r = true) : False := by
  subst ht
  rcases hf with hf | hf <;> rw [hf] at h <;> simp at h
/-! Short words for what a long walk says again and again. -/
theorem Yl {p q : Prop} (h0 : p) (h : p -> q := by intro Be; (with_reducible repeat (first | refine bS ?_ _ | refine cz ?_ | refine wV ?_ _)); exact Be) : q := h h0
theorem rJ {p q : Prop} (h0 : p) (h : p -> q := by intro Be; (with_reducible repeat (first | apply Kd.nR | apply Kd.nS | apply Kd.qJ)); exact Be) : q := h h0
theorem Ym {p q : Prop} (h0 : p) (h : p -> q := by intro Be; (with_reducible repeat (first | apply Kd.OY | apply Kd.OZ | apply Kd.QX)); exact Be) : q := h h0
theorem zb {p q : Prop} (h0 : p) (h : p -> q := by intro Be; repeat (first | (with_reducible first | exact Be | apply bu | apply ah | apply bC | (refine bM ?_ (af.out ?_); rotate_left; assumption)) | exact Be)) : q := h h0
theorem X9 {α : Type} : (∀ (l : List α) (i : Nat) (a : α), l.toArray.setIfInBounds i a = (l.set i a).toArray) /\ (∀ (x a : α) (l : List α), (x :: l).set 0 a = a :: l) /\ (∀ (x a : α) (l : List α) (i : Nat), (x :: l).set (i + 1) a = x :: l.set i a) :=
  ⟨fun _ _ _ => by simp, fun _ _ _ => rfl, fun _ _ _ _ => rfl⟩
theorem Ya : (∀ n : Int, IntKind.i64.wrap n = Go.RowKit.wrap64 n) /\ (∀ n : Int, IntKind.i32.wrap n = Go.RowKit.wrap32 n) := ⟨uA, Ji⟩
theorem iL {p : Prop} (h : p := by first | (with_reducible assumption) | assumption) : p := h
theorem QY {p q : Prop} (h0 : p) (h : p -> q := by intro Be; repeat (first | exact Be | (with_reducible refine Kd.iB ?_ _) | (with_reducible refine Kd.dC ?_ _) | (with_reducible refine Kd.gm ?_))) : q := h h0
theorem Yn {p q : Prop} (h0 : p) (h : p -> q := by intro Be; repeat (first | (with_reducible first | exact Be | apply bf.uN | apply eB | apply fD | apply eD | (refine Mf ?_ (af.out ?_) _; rotate_left; assumption)) | exact Be)) : q := h h0
theorem BM {p : Prop} (h : p := by (try simp only [List.map_toArray, List.map_cons, List.map_nil]); first | done | rfl | (simp only [List.length_drop, List.length_take]; rfl)) : p := h
theorem Uc {w w1 W W2 : World} (h0 : Below w.heap.size w w1) (hb : Below W.heap.size W W2) (h : Below w.heap.size w w1 -> Below w.heap.size w W := by intro Be; repeat (first | (with_reducible first | exact Be | apply bu | apply ah | apply bC | (refine bM ?_ (af.out ?_); rotate_left; assumption)) | exact Be)) : Below w.heap.size w W2 := au (h h0) hb
theorem BN {w w1 W : World} (h0 : Below w.heap.size w w1) (h : Below w.heap.size w w1 -> Below w.heap.size w W := by intro Be; repeat (first | (with_reducible first | exact Be | apply bu | apply ah | apply bC | (refine bM ?_ (af.out ?_); rotate_left; assumption)) | exact Be)) : w.heap.size <= W.heap.size := Hl (h h0)
theorem Yo {w0 W W' : World} {g : Nat} {o : Obj} (h0 : af (w0.heap[g]? = some o)) (hb : Below W.heap.size W W') (h : w0.heap[g]? = some o -> W.heap[g]? = some o := by intro Be; (with_reducible repeat (first | refine bS ?_ _ | refine cz ?_ | refine wV ?_ _)); exact Be) : W'.heap[g]? = some o := aT (h h0.out) hb
theorem Yp {w0 W : World} {g g' : Nat} {o : Obj} (h0 : af (w0.heap[g]? = some o)) (hg : g' = W.heap.size) (h : w0.heap[g]? = some o -> W.heap[g]? = some o := by intro Be; (with_reducible repeat (first | refine bS ?_ _ | refine cz ?_ | refine wV ?_ _)); exact Be) : g ≠ g' := by
  rw [hg]; exact Nat.ne_of_lt (gF (h h0.out))
theorem Jj {P : Program} (w : World) (t e : TypeId) (a : Option Addr) (n c : Nat) (h : P.underlying t = some (.slice e)) :
    (binOp .eql t (.slice a n c) (.slice none 0 0)).run P w = .ok (.bool a.isNone) w := Go.Lib.run_eql_slice_nil w t e a n c 0 0 h
theorem nT (l : List UInt8) : (!l.isEmpty) = (l != []) := by cases l <;> rfl
theorem qK (a b : List UInt8) : ((!Op.bytesLess a b) && (!(a == b))) = Op.bytesLess b a := by
  induction a generalizing b with
  | nil => cases b <;> rfl
  | cons x s ih =>
    cases b with
    | nil => rfl
    | cons y t =>
      have ih := ih t
      have e : ((x :: s) == (y :: t)) = ((x == y) && (s == t)) := rfl
      simp only [Op.bytesLess, e]
      rcases Nat.lt_trichotomy x.toNat y.toNat with h | h | h
      · have h1 : x < y := UInt8.lt_iff_toNat_lt.2 h
        have h2 : ¬ y < x := fun z => by have := UInt8.lt_iff_toNat_lt.1 z; omega
        have h3 : (y == x) = false := by
          rw [beq_eq_false_iff_ne]
          intro z
          rw [z] at h
          omega
        simp only [h1, h2, h3, decide_true, decide_false, Bool.true_or, Bool.not_true, Bool.false_and, Bool.false_or]
      · have h0 : x = y := UInt8.toNat_inj.1 h
        subst h0
        have h2 : ¬ x < x := fun z => by have := UInt8.lt_iff_toNat_lt.1 z; omega
        simp only [h2, decide_false, beq_self_eq_true, Bool.true_and, Bool.false_or]
        exact ih
      · have h1 : y < x := UInt8.lt_iff_toNat_lt.2 h
        have h2 : ¬ x < y := fun z => by have := UInt8.lt_iff_toNat_lt.1 z; omega
        have h3 : (x == y) = false := by
          rw [beq_eq_false_iff_ne]
          intro z
          rw [z] at h
          omega
        simp only [h1, h2, h3, decide_true, decide_false, Bool.true_or, Bool.not_false, Bool.false_and, Bool.false_or, Bool.true_and]
section
variable {P : Program} {ops : Array Oper} {Q : Exit -> Act -> World -> Prop}
/-- The operation is a call through a slot. -/
theorem Qi {rest : List Oper} {o : Oper} {a : Act} {W : World} {t : Tmp} {xa : Array Operand} {ts : Array TypeId} (_ho : o.op = .call { callee := .value (.tmp t), args := xa, argTypes := ts }) (h : wpList P ops Q (o :: rest) a W) : wpList P ops Q (o :: rest) a W := h
theorem Mg {rest : List Oper} {oi : Oper} {a : Act} {w : World} (N : Option Tmp) (hd : oi.dst = N) (hg : oi.guard = none) {f : FuncId} {fn : Func} {t : Tmp} {xa : Array Operand} {ts : Array TypeId} (hf : P.funcs[f]? = some fn) (hname : (fn.name == "runtime.NumGoroutine") = false) (hb : fn.body.isSome = true) (args : Array Value)
    (hop : oi.op = .call { callee := .value (.tmp t), args := xa, argTypes := ts }) (hargs : xa.map a.eval = args) 
    (h : Calls P f args w fun e w' => ∃ v, e = .returned v /\ wpList P ops Q rest (a.put N v) w') (hv : a.eval (.tmp t) = .func (.func f) #[] #[] := by rfl) : wpList P ops Q (oi :: rest) a w := by
  refine wpList_plain hg fun K hK => ?_
  have he := DI hf hname hb args w
  have hrun : (execOp a.eval oi).run P w = .ok (.enter f args) w := by
    unfold execOp
    simp [hop, resolve, Deferred.ofValue, invoke, hv, hargs, he]
  unfold Oper.wp
  rw [hrun, Oper.upon_enter]
  refine h.mono fun e w'' hh => ?_
  obtain ⟨v, rfl, hk⟩ := hh
  subst hd
  exact hK _ _ hk
end
end Go.Proofs.Ytoddejmlcnbdmaa.Gen
open Go.Proofs.Ytoddejmlcnbdmaa.Gen
namespace Go.Proofs.Ytoddejmlcnbdmaa.Gen
theorem A_ {p : Prop} (h : p) : af p := ⟨h⟩
theorem dJ (p : Prop) (h : p := by omega) : p = True := eq_true h
theorem kT (p : Prop) [Decidable p] (h : ¬ p := by omega) : decide p = false := decide_eq_false h
theorem kZ (p : Prop) [Decidable p] (h : p := by omega) : decide p = true := decide_eq_true h
theorem rM {α : Type} (x : α) : ∃ r, af (r = x) := ⟨x, ⟨rfl⟩⟩
theorem dS {b n k : Nat} {w W : World} (h : af (b <= w.heap.size)) (g : af (Below n w W)) (e : W.heap.size = k := by with_unfolding_all rfl) : b <= k := e ▸ Nat.le_trans h.out (Below.size g.out)
section
variable {P : Program} {ops : Array Oper} {Q : Exit -> Act -> World -> Prop} {rest : List Oper} {o : Oper} {a : Act} {W : World}
theorem jf (N : Tmp) (cs : Array Value) (t : TypeId)
    (h : ∀ g, g = W.heap.size -> ∀ w1, w1.heap[g]? = some (.cells cs t (0, 0)) -> Below W.heap.size W w1 -> wpList P ops Q rest (a.put o.dst (.pointer (some ⟨g, 0, none⟩))) w1)
    (hN : o.dst = some N := by rfl) (hgd : o.guard = none := by rfl)
    (hrun : (execOp a.eval o).run P W = .ok (.value (.pointer (some ⟨W.heap.size, 0, none⟩))) (W.alloc (.cells cs t (0, 0))) := by first | (go_simp; done) | (go_simp; rfl)) : wpList P ops Q (o :: rest) a W := Ky hgd hN hrun h
end
def Yb (x : Nat) : Nat -> List Bool
  | 0 => []
  | n + 1 => (x % 2 == 1) :: Yb (x / 2) n
/-- The first n bits of x. -/
def bt (n x : Nat) : Array Bool := ⟨Yb x n⟩
section
variable {P : Program} {ops : Array Oper} {Q : Exit -> Act -> World -> Prop} {md : Region.Mode} {S : World -> Prop} {ds : List Nat} {fuel m y : Nat} {a : Act} {w : World}
theorem aV (i n x : Nat) {oi : Oper} {v : Value} {a' : Act} (h : aU P md ops Q S ds fuel (bt m x) a' w)
    (hi : ops[i]? = some oi := by rfl) (hN : oi.dst = some n := by rfl) (hc : Mh md ops (bt m y) (bt m x) i = true := by kernel_rfl)
    (hQ : ∀ c a w, Q (.panic c) (a.put oi.dst v) w -> Q (.panic c) a w := by exact fun _ _ _ h => h)
    (hy : Yields P ops oi v a := by refine Or.inl ⟨by rfl, ?_⟩; intro w'; go_simp; with_reducible rfl)
    (ha : a.put (some n) v = a' := by simp only [Act.put, List.setIfInBounds_toArray, List.set_cons_zero, List.set_cons_succ, uA, Ji]; rfl) : aU P md ops Q S ds (fuel + 1) (bt m y) a w :=
  Uz (bt m x) hi hN hc hQ hy ha h
theorem ik (i n x : Nat) (hS : S w) {oi : Oper} {v : Value} {a' : Act} (h : aU P md ops Q S ds fuel (bt m x) a' w)
    (hi : ops[i]? = some oi := by rfl) (hN : oi.dst = some n := by rfl) (hc : takeB md ops ds (bt m y) (bt m x) i = true := by kernel_rfl)
    (hQ : ∀ c a w, Q (.panic c) (a.put oi.dst v) w -> Q (.panic c) a w := by exact fun _ _ _ h => h)
    (hy : YieldsIf P ops S oi v a := by refine Or.inl ⟨by rfl, ?_⟩; intro w' s_; (repeat (have s0_ := s_.1; replace s_ := s_.2)); go_simp; with_reducible rfl)
    (ha : a.put (some n) v = a' := by simp only [Act.put, List.setIfInBounds_toArray, List.set_cons_zero, List.set_cons_succ, uA, Ji]; rfl) : aU P md ops Q S ds (fuel + 1) (bt m y) a w :=
  Co (bt m x) hi hN hc hQ hy hS ha h
theorem jg (i : Nat) (N : Option Tmp) (x : Nat) {oi : Oper}
    (h : ∀ K : Act -> World -> Prop, Shut (∀ a' w', S w' -> (S w' -> aU P md ops Q S ds fuel (bt m x) a' w') -> K a' w') -> if Region.wanted oi (yielded ops a.tmps) = true then Oper.wp P oi a w K Q else K (a.put N undef) w)
    (hi : ops[i]? = some oi := by rfl) (hN : oi.dst = N := by rfl) (hc : (Region.ready md ops (bt m y) == [i] && (bt m y).setIfInBounds i true == bt m x) = true := by kernel_rfl) (hd : i ∉ ds := by decide) :
    aU P md ops Q S ds (fuel + 1) (bt m y) a w := Hm (bt m x) hi hN hc hd h
theorem wW (i : Nat) (N : Option Tmp) (x : Nat) {oi : Oper}
    (h : ∀ K : Act -> World -> Prop, Shut (∀ a' w', aU P md ops Q S ds fuel (bt m x) a' w' -> K a' w') -> if Region.wanted oi (yielded ops a.tmps) = true then Oper.wp P oi a w K Q else K (a.put N undef) w)
    (hi : ops[i]? = some oi := by rfl) (hN : oi.dst = N := by rfl) (hc : (Region.ready md ops (bt m y) == [i] && (bt m y).setIfInBounds i true == bt m x) = true := by kernel_rfl) (hd : i ∈ ds := by decide) :
    aU P md ops Q S ds (fuel + 1) (bt m y) a w := UA (bt m x) hi hN hc hd h
theorem eF (n : Nat) {a0 a' : Act} {v : Value} {l : Array Bool} (h : aU P md ops Q S ds fuel l a' w) (ha : Act.put a0 (some n) v = a' := by simp only [Act.put, List.setIfInBounds_toArray, List.set_cons_zero, List.set_cons_succ, uA, Ji]; rfl) : aU P md ops Q S ds fuel l (Act.put a0 (some n) v) w := dG ha h
theorem EW {a0 a' : Act} {l : Array Bool} (h : aU P md ops Q S ds fuel l a' w) (e : a0 = a' := by simp only [bz, Act.put, List.setIfInBounds_toArray, List.set_cons_zero, List.set_cons_succ]) : aU P md ops Q S ds fuel l a0 w := dG e h
theorem DJ (i j : Nat) (Ni Nj : Option Tmp) (x z : Nat) {oi oj : Oper}
    (h1 : ∀ K : Act -> World -> Prop, Shut (∀ a' w', S w' -> (S w' -> aU P md ops Q S ds fuel (bt m x) a' w') -> K a' w') -> if Region.wanted oi (yielded ops a.tmps) = true then Oper.wp P oi a w K Q else K (a.put Ni undef) w)
    (h2 : ∀ K : Act -> World -> Prop, Shut (∀ a' w', S w' -> (S w' -> aU P md ops Q S ds fuel (bt m z) a' w') -> K a' w') -> if Region.wanted oj (yielded ops a.tmps) = true then Oper.wp P oj a w K Q else K (a.put Nj undef) w)
    (hi : ops[i]? = some oi := by rfl) (hj : ops[j]? = some oj := by rfl) (UZ : oi.dst = Ni := by rfl) (U0 : oj.dst = Nj := by rfl)
    (hc : (Region.ready md ops (bt m y) == [i, j] && (bt m y).setIfInBounds i true == bt m x && (bt m y).setIfInBounds j true == bt m z) = true := by kernel_rfl) (hdi : i ∉ ds := by decide) (hdj : j ∉ ds := by decide) :
    aU P md ops Q S ds (fuel + 1) (bt m y) a w := Ws _ _ hi hj UZ U0 hc hdi hdj h1 h2
theorem uj {oi : Oper} {N : Option Tmp} {K : Act -> World -> Prop} {f : FuncId} {fn : Func} {ar : Array Operand} {ts : Array TypeId} (hf : P.funcs[f]? = some fn) (args : Array Value)
    (h : Calls P f args w fun e w' => ∃ v, e = .returned v /\ K (a.put N v) w')
    (hname : (fn.name == "runtime.NumGoroutine") = false := by kernel_rfl) (hb : fn.body.isSome = true := by rfl)
    (hw : Region.wanted oi (yielded ops a.tmps) = true := by rfl) (hN : oi.dst = N := by rfl) (hop : oi.op = .call { callee := .value (.func f), args := ar, argTypes := ts } := by rfl)
    (hargs : ar.map a.eval = args := by simp only [List.map_toArray, List.map_cons, List.map_nil]; rfl) : if Region.wanted oi (yielded ops a.tmps) = true then Oper.wp P oi a w K Q else K (a.put N undef) w :=
  UB hf hname hb args hw hN hop hargs h
end
end Go.Proofs.Ytoddejmlcnbdmaa.Gen
open Go.Proofs.Ytoddejmlcnbdmaa.Gen
namespace Go.Proofs.Ytoddejmlcnbdmaa.Tree
inductive PT where
 | mk (keys vals : List ByteArray) (kids : List PT)
def PT.keys : PT -> List ByteArray | .mk k _ _ => k
def PT.vals : PT -> List ByteArray | .mk _ v _ => v
def PT.kids : PT -> List PT | .mk _ _ c => c
theorem PT.eta (t : PT) : PT.mk t.keys t.vals t.kids = t := by cases t; rfl
theorem PT.gT {t s : PT} {i : Nat} (h : t.kids[i]? = some s) : SizeOf.sizeOf s < SizeOf.sizeOf t := by
 cases t with
 | mk keys vals kids =>
  have h1 : s ∈ kids := List.mem_of_getElem? h
  have h2 := List.sizeOf_lt_of_mem h1
  have h3 : SizeOf.sizeOf (PT.mk keys vals kids) = 1 + SizeOf.sizeOf keys + SizeOf.sizeOf vals + SizeOf.sizeOf kids := by simp
  omega
mutual
def fP : PT -> Int
 | .mk _ _ [] => 1
 | .mk _ _ (c :: cs) => if nO (fP c) (c :: cs) then Go.RowKit.wrap64 (fP c + 1) else -1
def nO (d : Int) : List PT -> Bool
 | [] => true
 | c :: cs => !(decide (d < 0) || fP c != d || decide (c.keys.length < 2)) && nO d cs
end
theorem dY {α : Type} {l : List α} {i : Nat} {s : α} (h : l[i]? = some s) : l.drop i = s :: l.drop (i + 1) := by
 obtain ⟨h1, h2⟩ := List.getElem?_eq_some_iff.1 h
 rw [<- h2]
 exact List.drop_eq_getElem_cons h1
mutual
def Ho : PT -> Prop
 | .mk _ _ kids => kids.length <= 1048576 /\ Fa kids
def Fa : List PT -> Prop
 | [] => True
 | c :: cs => Ho c /\ Fa cs
end
theorem Fb : ∀ {l : List PT}, Fa l -> ∀ {i : Nat} {s : PT}, l[i]? = some s -> Ho s
 | [], _, i, s, h => by simp at h
 | c :: cs, hf, 0, s, h => by
  simp only [Fa] at hf
  obtain rfl := Option.some.inj h
  exact hf.1
 | c :: cs, hf, i + 1, s, h => by
  simp only [Fa] at hf
  exact Fb hf.2 (by simpa using h)
theorem Ho.kid {t s : PT} {i : Nat} (h : Ho t) (hs : t.kids[i]? = some s) : Ho s := by
 cases t with | mk keys vals kids =>
  simp only [Ho] at h
  exact Fb h.2 hs
theorem Ho.len {t : PT} (h : Ho t) : t.kids.length <= 1048576 := by
 cases t with | mk keys vals kids =>
  simp only [Ho] at h
  exact h.1
theorem ze {t : PT} (h : t.kids.length = 0) : fP t = 1 := by
 cases t with | mk keys vals kids =>
  cases kids with
  | nil => simp [fP]
  | cons c cs => simp [PT.kids] at h
theorem zf {t c : PT} (h : t.kids[0]? = some c) : fP t = if nO (fP c) (t.kids.drop 0) then Go.RowKit.wrap64 (fP c + 1) else -1 := by
 cases t with | mk keys vals kids =>
  cases kids with
  | nil => simp [PT.kids] at h
  | cons c' cs =>
   obtain rfl : c' = c := by simpa [PT.kids] using h
   simp [fP, PT.kids]
theorem zg {d : Int} {l : List PT} {i : Nat} {s : PT} (h : l[i]? = some s) (x : Int) (hx : x = if nO d (l.drop i) then Go.RowKit.wrap64 (d + 1) else -1) :
  x = if (!(decide (d < 0) || fP s != d || decide (s.keys.length < 2)) && nO d (l.drop (i + 1))) then Go.RowKit.wrap64 (d + 1) else -1 := by
 rw [dY h, nO] at hx
 exact hx
theorem Mi {d x : Int} {l : List PT} {i : Nat} {s : PT} (h : l[i]? = some s) (hx : x = if nO d (l.drop i) then Go.RowKit.wrap64 (d + 1) else -1) (h1 : ¬ d < 0) (h2 : fP s = d) (h3 : ¬ s.keys.length < 2) :
  x = if nO d (l.drop (i + 1)) then Go.RowKit.wrap64 (d + 1) else -1 := by
 have := zg h x hx
 rw [this]
 simp [h1, h2, h3]
theorem wX {d x : Int} {l : List PT} {i : Nat} {s : PT} (h : l[i]? = some s) (hx : x = if nO d (l.drop i) then Go.RowKit.wrap64 (d + 1) else -1) (h1 : d < 0 ∨ fP s ≠ d ∨ s.keys.length < 2) :
  x = -1 := by
 have := zg h x hx
 rw [this]
 rcases h1 with h1 | h1 | h1 <;> simp [h1]
theorem Kz {d x : Int} {l : List PT} {i : Nat} (h : l.length <= i) (hx : x = if nO d (l.drop i) then Go.RowKit.wrap64 (d + 1) else -1) : x = Go.RowKit.wrap64 (d + 1) := by
 rw [List.drop_eq_nil_of_le h] at hx
 simpa [nO] using hx
mutual
def gG : PT -> Int × Bool
 | .mk _ _ [] => (1, true)
 | .mk keys _ (c :: cs) => match iq 0 0 (c :: cs) with
  | some f => (Go.RowKit.wrap64 (f + 1), decide (0 < keys.length))
  | none => (0, false)
def iq (i : Nat) (first : Int) : List PT -> Option Int
 | [] => some first
 | c :: cs => if (!(gG c).2 || decide (c.keys.length < 2) || (decide (0 < i) && (gG c).1 != first)) then none else iq (i + 1) (gG c).1 cs
end
def uO (n : Nat) : Option Int -> Int × Bool
 | some f => (Go.RowKit.wrap64 (f + 1), decide (0 < n))
 | none => (0, false)
theorem xR {t : PT} (h : t.kids.length = 0) : gG t = (1, true) := by
 cases t with | mk keys vals kids =>
  cases kids with
  | nil => simp [gG]
  | cons c cs => simp [PT.kids] at h
theorem xS {t : PT} (h : t.kids.length ≠ 0) : gG t = uO t.keys.length (iq 0 0 (t.kids.drop 0)) := by
 cases t with | mk keys vals kids =>
  cases kids with
  | nil => simp [PT.kids] at h
  | cons c cs =>
   simp only [PT.kids, PT.keys, List.drop_zero]
   rw [gG]
   cases iq 0 0 (c :: cs) <;> rfl
theorem KA {first : Int} {l : List PT} {i : Nat} {s : PT} {n : Nat} {x : Int × Bool} (h : l[i]? = some s) (hx : x = uO n (iq i first (l.drop i))) (h1 : (gG s).2 = true) (h2 : ¬ s.keys.length < 2) (h3 : i = 0 ∨ (gG s).1 = first) :
  x = uO n (iq (i + 1) (gG s).1 (l.drop (i + 1))) := by
 rw [dY h, iq] at hx
 rw [hx]
 congr 1
 rw [if_neg]
 rcases h3 with h3 | h3 <;> simp [h1, h2, h3]
theorem uP {first : Int} {l : List PT} {i : Nat} {s : PT} {n : Nat} {x : Int × Bool} (h : l[i]? = some s) (hx : x = uO n (iq i first (l.drop i))) (h1 : (gG s).2 = false ∨ s.keys.length < 2 ∨ (0 < i /\ (gG s).1 ≠ first)) : x = (0, false) := by
 rw [dY h, iq] at hx
 rw [hx]
 rw [if_pos]
 ·rfl
 ·rcases h1 with h1 | h1 | h1 <;> simp [h1]
theorem Hq {first : Int} {l : List PT} {i : Nat} {n : Nat} {x : Int × Bool} (h : l.length <= i) (hx : x = uO n (iq i first (l.drop i))) : x = (Go.RowKit.wrap64 (first + 1), decide (0 < n)) := by
 rw [List.drop_eq_nil_of_le h, iq] at hx
 exact hx
def bN {α : Type} : List (List α) -> List α -> List α
 | [], ks => ks
 | c :: _, [] => c
 | c :: cs, k :: ks => c ++ k :: bN cs ks
mutual
def bB : PT -> List ByteArray
 | .mk keys _ kids => bN (Jk kids) keys
def Jk : List PT -> List (List ByteArray)
 | [] => []
 | c :: cs => bB c :: Jk cs
end
mutual
def dL : PT -> List ByteArray
 | .mk _ vals kids => bN (Jl kids) vals
def Jl : List PT -> List (List ByteArray)
 | [] => []
 | c :: cs => dL c :: Jl cs
end
theorem Cq : ∀ l : List PT, Jk l = l.map bB
 | [] => rfl
 | c :: cs => by rw [Jk, Cq cs]; rfl
theorem Cr : ∀ l : List PT, Jl l = l.map dL
 | [] => rfl
 | c :: cs => by rw [Jl, Cr cs]; rfl
theorem nU (t : PT) : bB t = bN (t.kids.map bB) t.keys := by
 cases t with | mk keys vals kids => rw [bB, Cq]; rfl
theorem yK (t : PT) : dL t = bN (t.kids.map dL) t.vals := by
 cases t with | mk keys vals kids => rw [dL, Cr]; rfl
def lg (t : PT) (i : Nat) : List ByteArray := bN ((t.kids.drop i).map bB) (t.keys.drop i)
def mf (t : PT) (i : Nat) : List ByteArray := bN ((t.kids.drop i).map dL) (t.vals.drop i)
theorem zh (t : PT) : lg t 0 = bB t := by rw [nU, lg, List.drop_zero, List.drop_zero]
theorem zk (t : PT) : mf t 0 = dL t := by rw [yK, mf, List.drop_zero, List.drop_zero]
def uQ (t : PT) : Prop := t.keys.length = t.vals.length /\ t.keys.length <= 1000 /\ (t.kids.length = 0 ∨ t.kids.length = t.keys.length + 1)
mutual
def mJ : PT -> Prop
 | .mk keys vals kids => uQ (.mk keys vals kids) /\ Hr kids
def Hr : List PT -> Prop
 | [] => True
 | c :: cs => mJ c /\ Hr cs
end
theorem Fe : ∀ {l : List PT}, Hr l -> ∀ {i : Nat} {s : PT}, l[i]? = some s -> mJ s
 | [], _, i, s, h => by simp at h
 | c :: cs, hf, 0, s, h => by
  simp only [Hr] at hf
  obtain rfl := Option.some.inj h
  exact hf.1
 | c :: cs, hf, i + 1, s, h => by
  simp only [Hr] at hf
  exact Fe hf.2 (by simpa using h)
theorem mJ.one {t : PT} (h : mJ t) : uQ t := by
 cases t with | mk keys vals kids => simp only [mJ] at h; exact h.1
theorem mJ.kid {t s : PT} {i : Nat} (h : mJ t) (hs : t.kids[i]? = some s) : mJ s := by
 cases t with | mk keys vals kids =>
  simp only [mJ] at h
  exact Fe h.2 hs
theorem mJ.mk' {t : PT} (h1 : uQ t) (h : ∀ (i : Nat) (s : PT), t.kids[i]? = some s -> mJ s) : mJ t := by
 cases t with | mk keys vals kids =>
  simp only [mJ]
  refine ⟨h1, ?_⟩
  have h' : ∀ (i : Nat) (s : PT), kids[i]? = some s -> mJ s := h
  clear h h1
  induction kids with
  | nil => simp [Hr]
  | cons c cs ih =>
   simp only [Hr]
   exact ⟨h' 0 c rfl, ih fun i s hs => h' (i + 1) s (by simpa using hs)⟩
theorem Jm : ∀ {l : List PT}, (∀ (i : Nat) (s : PT), l[i]? = some s -> Ho s) -> Fa l
 | [], _ => by simp [Fa]
 | c :: cs, h => by
  simp only [Fa]
  exact ⟨h 0 c rfl, Jm fun i s hs => h (i + 1) s (by simpa using hs)⟩
theorem mJ.few : ∀ {n : Nat} {t : PT}, SizeOf.sizeOf t <= n -> mJ t -> Ho t
 | 0, t, h, _ => by cases t; simp at h
 | n + 1, t, h, hs => by
  cases t with | mk keys vals kids =>
  simp only [Ho]
  have h1 := hs.one
  unfold uQ at h1
  simp only [PT.kids, PT.keys, PT.vals] at h1
  refine ⟨by omega, Jm fun i s hi => mJ.few (n := n) ?_ (hs.kid hi)⟩
  have := PT.gT (t := .mk keys vals kids) hi
  omega
theorem pQ {α : Type} (l : List α) {i : Nat} (h : l.length <= i) : l.drop i = [] := List.drop_eq_nil_of_le h
theorem drop_at {α : Type} {l : List α} {i : Nat} (h : i < l.length) (d : α) : l.drop i = l.getD i d :: l.drop (i + 1) := by
 rw [List.drop_eq_getElem_cons h, List.getD_eq_getElem?_getD, List.getElem?_eq_getElem h]
 rfl
theorem zm {t : PT} {i : Nat} (h : t.kids.length = 0) (hi : i < t.keys.length) : lg t i = t.keys.getD i ByteArray.empty :: lg t (i + 1) := by
 have e : t.kids = [] := List.length_eq_zero_iff.1 h
 unfold lg
 rw [e, List.drop_nil, List.drop_nil, drop_at hi ByteArray.empty]
 rfl
theorem zn {t : PT} {i : Nat} (h : t.kids.length = 0) (hi : i < t.vals.length) : mf t i = t.vals.getD i ByteArray.empty :: mf t (i + 1) := by
 have e : t.kids = [] := List.length_eq_zero_iff.1 h
 unfold mf
 rw [e, List.drop_nil, List.drop_nil, drop_at hi ByteArray.empty]
 rfl
theorem zo {t s : PT} {i : Nat} (h : t.kids[i]? = some s) (hi : i < t.keys.length) : lg t i = bB s ++ t.keys.getD i ByteArray.empty :: lg t (i + 1) := by
 unfold lg
 rw [dY h, drop_at hi ByteArray.empty]
 rfl
theorem zq {t s : PT} {i : Nat} (h : t.kids[i]? = some s) (hi : i < t.vals.length) : mf t i = dL s ++ t.vals.getD i ByteArray.empty :: mf t (i + 1) := by
 unfold mf
 rw [dY h, drop_at hi ByteArray.empty]
 rfl
theorem zt {t s : PT} {i : Nat} (h : t.kids[i]? = some s) (hi : t.keys.length <= i) (hk : t.kids.length = i + 1) : lg t i = bB s ++ lg t (i + 1) := by
 unfold lg
 rw [dY h, pQ t.keys hi, pQ t.kids (by omega), pQ t.keys (by omega)]
 simp [bN]
theorem zu {t s : PT} {i : Nat} (h : t.kids[i]? = some s) (hi : t.vals.length <= i) (hk : t.kids.length = i + 1) : mf t i = dL s ++ mf t (i + 1) := by
 unfold mf
 rw [dY h, pQ t.vals hi, pQ t.kids (by omega), pQ t.vals (by omega)]
 simp [bN]
theorem qg {t : PT} {i : Nat} (hi : t.keys.length <= i) (hk : t.kids.length <= i) : lg t i = [] := by
 unfold lg
 rw [pQ t.keys hi, pQ t.kids hk]
 rfl
theorem qh {t : PT} {i : Nat} (hi : t.vals.length <= i) (hk : t.kids.length <= i) : mf t i = [] := by
 unfold mf
 rw [pQ t.vals hi, pQ t.kids hk]
 rfl
mutual
def PT.big : PT -> Nat
 | .mk _ _ kids => 1 + PT.iH kids
def PT.iH : List PT -> Nat
 | [] => 0
 | c :: cs => c.big + PT.iH cs
end
theorem Ff : ∀ {l : List PT} {i : Nat} {s : PT}, l[i]? = some s -> s.big <= PT.iH l
 | [], i, s, h => by simp at h
 | c :: cs, 0, s, h => by
  obtain rfl := Option.some.inj h
  rw [PT.iH]
  omega
 | c :: cs, i + 1, s, h => by
  have := Ff (l := cs) (i := i) (s := s) (by simpa using h)
  rw [PT.iH]
  omega
theorem PT.fH {t s : PT} {i : Nat} (h : t.kids[i]? = some s) : s.big < t.big := by
 cases t with | mk keys vals kids =>
 have := Ff (l := kids) h
 rw [PT.big]
 omega
theorem PT.eH (t : PT) : 0 < t.big := by
 cases t with | mk keys vals kids => rw [PT.big]; omega
abbrev bG (p : Nat) : Value := .pointer (some ⟨p, 0, none⟩)
def eT : Kd Nat := Kd.scalar bG (fun _ => rfl)
inductive Rd (T : Nat) (w : World) : Nat -> PT -> Prop
 | mk {p : Nat} {keys vals : List ByteArray} {kids : List PT} (Ak : Option Addr) (ck : Nat) (Av : Option Addr) (cv : Nat) (Ac : Option Addr) (cc : Nat) (ps : List Nat)
   (hn : w.heap[p]? = some (.cells #[.slice Ak keys.length ck, .slice Av vals.length cv, .slice Ac kids.length cc] T (0, 0)))
   (h1 : keys.length <= ck) (h2 : vals.length <= cv) (h3 : kids.length <= cc)
   (hk : Kd.string.C w Ak keys.length keys) (hv : Kd.string.C w Av vals.length vals) (hc : eT.C w Ac kids.length ps) (hl : ps.length = kids.length)
   (ht : ∀ (i q : Nat) (s : PT), ps[i]? = some q -> kids[i]? = some s -> Rd T w q s) : Rd T w p (.mk keys vals kids)
section
variable {T : Nat} {w w1 : World} {p : Nat} {t : PT}
theorem Rd.under (h : Rd T w p t) (hb : Below w.heap.size w w1) : Rd T w1 p t := by
 induction h with
 | mk Ak ck Av cv Ac cc ps hn h1 h2 h3 hk hv hc hl ht ih =>
  exact .mk Ak ck Av cv Ac cc ps (aT hn hb) h1 h2 h3 (Kd.ax hk hb) (Kd.ax hv hb) (Kd.ax hc hb) hl ih
theorem Rd.drew (h : Rd T w p t) : Rd T w.drew p t := h.under (aH (Below.refl _ _))
theorem Rd.drewN (h : Rd T w p t) (m : Nat) : Rd T (w.drewN m) p t := h.under (ah (Below.refl _ _) m)
end
structure NC (T : Nat) (w : World) (p : Nat) (t : PT) (Ak : Option Addr) (ck : Nat) (Av : Option Addr) (cv : Nat) (Ac : Option Addr) (cc : Nat) (ps : List Nat) : Prop where
 hn : w.heap[p]? = some (.cells #[.slice Ak t.keys.length ck, .slice Av t.vals.length cv, .slice Ac t.kids.length cc] T (0, 0))
 h1 : t.keys.length <= ck
 h2 : t.vals.length <= cv
 h3 : t.kids.length <= cc
 hk : Kd.string.C w Ak t.keys.length t.keys
 hv : Kd.string.C w Av t.vals.length t.vals
 hc : eT.C w Ac t.kids.length ps
 hl : ps.length = t.kids.length
 ht : ∀ (i q : Nat) (s : PT), ps[i]? = some q -> t.kids[i]? = some s -> Rd T w q s
section
variable {T : Nat} {w w1 : World} {p : Nat} {t : PT} {Ak Av Ac : Option Addr} {ck cv cc : Nat} {ps : List Nat}
theorem Rd.open (h : Rd T w p t) : ∃ Ak ck Av cv Ac cc ps, NC T w p t Ak ck Av cv Ac cc ps := by
 cases h with | mk Ak ck Av cv Ac cc ps hn h1 h2 h3 hk hv hc hl ht => exact ⟨Ak, ck, Av, cv, Ac, cc, ps, ⟨hn, h1, h2, h3, hk, hv, hc, hl, ht⟩⟩
theorem NC.rd (h : NC T w p t Ak ck Av cv Ac cc ps) : Rd T w p t := by
 rw [<- PT.eta t]
 exact .mk Ak ck Av cv Ac cc ps h.hn h.h1 h.h2 h.h3 h.hk h.hv h.hc h.hl h.ht
theorem NC.below (h : NC T w p t Ak ck Av cv Ac cc ps) (hb : Below w.heap.size w w1) : NC T w1 p t Ak ck Av cv Ac cc ps :=
 ⟨aT h.hn hb, h.h1, h.h2, h.h3, Kd.ax h.hk hb, Kd.ax h.hv hb, Kd.ax h.hc hb, h.hl, fun i q s hq hs => (h.ht i q s hq hs).under hb⟩
theorem NC.z0 (h : NC T w p t Ak ck Av cv Ac cc ps) : w.cell? ⟨p, 0, none⟩ = some (.slice Ak t.keys.length ck) := (ak h.hn 0).trans rfl
theorem NC.z1 (h : NC T w p t Ak ck Av cv Ac cc ps) : w.cell? ⟨p, 1, none⟩ = some (.slice Av t.vals.length cv) := (ak h.hn 1).trans rfl
theorem NC.z2 (h : NC T w p t Ak ck Av cv Ac cc ps) : w.cell? ⟨p, 2, none⟩ = some (.slice Ac t.kids.length cc) := (ak h.hn 2).trans rfl
theorem uR {A : Option Addr} {n : Nat} {ps : List Nat} (h : eT.C w A n ps) (i : Int) (h0 : 0 <= i) (h1 : i < n) : ∃ ad, A = some ad /\ w.cell? (ad.add i.toNat) = some (bG (bI 0 ps i)) :=
 gH.at_ (Kd.gU (enc := bG) (d := (0 : Nat)) (h1 := fun _ => rfl) h) i h0 h1
theorem Yh {ad : Addr} {v : Value} (h : w.cell? (ad.add (0 : Int).toNat) = some v) : w.cell? ad = some v := by
 have e_ : ad.add (0 : Int).toNat = ad := by cases ad; simp [Addr.add]
 rw [e_] at h
 exact h
theorem NC.kid (h : NC T w p t Ak ck Av cv Ac cc ps) (i : Int) (h0 : 0 <= i) (h1 : i < (t.kids.length : Int)) :
  ∃ (ad : Addr) (q : Nat) (s : PT), Ac = some ad /\ w.cell? (ad.add i.toNat) = some (bG q) /\ t.kids[i.toNat]? = some s /\ Rd T w q s := by
 obtain ⟨ad, hA, hz⟩ := uR h.hc i h0 (by omega)
 have hl := h.hl
 have hi : i.toNat < t.kids.length := by omega
 have hj : i.toNat < ps.length := by omega
 refine ⟨ad, bI 0 ps i, t.kids[i.toNat], hA, hz, List.getElem?_eq_getElem hi, h.ht i.toNat _ _ ?_ (List.getElem?_eq_getElem hi)⟩
 rw [List.getElem?_eq_getElem hj]
 unfold bI
 rw [List.getD_eq_getElem?_getD, List.getElem?_eq_getElem hj]
 rfl
theorem NC.key (h : NC T w p t Ak ck Av cv Ac cc ps) (i : Int) (h0 : 0 <= i) (h1 : i < (t.keys.length : Int)) :
  ∃ (ad : Addr), Ak = some ad /\ w.cell? (ad.add i.toNat) = some (.string (bI ByteArray.empty t.keys i)) := Kd.bF h.hk i h0 h1
theorem NC.val (h : NC T w p t Ak ck Av cv Ac cc ps) (i : Int) (h0 : 0 <= i) (h1 : i < (t.vals.length : Int)) :
  ∃ (ad : Addr), Av = some ad /\ w.cell? (ad.add i.toNat) = some (.string (bI ByteArray.empty t.vals i)) := Kd.bF h.hv i h0 h1
end
end Go.Proofs.Ytoddejmlcnbdmaa.Tree
namespace Go.Proofs.Ytoddejmlcnbdmaa.Fn
def UC : Option Int -> Value
  | none => .nilIface
  | some c => .iface 0 (.int .i64 c)
theorem lh : UC none = .nilIface := rfl
theorem lq (c : Int) : UC (some c) = .iface 0 (.int .i64 c) := rfl
theorem Jn {p : Prop} (h : p := by first | rfl | (simp [lh, lq] <;> rfl) | (simp [*, lh, lq] <;> rfl)) : p := h
theorem info3 : (Try.prog.info? 3).map (fun i => (i.zero, i.size, i.bytes)) = some (some (.int .i64 0), 1, 8) := by kernel_rfl
theorem dh : (Try.prog.info? 9).map (fun i => (i.zero, i.size, i.bytes)) = some (some (.string ⟨#[]⟩), 1, 16) := by kernel_rfl
theorem DK : (Try.prog.info? 110).map (fun i => (i.zero, i.size, i.bytes)) = some (some (.agg #[(.slice none 0 0), (.slice none 0 0), (.slice none 0 0)]), 3, 72) := by kernel_rfl
structure bH where
  f0 : (List ByteArray)
  f1 : (List ByteArray)
  f2 : (List Int)
def lF : bH := ⟨([] : List ByteArray), ([] : List ByteArray), ([] : List Int)⟩
def jX : Kd bH := Kd.Yi (Kd.pair (Kd.slice 9 Kd.string) (Kd.pair (Kd.slice 9 Kd.string) (Kd.slice 3 (Kd.int .i64)))) (fun x : bH => (x.f0, x.f1, x.f2))
theorem KC {w : World} {x : bH} {cs : List Value} (h : jX.K w x cs) : ∃ A0 c0 A1 c1 A2 c2, cs = [.slice A0 x.f0.length c0, .slice A1 x.f1.length c1, .slice A2 x.f2.length c2] /\ x.f0.length <= c0 /\ Kd.string.C w A0 x.f0.length x.f0 /\ x.f1.length <= c1 /\ Kd.string.C w A1 x.f1.length x.f1 /\ x.f2.length <= c2 /\ (Kd.int .i64).C w A2 x.f2.length x.f2 := by
  obtain ⟨_, _, rfl, ⟨A0, c0, rfl, l0, g0⟩, ⟨_, _, rfl, ⟨A1, c1, rfl, l1, g1⟩, ⟨A2, c2, rfl, l2, g2⟩⟩⟩ := h
  exact ⟨A0, c0, A1, c1, A2, c2, rfl, l0, g0, l1, g1, l2, g2⟩
theorem Mj (w : World) (base : Nat) (ok : Nat -> Prop) (x : bH) {v0 : Value} (g0 : Kd.string.R 9 w base ok v0 x.f0) {v1 : Value} (g1 : Kd.string.R 9 w base ok v1 x.f1) {v2 : Value} (g2 : (Kd.int .i64).R 3 w base ok v2 x.f2) : jX.M w base ok x [v0, v1, v2] := ⟨[v0], [v1, v2], rfl, ⟨v0, rfl, g0⟩, ⟨[v1], [v2], rfl, ⟨v1, rfl, g1⟩, ⟨v2, rfl, g2⟩⟩⟩
def eO (xs : List bH) (i : Int) : bH := xs.getD i.toNat lF
theorem DL {w : World} {A : Option Addr} {n : Nat} {xs : List bH} (h : Kd.C jX w A n xs) (i : Int) (h0 : 0 <= i) (h1 : i < n) : ∃ ad A0 c0 A1 c1 A2 c2, A = some ad /\ w.cell? (ad.add (i.toNat * 3)) = some (.slice A0 (eO xs i).f0.length c0) /\ w.cell? ⟨(ad.add (i.toNat * 3)).block, (ad.add (i.toNat * 3)).off + 1, none⟩ = some (.slice A1 (eO xs i).f1.length c1) /\ w.cell? ⟨(ad.add (i.toNat * 3)).block, (ad.add (i.toNat * 3)).off + 2, none⟩ = some (.slice A2 (eO xs i).f2.length c2) /\ (eO xs i).f0.length <= c0 /\ Kd.string.C w A0 (eO xs i).f0.length (eO xs i).f0 /\ (eO xs i).f1.length <= c1 /\ Kd.string.C w A1 (eO xs i).f1.length (eO xs i).f1 /\ (eO xs i).f2.length <= c2 /\ (Kd.int .i64).C w A2 (eO xs i).f2.length (eO xs i).f2 := by
  obtain ⟨ad, c, e, _, hK, hc0⟩ := Kd.UD h lF i h0 h1
  have hc : ∀ j u, c[j]? = some u -> w.cell? (ad.add (i.toNat * 3 + j)) = some u := hc0
  obtain ⟨A0, c0, A1, c1, A2, c2, rfl, l0, g0, l1, g1, l2, g2⟩ := KC hK
  exact ⟨ad, A0, c0, A1, c1, A2, c2, e, hc 0 _ rfl, by rw [<- Cs _ _ 1 (by omega)]; exact hc 1 _ rfl, by rw [<- Cs _ _ 2 (by omega)]; exact hc 2 _ rfl, l0, g0, l1, g1, l2, g2⟩
end Go.Proofs.Ytoddejmlcnbdmaa.Fn
namespace Go.Proofs.Ytoddejmlcnbdmaa.Tree
open Go.Proofs.Ytoddejmlcnbdmaa.Fn
def SR (w : World) (base : Nat) (v : Value) (l : List ByteArray) : Prop := Kd.string.R 9 w base (fun _ => True) v l
theorem SR.BO {w : World} {base : Nat} {v : Value} {l : List ByteArray} (h : Kd.string.R 9 w base (fun _ => True) v l) : SR w base v l := h
section
variable {W w1 : World} {base : Nat} {v v1 u : Value} {l l1 : List ByteArray}
theorem SR.nil (w : World) (base : Nat) : SR w base (.slice none 0 0) [] := Kd.vI _ _ _ _ _
theorem SR.lt (h : SR W base v l) {k : Nat} (hk : v.ownBlock = some k) : k < W.heap.size := by
 have h2 := Kd.qL h
 exact (h2.1 k hk).2.2.1
theorem SR.far (h : SR W base v l) (hg : W.grownBy w1 u.ownBlock) (hne : rO v u) : SR w1 base v l :=
 Kd.jH (Kd.O0 (Kd.Jo rfl h) hg (fun k hk he => hne k hk.symm he.symm)) (fun _ _ => trivial)
theorem SR.under (h : SR W base v l) (hb : Below W.heap.size W w1) : SR w1 base v l := Kd.yL h hb
theorem wY (h : rO u v) : rO v u := fun k h1 h2 => h k h2 h1
theorem SR.ne (h : SR W base u l) (hat : v1.ownBlock = v.ownBlock ∨ ∃ b, v1.ownBlock = some b /\ W.heap.size <= b) (hne : rO v u) : rO v1 u := by
 intro k hk hu
 rcases hat with h1 | ⟨b, h1, h2⟩
 ·exact hne k (by rw [<- h1]; exact hk) hu
 ·have := h.lt hu
  rw [h1] at hk
  injection hk with hk
  omega
end
open Go.Proofs.Ytoddejmlcnbdmaa.Fn
inductive Ck where
 | own (e : Nat) (v : Value) (xs : List Value)
 | jE (e : Nat) (v : Value) (xs : List Value)
 | box (T p : Nat) (cs : Array Value)
 | row (e sz : Nat) (v : Value) (n : Nat) (xs : List Value)
def Ck.blk : Ck -> Option Nat
 | .own _ v _ => v.ownBlock
 | .jE _ v _ => v.ownBlock
 | .box _ p _ => some p
 | .row _ _ v _ _ => v.ownBlock
def Ck.ok (w : World) (base : Nat) : Ck -> Prop
 | .own e v xs => w.ownsRow base e 1 v xs.length xs
 | .jE e v xs => lZ w base e 1 v xs.length xs
 | .box T p cs => base <= p /\ w.heap[p]? = some (.cells cs T (0, 0))
 | .row e sz v n xs => w.ownsRow base e sz v n xs
def Apart (a b : Ck) : Prop := ∀ k, a.blk = some k -> b.blk ≠ some k
theorem Apart.symm {a b : Ck} (h : Apart a b) : Apart b a := fun k h1 h2 => h k h2 h1
structure Sat (w : World) (base : Nat) (L : List Ck) : Prop where
 ok : ∀ c ∈ L, c.ok w base
 ap : L.Pairwise Apart
def uk (L : List Ck) (k : Nat) : Prop := ∃ c ∈ L, c.blk = some k
section
variable {w w1 W : World} {base : Nat} {c : Ck} {L A A' R : List Ck}
theorem Ck.lt (h : c.ok w base) {k : Nat} (hk : c.blk = some k) : k < w.heap.size := by
 cases c with
 | own e v xs => exact Ht h k hk
 | jE e v xs => exact UE h k hk
 | box T p cs =>
  injection hk with hk
  subst hk
  exact gF h.2
 | row e sz v n xs => exact Ht h k hk
theorem Ck.ge (h : c.ok w base) {k : Nat} (hk : c.blk = some k) : base <= k := by
 cases c with
 | own e v xs => exact oC h k hk
 | jE e v xs => exact (yM h k hk).1
 | box T p cs =>
  injection hk with hk
  subst hk
  exact h.1
 | row e sz v n xs => exact oC h k hk
theorem Ck.move (h : c.ok w base) (hm : ∀ k, c.blk = some k -> w1.heap[k]? = w.heap[k]?) : c.ok w1 base := by
 cases c with
 | own e v xs => exact zw h hm
 | jE e v xs => exact Mk h hm
 | box T p cs => exact ⟨h.1, (hm p rfl).trans h.2⟩
 | row e sz v n xs => exact zw h hm
theorem Ck.lower {base' : Nat} (h : c.ok w base) (hb : base' <= base) : c.ok w base' := by
 cases c with
 | own e v xs => exact uS h hb
 | jE e v xs => exact Jp h hb
 | box T p cs => exact ⟨Nat.le_trans hb h.1, h.2⟩
 | row e sz v n xs => exact uS h hb
theorem Sat.nil (w : World) (base : Nat) : Sat w base [] := ⟨(fun c h => by cases h), .nil⟩
theorem Sat.lt (h : Sat w base L) {k : Nat} (hk : uk L k) : k < w.heap.size := by
 obtain ⟨c, hc, hb⟩ := hk
 exact Ck.lt (h.ok c hc) hb
theorem Sat.ge (h : Sat w base L) {k : Nat} (hk : uk L k) : base <= k := by
 obtain ⟨c, hc, hb⟩ := hk
 exact Ck.ge (h.ok c hc) hb
theorem Sat.move (h : Sat w base L) (hm : ∀ k, uk L k -> k < w.heap.size -> w1.heap[k]? = w.heap[k]?) : Sat w1 base L :=
 ⟨fun c hc => Ck.move (h.ok c hc) fun k hk => hm k ⟨c, hc, hk⟩ (Ck.lt (h.ok c hc) hk), h.ap⟩
theorem Sat.under (h : Sat w base L) (hb : Below w.heap.size w w1) : Sat w1 base L := h.move fun k _ hk => hb.block k hk
theorem Sat.lower {base' : Nat} (h : Sat w base L) (hb : base' <= base) : Sat w base' L := ⟨fun c hc => Ck.lower (h.ok c hc) hb, h.ap⟩
theorem Sat.drew (h : Sat w base L) : Sat w.drew base L := h.under (aH (Below.refl _ _))
theorem Sat.drewN (h : Sat w base L) (m : Nat) : Sat (w.drewN m) base L := h.under (ah (Below.refl _ _) m)
theorem Sat.perm (h : Sat w base A) (hp : A.Perm L) : Sat w base L :=
 ⟨fun c hc => h.ok c (hp.mem_iff.2 hc), hp.pairwise h.ap fun h => Apart.symm h⟩
theorem Sat.sub (h : Sat w base A) (hp : L.Sublist A) : Sat w base L := ⟨fun c hc => h.ok c (hp.subset hc), h.ap.sublist hp⟩
theorem Sat.left (h : Sat w base (A ++ R)) : Sat w base A := h.sub (List.sublist_append_left _ _)
theorem Sat.right (h : Sat w base (A ++ R)) : Sat w base R := h.sub (List.sublist_append_right _ _)
theorem Sat.apart (h : Sat w base (A ++ R)) {k : Nat} (ha : uk A k) (hr : uk R k) : False := by
 obtain ⟨c, hc, h1⟩ := ha
 obtain ⟨d, hd, h2⟩ := hr
 exact (List.pairwise_append.1 h.ap).2.2 c hc d hd k h1 h2
theorem Sat.frame (h : Sat w base (A ++ R)) (ha : Sat w1 base A') (hk : Kept w w1 (uk A)) (hb : ∀ k, uk A' k -> uk A k ∨ w.heap.size <= k) : Sat w1 base (A' ++ R) := by
 have hr : Sat w1 base R := h.right.move fun k hk' hlt => hk.2 k hlt fun hka => h.apart hka hk'
 refine ⟨fun c hc => ?_, List.pairwise_append.2 ⟨ha.ap, hr.ap, fun a haa r hrr k h1 h2 => ?_⟩⟩
 ·rcases List.mem_append.1 hc with hc | hc
  ·exact ha.ok c hc
  ·exact hr.ok c hc
 ·rcases hb k ⟨a, haa, h1⟩ with h3 | h3
  ·exact h.apart h3 ⟨r, hrr, h2⟩
  ·have := h.right.lt ⟨r, hrr, h2⟩
   omega
theorem Sat.add (h : Sat w base L) (hk : Kept w w1 (fun _ => False)) (hc : Sat w1 base A) (hn : ∀ k, uk A k -> w.heap.size <= k) : Sat w1 base (A ++ L) := by
 have := Sat.frame (A := []) (A' := A) (R := L) (w := w) (w1 := w1) (base := base) (by simpa using h) hc (hk.mono fun k h => h.elim) (fun k h => .inr (hn k h))
 exact this
theorem Sat.one (h : c.ok w base) : Sat w base [c] := ⟨fun d hd => by rw [List.mem_singleton.1 hd]; exact h, List.pairwise_singleton _ _⟩
theorem Sat.cell (h : Sat w base L) {T p : Nat} {cs : Array Value} (hm : Ck.box T p cs ∈ L) : w.heap[p]? = some (.cells cs T (0, 0)) := (h.ok _ hm).2
theorem Jq {v : Value} {l : List ByteArray} (h : Ck.ok w base (.own 9 v (encs Value.string l))) : SR w base v l :=
 Kd.qi (enc := Value.string) (h1 := fun _ => rfl) (by have h2 : w.ownsRow base 9 1 v (encs Value.string l).length (encs Value.string l) := h; rw [cB] at h2; exact h2) (fun _ _ => trivial)
theorem rX {v : Value} {l : List ByteArray} (h : SR w base v l) : Ck.ok w base (.own 9 v (encs Value.string l)) := by
 have h2 := Kd.rY (enc := Value.string) (h1 := fun _ => rfl) h
 show w.ownsRow base 9 1 v (encs Value.string l).length (encs Value.string l)
 rw [cB]
 exact h2
abbrev txt (v : Value) (l : List ByteArray) : Ck := .own 9 v (encs Value.string l)
theorem Sat.sr (h : Sat w base L) {v : Value} {l : List ByteArray} (i : Nat) (hi : L[i]? = some (txt v l)) : SR w base v l := Jq (h.ok _ (List.mem_of_getElem? hi))
theorem Sat.Yc (h : Sat w base L) {i j : Nat} (hij : i < j) {a b : Ck} (hi : L[i]? = some a) (hj : L[j]? = some b) : Apart a b := by
 obtain ⟨h1, h2⟩ := List.getElem?_eq_some_iff.1 hi
 obtain ⟨h3, h4⟩ := List.getElem?_eq_some_iff.1 hj
 rw [<- h2, <- h4]
 exact List.pairwise_iff_getElem.1 h.ap i j h1 h3 hij
theorem Sat.two {v1 v2 : Value} {l1 l2 : List ByteArray} (h1 : SR w base v1 l1) (h2 : SR w base v2 l2) (hn : rO v1 v2) : Sat w base [txt v1 l1, txt v2 l2] :=
 ⟨fun c hc => by
  rcases List.mem_cons.1 hc with rfl | hc
  ·exact rX h1
  ·rw [List.mem_singleton.1 hc]; exact rX h2, by
  refine List.pairwise_cons.2 ⟨fun b hb => ?_, List.pairwise_singleton _ _⟩
  rw [List.mem_singleton.1 hb]
  exact hn⟩
theorem Sat.lit {xs : List ByteArray} {vb : Value} (h : Sat W base L) (ho : Kd.string.R 9 w1 base (fun _ => True) vb xs) (hg : W.grownBy w1 none) (hn : ∃ b, vb.ownBlock = some b /\ W.heap.size <= b) : Sat w1 base (L ++ [txt vb xs]) := by
 have hk : Kept W w1 (fun _ => False) := ⟨hg.size, fun i hi _ => hg.block i hi (by simp)⟩
 refine (h.add hk (Sat.one (rX ho)) ?_).perm List.perm_append_comm
 rintro k ⟨c, hc, hb⟩
 rw [List.mem_singleton.1 hc] at hb
 obtain ⟨b, h1, h2⟩ := hn
 have h3 : vb.ownBlock = some k := hb
 rw [h1] at h3
 injection h3 with h3
 omega
theorem set_perm {α : Type} : ∀ {l : List α} {i : Nat} {x y : α}, l[i]? = some x -> (l.Perm (x :: l.eraseIdx i)) /\ (l.set i y).Perm (y :: l.eraseIdx i)
 | [], i, x, y, h => by simp at h
 | a :: l, 0, x, y, h => by
  have h : a = x := by simpa using h
  subst h
  exact ⟨.refl _, .refl _⟩
 | a :: l, i + 1, x, y, h => by
  obtain ⟨h1, h2⟩ := set_perm (l := l) (i := i) (x := x) (y := y) (by simpa using h)
  exact ⟨(h1.cons a).trans (.swap _ _ _), (h2.cons a).trans (.swap _ _ _)⟩
theorem Sat.app {x y : List ByteArray} {u u1 : Value} (i : Nat) (h : Sat W base L) (hi : L[i]? = some (txt u x)) (ho : Kd.string.R 9 w1 base (fun _ => True) u1 y) (hg : W.grownBy w1 u.ownBlock) (hat : u1.ownBlock = u.ownBlock ∨ ∃ b, u1.ownBlock = some b /\ W.heap.size <= b) :
  Sat w1 base (L.set i (txt u1 y)) := by
 obtain ⟨h1, h2⟩ := set_perm (y := txt u1 y) hi
 have hf : Sat w1 base ([txt u1 y] ++ L.eraseIdx i) := by
  refine Sat.frame (A := [txt u x]) (w := W) (h.perm h1) (Sat.one (rX ho)) ⟨hg.size, fun k hk hnot => hg.block k hk fun he => hnot ⟨_, List.mem_singleton_self _, he.symm⟩⟩ ?_
  rintro k ⟨c, hc, hb⟩
  rw [List.mem_singleton.1 hc] at hb
  have h3 : u1.ownBlock = some k := hb
  rcases hat with h4 | ⟨b, h4, h5⟩
  ·exact .inl ⟨_, List.mem_singleton_self _, by rw [h4] at h3; exact h3⟩
  ·rw [h4] at h3
   injection h3 with h3
   exact .inr (by omega)
 exact hf.perm h2.symm
end
open Go.Proofs.Ytoddejmlcnbdmaa.Fn
inductive NT where
 | mk (p : Nat) (kv vv cv : Value) (keys vals : List ByteArray) (kids : List NT)
def NT.p : NT -> Nat | .mk p _ _ _ _ _ _ => p
def NT.kv : NT -> Value | .mk _ v _ _ _ _ _ => v
def NT.vv : NT -> Value | .mk _ _ v _ _ _ _ => v
def NT.cv : NT -> Value | .mk _ _ _ v _ _ _ => v
def NT.keys : NT -> List ByteArray | .mk _ _ _ _ k _ _ => k
def NT.vals : NT -> List ByteArray | .mk _ _ _ _ _ v _ => v
def NT.kids : NT -> List NT | .mk _ _ _ _ _ _ c => c
mutual
def NT.erase : NT -> PT
 | .mk _ _ _ _ keys vals kids => .mk keys vals (NT.aQ kids)
def NT.aQ : List NT -> List PT
 | [] => []
 | c :: cs => c.erase :: NT.aQ cs
end
theorem aK : ∀ l : List NT, NT.aQ l = l.map NT.erase
 | [] => rfl
 | c :: cs => by rw [NT.aQ, aK cs]; rfl
abbrev ptrs (l : List NT) : List Value := l.map fun k => bG k.p
mutual
def NT.dI (T E : Nat) : NT -> List Ck
 | .mk p kv vv cv keys vals kids => .box T p #[kv, vv, cv] :: txt kv keys :: txt vv vals :: .jE E cv (ptrs kids) :: NT.bE T E kids
def NT.bE (T E : Nat) : List NT -> List Ck
 | [] => []
 | c :: cs => c.dI T E ++ NT.bE T E cs
end
theorem qj (T E : Nat) : ∀ l : List NT, NT.bE T E l = l.flatMap (NT.dI T E)
 | [] => rfl
 | c :: cs => by rw [NT.bE, qj T E cs]; rfl
theorem iC (T E : Nat) (a b : List NT) : NT.bE T E (a ++ b) = NT.bE T E a ++ NT.bE T E b := by
 rw [qj, qj, qj, List.flatMap_append]
section
variable {w w1 : World} {base : Nat} {L : List Ck}
theorem zx {α : Type} {enc : α -> Value} {xs : List α} {inner : List Value} {n : Nat} (hr : fq (fun (x : α) (cs : List Value) => cs = [enc x]) 1 xs inner) : inner = encs enc xs := by
 apply List.ext_getElem?
 intro j
 rcases Nat.lt_or_ge j xs.length with hj | hj
 ·have h2 := hr.2 j _ (List.getElem?_eq_getElem hj)
  have hl : j < inner.length := by have := hr.1; omega
  have h3 : (inner.drop (j * 1)).take 1 = [enc xs[j]] := h2
  rw [Nat.mul_one, List.drop_eq_getElem_cons hl] at h3
  have h4 : inner[j] = enc xs[j] := by
   have h5 := congrArg List.head? h3
   rw [List.take_succ_cons] at h5
   exact Option.some.inj h5
  rw [List.getElem?_eq_getElem hl, h4]
  simp [encs, List.getElem?_eq_getElem hj]
 ·have h3 : inner.length = xs.length := by have := hr.1; omega
  rw [List.getElem?_eq_none (by omega), List.getElem?_eq_none (by rw [cB]; omega)]
def PQ (E : Nat) (w : World) (base : Nat) (v : Value) (ps : List Nat) : Prop := eT.Q E w base (fun _ => True) v ps
theorem zy {E : Nat} {v : Value} {ps : List Nat} (h : Ck.ok w base (.jE E v (encs bG ps))) : PQ E w base v ps := by
 refine ⟨fun _ _ => trivial, encs bG ps, ?_, Kd.aX ps⟩
 have h2 : lZ w base E 1 v (encs bG ps).length (encs bG ps) := h
 rw [cB] at h2
 exact h2
theorem xU {E : Nat} {v : Value} {ps : List Nat} (h : PQ E w base v ps) : Ck.ok w base (.jE E v (encs bG ps)) := by
 obtain ⟨_, inner, ho, hr⟩ := h
 have e := zx (n := 0) (enc := bG) hr
 subst e
 show lZ w base E 1 v (encs bG ps).length (encs bG ps)
 rw [cB]
 exact ho
theorem fE (l : List NT) : ptrs l = encs bG (l.map NT.p) := by unfold ptrs encs; rw [List.map_map]; rfl
theorem Sat.tail {c : Ck} (h : Sat w base (c :: L)) : Sat w base L := h.sub (List.sublist_cons_self _ _)
theorem Fg {α β : Type} {f : α -> List β} : ∀ {l : List α} {x : α}, x ∈ l -> (f x).Sublist (l.flatMap f)
 | y :: l, x, h => by
  rw [List.flatMap_cons]
  rcases List.mem_cons.1 h with rfl | h
  ·exact List.sublist_append_left _ _
  ·exact (Fg h).trans (List.sublist_append_right _ _)
theorem vJ {T E : Nat} {l : List NT} (h : Sat w base (NT.bE T E l)) {i : Nat} {s : NT} (hs : l[i]? = some s) : Sat w base (s.dI T E) := by
 rw [qj] at h
 exact h.sub (Fg (List.mem_of_getElem? hs))
theorem Ct {T E : Nat} : ∀ (n : Nat) (t : NT), SizeOf.sizeOf t <= n -> Sat w base (t.dI T E) -> Rd T w t.p t.erase
 | 0, t, h, _ => by cases t; simp at h
 | n + 1, .mk p kv vv cv keys vals kids, h, hs => by
  rw [NT.dI] at hs
  have hb := (hs.ok _ List.mem_cons_self).2
  obtain ⟨Ak, ck, e1, h1, hk⟩ := Kd.eU (Jq (hs.tail.ok _ List.mem_cons_self))
  obtain ⟨Av, cv', e2, h2, hv⟩ := Kd.eU (Jq (hs.tail.tail.ok _ List.mem_cons_self))
  have hq := hs.tail.tail.tail.ok _ List.mem_cons_self
  rw [fE] at hq
  obtain ⟨Ac, cc, e3, h3, hc⟩ := Kd.Jr (zy hq)
  subst e1; subst e2; subst e3
  rw [List.length_map] at h3 hc
  have hl : (NT.aQ kids).length = kids.length := by rw [aK, List.length_map]
  refine .mk Ak ck Av cv' Ac cc (kids.map NT.p) (by rw [hl]; rw [List.length_map] at hb; exact hb) h1 h2 (by omega) hk hv (by rw [hl]; exact hc) (by rw [hl, List.length_map]) ?_
  intro i q s hq hs'
  rw [aK] at hs'
  rw [List.getElem?_map] at hq hs'
  obtain ⟨k, hk, rfl⟩ := Option.map_eq_some_iff.1 hq
  rw [hk] at hs'
  obtain rfl := Option.some.inj hs'
  refine Ct n k ?_ (vJ hs.tail.tail.tail.tail hk)
  have := List.sizeOf_lt_of_mem (List.mem_of_getElem? hk)
  have h3 : SizeOf.sizeOf (NT.mk p (.slice Ak keys.length ck) (.slice Av vals.length cv') (.slice Ac (kids.map NT.p).length cc) keys vals kids) = 1 + SizeOf.sizeOf p + SizeOf.sizeOf (Value.slice Ak keys.length ck) + SizeOf.sizeOf (Value.slice Av vals.length cv') + SizeOf.sizeOf (Value.slice Ac (kids.map NT.p).length cc) + SizeOf.sizeOf keys + SizeOf.sizeOf vals + SizeOf.sizeOf kids := by simp
  omega
theorem jI {T E : Nat} {t : NT} (h : Sat w base (t.dI T E)) : Rd T w t.p t.erase := Ct _ t (Nat.le_refl _) h
theorem Sat.put {T p : Nat} {cs cs' : Array Value} (h : Sat w base (.box T p cs :: L)) (j : Nat) (u : Value) (e : cs.setIfInBounds j u = cs') : Sat (w.setCell ⟨p, j, none⟩ u) base (.box T p cs' :: L) := by
 have h1 := (h.ok _ List.mem_cons_self)
 refine Sat.frame (A := [.box T p cs]) (A' := [.box T p cs']) (R := L) (w := w) h (Sat.one ⟨h1.1, dH h1.2 j u e⟩) ((Kept.refl w _).setCell (.inl ⟨_, List.mem_singleton_self _, rfl⟩) u) ?_
 rintro k ⟨c, hc, hb⟩
 rw [List.mem_singleton.1 hc] at hb
 exact .inl ⟨_, List.mem_singleton_self _, hb⟩
theorem Sat.UF {T p : Nat} {a0 a1 a2 : Value} (h : Sat w base (.box T p #[a0, a1, a2] :: L)) (x0 x1 x2 : Value) :
  Sat (((w.setCell ⟨p, 0, none⟩ x0).setCell ⟨p, 1, none⟩ x1).setCell ⟨p, 2, none⟩ x2) base (.box T p #[x0, x1, x2] :: L) :=
 ((h.put 0 x0 (cs' := #[x0, a1, a2]) rfl).put 1 x1 (cs' := #[x0, x1, a2]) rfl).put 2 x2 rfl
theorem Sat.gI {T g : Nat} {cs : Array Value} {W : World} (h : Sat W base L) (hg : g = W.heap.size) (aC : w1.heap[g]? = some (.cells cs T (0, 0))) (hb : Below W.heap.size W w1) (hbase : base <= W.heap.size) : Sat w1 base (.box T g cs :: L) := by
 refine Sat.add (A := [.box T g cs]) h (Kept.of_below hb _) (Sat.one ⟨by omega, aC⟩) ?_
 rintro k ⟨c, hc, hb⟩
 rw [List.mem_singleton.1 hc] at hb
 injection hb with hb
 omega
theorem Sat.zz (h : Sat w base L) (E : Nat) : Sat w base (.jE E (.slice none 0 0) [] :: L) := by
 have hq : Ck.ok w base (.jE E (.slice none 0 0) []) := xU (ps := []) (Kd.UG _ _ _ _ _)
 refine Sat.add (A := [.jE E (.slice none 0 0) []]) h (Kept.refl _ _) (Sat.one hq) ?_
 rintro k ⟨c, hc, hb⟩
 rw [List.mem_singleton.1 hc] at hb
 cases hb
theorem Sat.Ml (h : Sat w base L) (i : Nat) {T p : Nat} {cs : Array Value} (hi : L[i]? = some (.box T p cs)) : w.heap[p]? = some (.cells cs T (0, 0)) := h.cell (List.mem_of_getElem? hi)
theorem Sat.z (h : Sat w base L) (i : Nat) {T p : Nat} {cs : Array Value} (hi : L[i]? = some (.box T p cs)) (j : Nat) : w.cell? ⟨p, j, none⟩ = cs[j]? := ak (h.Ml i hi) j
theorem Sat.f (h : Sat w base L) (i : Nat) {T p : Nat} {cs : Array Value} (hi : L[i]? = some (.box T p cs)) (j : Nat) : w.frozen? ⟨p, j, none⟩ = false := aY (h.Ml i hi) j
end
open Go.Proofs.Ytoddejmlcnbdmaa.Fn
def pR (p : bH) : Bool := decide (4 < p.f0.length) || p.f1.length != p.f0.length || (p.f2.length != 0 && p.f2.length != p.f0.length + 1)
def dQ (rd : Nat -> Option (PT × Nat)) : List Int -> Nat -> List PT -> Option (List PT × Nat)
 | [], next, acc => some (acc, next)
 | k :: ks, next, acc => if k ≠ (next : Int) then none else match rd next with
  | none => none
  | some r => dQ rd ks r.2 (acc ++ [r.1])
def fin (p : bH) (o : Option (List PT × Nat)) : Option (PT × Nat) := o.map fun r => (.mk p.f0 p.f1 r.1, r.2)
def bX (P : List bH) : Nat -> Nat -> Option (PT × Nat)
 | 0, _ => none
 | f + 1, at_ => if P.length <= at_ then none else if pR (P.getD at_ lF) then none else fin (P.getD at_ lF) (dQ (bX P f) (P.getD at_ lF).f2 (at_ + 1) [])
section
variable {rd : Nat -> Option (PT × Nat)} {p : bH} {l : List Int} {i next : Nat} {acc : List PT} {k : Int} {R : Option (PT × Nat)}
theorem vK {t : PT} {n : Nat} (h : R = fin p (dQ rd (l.drop i) next acc)) (hk : l[i]? = some k) (e : k = (next : Int)) (hr : rd next = some (t, n)) : R = fin p (dQ rd (l.drop (i + 1)) n (acc ++ [t])) := by
 rw [dY hk, dQ, if_neg (by simp [e]), hr] at h
 exact h
theorem qM (h : R = fin p (dQ rd (l.drop i) next acc)) (hk : l[i]? = some k) (e : k ≠ (next : Int)) : R = none := by
 rw [dY hk, dQ, if_pos e] at h
 exact h
theorem qN (h : R = fin p (dQ rd (l.drop i) next acc)) (hk : l[i]? = some k) (e : k = (next : Int)) (hr : rd next = none) : R = none := by
 rw [dY hk, dQ, if_neg (by simp [e]), hr] at h
 exact h
theorem tJ (h : R = fin p (dQ rd (l.drop i) next acc)) (hi : l.length <= i) : R = some (.mk p.f0 p.f1 acc, next) := by
 rw [List.drop_eq_nil_of_le hi, dQ] at h
 exact h
end
theorem xV {P : List bH} {f at_ : Nat} (h : P.length <= at_) : bX P f at_ = none := by
 cases f with
 | zero => rfl
 | succ f => rw [bX, if_pos h]
theorem Cw {P : List bH} {f at_ : Nat} (hb : pR (P.getD at_ lF) = true) : bX P (f + 1) at_ = none := by
 rw [bX]
 by_cases h : P.length <= at_
 ·rw [if_pos h]
 ·rw [if_neg h, if_pos hb]
theorem Fh {P : List bH} {f at_ : Nat} (h : ¬ P.length <= at_) (hb : pR (P.getD at_ lF) = false) : bX P (f + 1) at_ = fin (P.getD at_ lF) (dQ (bX P f) ((P.getD at_ lF).f2.drop 0) (at_ + 1) []) := by
 rw [bX, if_neg h, if_neg (by rw [hb]; decide), List.drop_zero]
theorem Fj {P : List bH} {rd : Nat -> Option (PT × Nat)} (hrd : ∀ at_ t n, rd at_ = some (t, n) -> at_ < n /\ n <= P.length) : ∀ (l : List Int) (next : Nat) (acc : List PT) (ts : List PT) (n : Nat), next <= P.length -> dQ rd l next acc = some (ts, n) -> next <= n /\ n <= P.length
 | [], next, acc, ts, n, hl, h => by
  rw [dQ] at h
  injection h with h
  injection h with h1 h2
  omega
 | k :: ks, next, acc, ts, n, hl, h => by
  rw [dQ] at h
  split at h
  ·cases h
  ·cases hr : rd next with
   | none => rw [hr] at h; cases h
   | some r =>
    rw [hr] at h
    have h1 := hrd next r.1 r.2 hr
    have := Fj hrd ks r.2 _ ts n h1.2 h
    omega
theorem jh {P : List bH} : ∀ (f at_ : Nat) (t : PT) (n : Nat), bX P f at_ = some (t, n) -> at_ < n /\ n <= P.length
 | 0, at_, t, n, h => by cases h
 | f + 1, at_, t, n, h => by
  rw [bX] at h
  split at h
  ·cases h
  ·rename_i hl
   split at h
   ·cases h
   ·unfold fin at h
    obtain ⟨r, hr, e⟩ := Option.map_eq_some_iff.1 h
    injection e with e1 e2
    have := Fj (P := P) (fun a t n h => jh f a t n h) _ _ _ r.1 r.2 (by omega) hr
    omega
open Go.Proofs.Ytoddejmlcnbdmaa.Fn
theorem iD : Try.prog.underlying 94 = some (.slice 70) := by kernel_rfl
theorem yN : Try.prog.underlying 99 = some (.slice 74) := by kernel_rfl
theorem jJ : (Try.prog.info? 70).map (fun i => (i.zero, i.size, i.bytes)) = some (some (.pointer none), 1, 8) := by kernel_rfl
theorem pU : (Try.prog.info? 74).map (fun i => (i.zero, i.size, i.bytes)) = some (some (.pointer none), 1, 8) := by kernel_rfl
theorem Mm {a b : Nat} (h : a ≠ b) : ((a : Int) != (b : Int)) = true := by rw [bne_iff_ne]; omega
theorem Hu {a b : Nat} (h : a = b) : ((a : Int) != (b : Int)) = false := by rw [bne_eq_false_iff_eq]; omega
theorem Qj {a : Nat} (h : a ≠ 0) : ((a : Int) != 0) = true := by rw [bne_iff_ne]; omega
theorem UH {a : Nat} (h : a = 0) : ((a : Int) != 0) = false := by rw [bne_eq_false_iff_eq]; omega
theorem Qk {a b : Nat} (h : a ≠ b + 1) : ((a : Int) != (b : Int) + 1) = true := by rw [bne_iff_ne]; omega
theorem Ql {a b : Nat} (h : a = b + 1) : ((a : Int) != (b : Int) + 1) = false := by rw [bne_eq_false_iff_eq]; omega
theorem vL {a b : Nat} (h : a ≠ b) : (a != b) = true := by rw [bne_iff_ne]; omega
theorem uB {a b : Nat} (h : a = b) : (a != b) = false := by rw [bne_eq_false_iff_eq]; omega
theorem DN {α : Type} {d : Kd α} {e : Nat} {w : World} {base : Nat} {ok : Nat -> Prop} {v : Value} {xs : List α} (h : d.Q e w base ok v xs) : ∃ A n c, v = .slice A n c := by
 obtain ⟨A, c, rfl, _⟩ := Kd.yO h
 exact ⟨A, _, c, rfl⟩
def LL (T E g : Nat) (v0 v1 cv : Value) (k v : List ByteArray) (X : List Ck) (acc : List NT) : List Ck :=
 .box T g #[v0, v1, cv] :: txt v0 k :: txt v1 v :: .jE E cv (ptrs acc) :: (X ++ NT.bE T E acc)
theorem Cx (T E : Nat) (acc : List NT) (n : NT) : NT.bE T E (acc ++ [n]) = NT.bE T E acc ++ n.dI T E := by
 rw [iC]
 congr 1
 rw [NT.bE, NT.bE, List.append_nil]
section
variable {w w1 W : World} {base T E g : Nat} {v0 v1 cv cv' : Value} {k v : List ByteArray} {X L : List Ck} {acc : List NT} {n : NT}
theorem Sat.Wt {x y : List Nat} {u u1 : Value} (i : Nat) (h : Sat W base L) (hi : L[i]? = some (.jE E u (encs bG x))) (ho : eT.Q E w1 base (fun _ => True) u1 y) (hg : W.grownBy w1 u.ownBlock) (hat : u1.ownBlock = u.ownBlock ∨ ∃ b, u1.ownBlock = some b /\ W.heap.size <= b) :
  Sat w1 base (L.set i (.jE E u1 (encs bG y))) := by
 obtain ⟨h1, h2⟩ := set_perm (y := Ck.jE E u1 (encs bG y)) hi
 have hf : Sat w1 base ([Ck.jE E u1 (encs bG y)] ++ L.eraseIdx i) := by
  refine Sat.frame (A := [.jE E u (encs bG x)]) (w := W) (h.perm h1) (Sat.one (xU ho)) ⟨hg.size, fun k hk hnot => hg.block k hk fun he => hnot ⟨_, List.mem_singleton_self _, he.symm⟩⟩ ?_
  rintro k ⟨c, hc, hb⟩
  rw [List.mem_singleton.1 hc] at hb
  have h3 : u1.ownBlock = some k := hb
  rcases hat with h4 | ⟨b, h4, h5⟩
  ·exact .inl ⟨_, List.mem_singleton_self _, by rw [h4] at h3; exact h3⟩
  ·rw [h4] at h3
   injection h3 with h3
   exact .inr (by omega)
 exact hf.perm h2.symm
theorem Sat.behind {A : List Ck} (h : Sat w base L) (hb : Below w.heap.size w w1) (hbase : base <= w.heap.size) (hn : Sat w1 w.heap.size A) : Sat w1 base (L ++ A) :=
 (h.add (Kept.of_below hb _) (hn.lower hbase) fun k hk => hn.ge hk).perm List.perm_append_comm
theorem Mo (h : Sat w base (LL T E g v0 v1 cv k v X acc)) (hb : Below w.heap.size w w1) (hbase : base <= w.heap.size) (hn : Sat w1 w.heap.size (n.dI T E)) :
  Sat w1 base (Ck.box T g #[v0, v1, cv] :: txt v0 k :: txt v1 v :: .jE E cv (encs bG (acc.map NT.p)) :: (X ++ NT.bE T E (acc ++ [n]))) := by
 have h2 := h.behind hb hbase hn
 have e : LL T E g v0 v1 cv k v X acc ++ n.dI T E = Ck.box T g #[v0, v1, cv] :: txt v0 k :: txt v1 v :: .jE E cv (encs bG (acc.map NT.p)) :: (X ++ NT.bE T E (acc ++ [n])) := by
  rw [Cx, <- fE]
  simp only [LL, List.cons_append, List.append_assoc]
 rw [e] at h2
 exact h2
theorem Sat.far (h : Sat w base L) {p : Addr} (hp : p.block < base) (u : Value) : Sat (w.setCell p u) base L := h.move fun k hk _ => Below.heap_setCell w p u k (by have := h.ge hk; omega)
theorem Sat.Qm {S : Nat -> Prop} (h : Sat w base L) (hk : Kept w w1 S) (hS : ∀ k, S k -> k < base) : Sat w1 base L := h.move fun k hb hlt => hk.2 k hlt fun hs => by have := h.ge hb; have := hS k hs; omega
theorem Js {S : Nat -> Prop} (h : Sat w base (LL T E g v0 v1 cv k v X acc)) (hk : Kept w w1 S) (hS : ∀ k, S k -> k < base) (hbase : base <= w.heap.size) (hn : Sat w1 w.heap.size (n.dI T E)) :
  Sat w1 base (Ck.box T g #[v0, v1, cv] :: txt v0 k :: txt v1 v :: .jE E cv (encs bG (acc.map NT.p)) :: (X ++ NT.bE T E (acc ++ [n]))) := by
 have h1 := h.Qm hk hS
 have h2 : Sat w1 base (LL T E g v0 v1 cv k v X acc ++ n.dI T E) := by
  refine ⟨fun c hc => ?_, List.pairwise_append.2 ⟨h1.ap, (hn.lower hbase).ap, fun a ha b hb j e1 e2 => ?_⟩⟩
  ·rcases List.mem_append.1 hc with hc | hc
   ·exact h1.ok c hc
   ·exact (hn.lower hbase).ok c hc
  ·have := h.lt ⟨a, ha, e1⟩
   have := hn.ge ⟨b, hb, e2⟩
   omega
 have e : LL T E g v0 v1 cv k v X acc ++ n.dI T E = Ck.box T g #[v0, v1, cv] :: txt v0 k :: txt v1 v :: .jE E cv (encs bG (acc.map NT.p)) :: (X ++ NT.bE T E (acc ++ [n])) := by
  rw [Cx, <- fE]
  simp only [LL, List.cons_append, List.append_assoc]
 rw [e] at h2
 exact h2
theorem DT {x : Nat} (h : Sat W base (Ck.box T g #[v0, v1, cv] :: txt v0 k :: txt v1 v :: .jE E cv (encs bG (acc.map NT.p)) :: (X ++ NT.bE T E (acc ++ [n])))) (ho : eT.Q E w1 base (fun _ => True) cv' (acc.map NT.p ++ [n.p])) (hg : W.grownBy w1 cv.ownBlock) (hat : cv'.ownBlock = cv.ownBlock ∨ ∃ b, cv'.ownBlock = some b /\ W.heap.size <= b) :
  Sat w1 base (Ck.box T g #[v0, v1, cv] :: txt v0 k :: txt v1 v :: .jE E cv' (ptrs (acc ++ [n])) :: (X ++ NT.bE T E (acc ++ [n]))) := by
 have h2 := Sat.Wt (E := E) 3 h rfl ho hg hat
 have e : encs bG (acc.map NT.p ++ [n.p]) = ptrs (acc ++ [n]) := by rw [fE, List.map_append]; rfl
 rw [e] at h2
 exact h2
theorem DU (h : Sat w base (Ck.box T g #[v0, v1, cv] :: txt v0 k :: txt v1 v :: .jE E cv' (ptrs acc) :: (X ++ NT.bE T E acc))) : Sat (w.setCell ⟨g, 2, none⟩ cv') base (LL T E g v0 v1 cv' k v X acc) := h.put 2 cv' rfl
theorem DV (h : Sat w base (LL T E g v0 v1 cv k v X acc)) : Sat w base ((NT.mk g v0 v1 cv k v acc).dI T E) := by
 rw [NT.dI]
 exact h.sub (((List.sublist_append_right X _).cons_cons _).cons_cons _ |>.cons_cons _ |>.cons_cons _)
theorem zA (h : Sat w base (Ck.box T g #[v0, v1, .slice none 0 0] :: (X ++ [txt v0 k, txt v1 v]))) : Sat w base (LL T E g v0 v1 (.slice none 0 0) k v X []) := by
 refine (h.zz E).perm ?_
 show List.Perm _ (Ck.box T g #[v0, v1, .slice none 0 0] :: txt v0 k :: txt v1 v :: .jE E (.slice none 0 0) [] :: (X ++ []))
 rw [List.append_nil]
 refine (List.Perm.swap _ _ _).trans (.cons _ ?_)
 have e1 : (X ++ [txt v0 k, txt v1 v]).Perm ([txt v0 k, txt v1 v] ++ X) := List.perm_append_comm
 refine (e1.cons _).trans ?_
 exact ((List.Perm.swap _ _ _).trans (.cons _ (.swap _ _ _)))
end
def Qn (T E : Nat) (w : World) (r : Option (PT × Nat)) (e : Ending) (w' : World) : Prop :=
 Below w.heap.size w w' /\ ((r = none /\ e = .returned (.tuple #[.pointer none, .int .i64 (-1)])) ∨
  ∃ (nt : NT) (n : Nat), r = some (nt.erase, n) /\ e = .returned (.tuple #[bG nt.p, .int .i64 (n : Int)]) /\ Sat w' w.heap.size (nt.dI T E))
def Qo (w0 w : World) (gb : Nat) (gs : Value) (r : Option (PT × Nat)) (e : Ending) (w' : World) : Prop :=
 Below w0.heap.size w0 w' /\ ((r = none /\ e = .returned (.tuple #[.pointer none, .bool false])) ∨
  ∃ (nt : NT) (n : Nat), r = some (nt.erase, n) /\ e = .returned (.tuple #[bG nt.p, .bool true]) /\ Sat w' w.heap.size (nt.dI 101 74) /\ Kept w w' (fun k => k = gb) /\ w'.heap[gb]? = some (.cells #[gs, .int .i64 (n : Int)] 121 (0, 0)))
open Go.Proofs.Ytoddejmlcnbdmaa.Fn
set_option maxHeartbeats 8000000
set_option maxRecDepth 100000
theorem Cy {p : bH} (h : pR p = false) : p.f0.length <= 4 /\ p.f1.length = p.f0.length /\ (p.f2.length = 0 ∨ p.f2.length = p.f0.length + 1) := by
 unfold pR at h
 simp only [Bool.or_eq_false_iff, Bool.and_eq_false_iff, decide_eq_false_iff_not, bne_eq_false_iff_eq] at h
 omega
theorem mW.calls (P : List bH) (hN : P.length <= 1000000000000) : ∀ (f : Nat) (d : Int), d + (f : Int) = 11 -> 0 <= d -> ∀ (a : Nat) (A : Option Addr) (c : Nat) (w : World), Kd.C jX w A P.length P -> (∀ p ∈ P, p.f0.length <= 1000000000000 /\ p.f1.length <= 1000000000000 /\ p.f2.length <= 1000000000000) -> a <= P.length ->
  Calls Try.prog 95 #[.agg #[.slice A P.length c], .int .i64 (a : Int), .int .i64 d] w (Qn 96 70 w (bX P f a)) := by
 intro f
 induction f with
 | zero =>
  intro d hd hd0 a A c w hp hm ha
  obtain rfl : d = 11 := by omega
  have HB := A_ (Below.refl w.heap.size w)
  have HS := A_ (Sat.nil w w.heap.size)
  clear hp
  by_cases h1 : P.length <= a
  ·have VX := kZ ((P.length : Int) <= (a : Int))
   have VY : (P.length <= a) = True := eq_true h1
   clear h1 ha hm hd
   go_enter Try.func95, Try.ntmps95
   go_wp2_with (refine jf 3 #[.slice A P.length c] 29 ?_; intro b3 hg w1 aC hb; have aj := A_ (Sat.gI HS.out hg aC hb HB.out.size); have hb' := au HB.out hb; have az := A_ hb'; clear HS; clear HB; have HS := aj; have HB := az; clear aj az; have hz3 := HS.out.z 0 rfl 0; clear hg aC hb hb')
   go_ret2
   exact ⟨HB.out, .inl ⟨rfl, rfl⟩⟩
  ·have VX := kT ((P.length : Int) <= (a : Int))
   have VY : (P.length <= a) = False := eq_false h1
   clear h1 ha hm hd
   go_enter Try.func95, Try.ntmps95
   go_wp2_with (refine jf 3 #[.slice A P.length c] 29 ?_; intro b3 hg w1 aC hb; have aj := A_ (Sat.gI HS.out hg aC hb HB.out.size); have hb' := au HB.out hb; have az := A_ hb'; clear HS; clear HB; have HS := aj; have HB := az; clear aj az; have hz3 := HS.out.z 0 rfl 0; clear hg aC hb hb')
   go_ret2
   exact ⟨HB.out, .inl ⟨rfl, rfl⟩⟩
 | succ f ih =>
  intro d hd hd0 a A c w hp hm ha
  have HB := A_ (Below.refl w.heap.size w)
  have HS := A_ (Sat.nil w w.heap.size)
  by_cases h1 : P.length <= a
  ·have VX := kZ ((P.length : Int) <= (a : Int))
   have VY : (P.length <= a) = True := eq_true h1
   have HR := A_ (xV (f := f + 1) h1)
   clear h1 ha hm hd hp
   go_enter Try.func95, Try.ntmps95
   go_wp2_with (refine jf 3 #[.slice A P.length c] 29 ?_; intro b3 hg w1 aC hb; have aj := A_ (Sat.gI HS.out hg aC hb HB.out.size); have hb' := au HB.out hb; have az := A_ hb'; clear HS; clear HB; have HS := aj; have HB := az; clear aj az; have hz3 := HS.out.z 0 rfl 0; clear hg aC hb hb')
   go_ret2
   exact ⟨HB.out, .inl ⟨HR.out, rfl⟩⟩
  ·have VX := kT ((P.length : Int) <= (a : Int))
   have VY : (P.length <= a) = False := eq_false h1
   have c1e := dJ (a < P.length)
   have c2b := kT (10 < d)
   have hdl : d <= 10 := by omega
   have HD := A_ hd
   have HA := A_ h1
   have HP := A_ hp
   have HM := A_ hm
   have hal : a < P.length := by omega
   have RH : P.length <= 1000000000000 := hN
   have Iz := hm _ (List.getElem_mem (l := P) hal)
   have U1 : P[a] = eO P (a : Int) := by unfold eO; rw [Int.toNat_natCast, List.getD_eq_getElem?_getD, List.getElem?_eq_getElem hal]; rfl
   have Nw : P.getD a lF = eO P (a : Int) := by unfold eO; rw [Int.toNat_natCast]
   rw [U1] at Iz
   obtain ⟨ad, A0, c0, A1, c1, A2, c2, WH, hx0, hx1, hx2, hl0, hf0, hl1, hf1, hl2, hf2⟩ := DL hp (a : Int) (by omega) (by omega)
   subst WH
   obtain ⟨R, hR⟩ : ∃ R, R = bX P (f + 1) a := ⟨_, rfl⟩
   have hgo : pR (P.getD a lF) = false -> R = fin (P.getD a lF) (dQ (bX P f) ((P.getD a lF).f2.drop 0) (a + 1) []) := fun hb => hR.trans (Fh (P := P) (f := f) h1 hb)
   have hbad : pR (P.getD a lF) = true -> R = none := fun hb => hR.trans (Cw (P := P) (f := f) (at_ := a) hb)
   rw [Nw] at hgo hbad
   rw [<- hR]
   rw [Int.toNat_natCast] at hx0 hx1 hx2
   generalize eO P (a : Int) = pg at *
   have HX0 := A_ hx0
   have RI := A_ hx1
   have RJ := A_ hx2
   have Ue := A_ hf0
   have VZ := A_ hf1
   have U2 := A_ hf2
   have Lp := A_ Iz
   have WI := A_ hgo
   have HBAD := A_ hbad
   clear h1 ha hm hd hp hl0 hf0 hl1 hf1 hl2 hf2 hx0 hx1 hx2 Iz hgo hbad U1 Nw hal hR
   go_enter Try.func95, Try.ntmps95
   go_upto_region 4 with (first | (refine jf 3 #[.slice (some ad) P.length c] 29 ?_; intro b3 hg w1 aC hb; have aj := A_ (Sat.gI HS.out hg aC hb HB.out.size); have hb' := au HB.out hb; have az := A_ hb'; clear HS; clear HB; have HS := aj; have HB := az; clear aj az; have hx0 := (Below.cell hb' (World.block_lt_of_cell? w _ HX0.out)).trans HX0.out; have hx1 := (Below.cell hb' (World.block_lt_of_cell? w _ RI.out)).trans RI.out; have hx2 := (Below.cell hb' (World.block_lt_of_cell? w _ RJ.out)).trans RJ.out; have hz3 := HS.out.z 0 rfl 0; clear hg aC hb hb') | (refine jf 8 #[.slice none 0 0, .slice none 0 0, .slice none 0 0] 110 ?_; intro b8 hg w2 aC hb; have aj := A_ (Sat.gI HS.out hg aC hb HB.out.size); have hb' := au HB.out hb; have az := A_ hb'; clear HS; clear HB; have HS := aj; have HB := az; clear aj az; have Ez := HS.out.z 0 rfl 0; have EA := HS.out.z 0 rfl 1; have xK := HS.out.z 0 rfl 2; have RL := HS.out.f 0 rfl 0; have RN := HS.out.f 0 rfl 1; have RO := HS.out.f 0 rfl 2; clear hg aC hb hb'))
   have aj := A_ (Sat.UF HS.out (.slice A0 pg.f0.length c0) (.slice A1 pg.f1.length c1) (.slice A2 pg.f2.length c2))
   have az : af (Below w.heap.size w (((w2.setCell ⟨b8, 0, none⟩ (.slice A0 pg.f0.length c0)).setCell ⟨b8, 1, none⟩ (.slice A1 pg.f1.length c1)).setCell ⟨b8, 2, none⟩ (.slice A2 pg.f2.length c2))) := ⟨((HB.out.setCell (p := ⟨b8, 0, none⟩) (HS.out.ge ⟨_, List.mem_cons_self, rfl⟩) _).setCell (p := ⟨b8, 1, none⟩) (HS.out.ge ⟨_, List.mem_cons_self, rfl⟩) _).setCell (p := ⟨b8, 2, none⟩) (HS.out.ge ⟨_, List.mem_cons_self, rfl⟩) _⟩
   clear HS HB hx0 hx1 hx2 hz3 Ez EA xK RL RN RO
   generalize ((w2.setCell ⟨b8, 0, none⟩ (.slice A0 pg.f0.length c0)).setCell ⟨b8, 1, none⟩ (.slice A1 pg.f1.length c1)).setCell ⟨b8, 2, none⟩ (.slice A2 pg.f2.length c2) = w3 at *
   have HS := A_ (aj.out.perm (List.Perm.swap _ _ _))
   have HB := az
   clear aj az
   refine dz (n := 11) (S := fun w' => w'.cell? ⟨b8, 0, none⟩ = some (.slice A0 pg.f0.length c0) /\ w'.cell? ⟨b8, 1, none⟩ = some (.slice A1 pg.f1.length c1)) (ds := []) (bt 11 0) (by kernel_rfl) rfl rfl ⟨(ak (Sat.cell (Sat.drew HS.out) (List.mem_of_getElem? (i := 1) rfl)) 0).trans rfl, (ak (Sat.cell (Sat.drew HS.out) (List.mem_of_getElem? (i := 1) rfl)) 1).trans rfl⟩ (fun hHeld => ?_)
   refine aV 1 30 2 ?_
   refine aV 5 34 34 ?_
   refine ik 2 31 38 hHeld ?_
   refine ik 6 35 102 hHeld ?_
   refine kz (σ := Value × Value × Value) 4 (bt 11 127) (fun z => [(29, z.1), (32, z.2.1), (33, z.2.2)]) (fun z w' => Below w.heap.size w w' /\ Sat w' w.heap.size [.box 29 b3 #[.slice (some ad) P.length c], .box 110 b8 #[.slice A0 pg.f0.length c0, .slice A1 pg.f1.length c1, .slice A2 pg.f2.length c2], txt z.2.1 pg.f0, txt z.2.2 []]) ?_ ?_
   rotate_left
   ·intro jQ
    refine DJ 0 4 (some 29) (some 33) 103 118 (fun K hK => ?_) (fun K hK => ?_)
    ·skip
     refine Kd.bn Kd.string (w0 := w) w.heap.size 9 (by rfl) (N := 29) rfl (xs := []) (inner := []) (ok := fun _ => True) (okp := fun _ => False) ?hr (fq.none _ _) (fun _ h => h.elim) trivial (aH HB.out) ((aH HB.out)).size (by simp) ?_
     (case hr => first | (go_simp; done) | (go_simp; rfl))
     intro e0 Ny fB hbb hgb hnb
     have mh := A_ hbb
     have mU := A_ (Sat.lit (Sat.drew HS.out) fB hgb hnb)
     clear fB hbb hgb hnb
     refine hK.out _ _ ⟨(ak (Sat.cell mU.out (List.mem_of_getElem? (i := 1) rfl)) 0).trans rfl, (ak (Sat.cell mU.out (List.mem_of_getElem? (i := 1) rfl)) 1).trans rfl⟩ (fun hHeld => ?_)
     clear hK K
     refine eF 29 ?_
     refine DJ 3 4 (some 32) (some 33) 111 119 (fun K hK => ?_) (fun K hK => ?_)
     ·skip
      refine Kd.aJ Kd.string (w0 := w) w.heap.size (by rfl) (.tmp 29) (.tmp 31) 38 9 (.string ⟨#[]⟩) 16 rfl Try.underlying38 dh rfl (by decide) (by omega) e0 [] pg.f0 A0 pg.f0.length c0 (fun _ => True) (fun _ => False) rfl rfl (Sat.sr mU.out 2 rfl) (Kd.ax Ue.out mh.out) (fun _ _ h => h) (fun _ h => h.elim) (fun _ _ => trivial) mh.out (mh.out).size (by have := Lp.out; simp only [List.length_nil]; omega) ?_
      intro v0 Gb ho hb hg hat
      rw [List.nil_append] at ho
      have kF := A_ hb
      have jm := A_ (Sat.app 2 mU.out rfl ho hg hat)
      clear ho hb hg hat
      refine hK.out _ _ ⟨(ak (Sat.cell jm.out (List.mem_of_getElem? (i := 1) rfl)) 0).trans rfl, (ak (Sat.cell jm.out (List.mem_of_getElem? (i := 1) rfl)) 1).trans rfl⟩ (fun hHeld => ?_)
      clear hK K
      refine eF 32 ?_
      refine jg 4 (some 33) 127 (fun K hK => ?_)
      refine Kd.bn Kd.string (w0 := w) w.heap.size 9 (by rfl) (N := 33) rfl (xs := []) (inner := []) (ok := fun _ => True) (okp := fun _ => False) ?hr (fq.none _ _) (fun _ h => h.elim) trivial kF.out (kF.out).size (by simp) ?_
      (case hr => first | (go_simp; done) | (go_simp; rfl))
      intro e1 Gc fB hbb hgb hnb
      have oQ := A_ hbb
      have lV := A_ (Sat.lit jm.out fB hgb hnb)
      clear fB hbb hgb hnb
      refine hK.out _ _ ⟨(ak (Sat.cell lV.out (List.mem_of_getElem? (i := 1) rfl)) 0).trans rfl, (ak (Sat.cell lV.out (List.mem_of_getElem? (i := 1) rfl)) 1).trans rfl⟩ (fun hHeld => ?_)
      clear hK K
      refine eF 33 ?_
      exact EW (jQ ⟨e0, v0, e1⟩ _ ⟨oQ.out, lV.out⟩)
     ·skip
      refine Kd.bn Kd.string (w0 := w) w.heap.size 9 (by rfl) (N := 33) rfl (xs := []) (inner := []) (ok := fun _ => True) (okp := fun _ => False) ?hr (fq.none _ _) (fun _ h => h.elim) trivial mh.out (mh.out).size (by simp) ?_
      (case hr => first | (go_simp; done) | (go_simp; rfl))
      intro e1 Gb fB hbb hgb hnb
      have kF := A_ hbb
      have jm := A_ (Sat.lit mU.out fB hgb hnb)
      clear fB hbb hgb hnb
      refine hK.out _ _ ⟨(ak (Sat.cell jm.out (List.mem_of_getElem? (i := 1) rfl)) 0).trans rfl, (ak (Sat.cell jm.out (List.mem_of_getElem? (i := 1) rfl)) 1).trans rfl⟩ (fun hHeld => ?_)
      clear hK K
      refine eF 33 ?_
      refine jg 3 (some 32) 127 (fun K hK => ?_)
      refine Kd.aJ Kd.string (w0 := w) w.heap.size (by rfl) (.tmp 29) (.tmp 31) 38 9 (.string ⟨#[]⟩) 16 rfl Try.underlying38 dh rfl (by decide) (by omega) e0 [] pg.f0 A0 pg.f0.length c0 (fun _ => True) (fun _ => False) rfl rfl (Sat.sr jm.out 2 rfl) (Kd.ax Ue.out kF.out) (fun _ _ h => h) (fun _ h => h.elim) (fun _ _ => trivial) kF.out (kF.out).size (by have := Lp.out; simp only [List.length_nil]; omega) ?_
      intro v0 Gc ho hb hg hat
      rw [List.nil_append] at ho
      have oQ := A_ hb
      have lV := A_ (Sat.app 2 jm.out rfl ho hg hat)
      clear ho hb hg hat
      refine hK.out _ _ ⟨(ak (Sat.cell lV.out (List.mem_of_getElem? (i := 1) rfl)) 0).trans rfl, (ak (Sat.cell lV.out (List.mem_of_getElem? (i := 1) rfl)) 1).trans rfl⟩ (fun hHeld => ?_)
      clear hK K
      refine eF 32 ?_
      exact EW (jQ ⟨e0, v0, e1⟩ _ ⟨oQ.out, lV.out⟩)
    ·skip
     refine Kd.bn Kd.string (w0 := w) w.heap.size 9 (by rfl) (N := 33) rfl (xs := []) (inner := []) (ok := fun _ => True) (okp := fun _ => False) ?hr (fq.none _ _) (fun _ h => h.elim) trivial (aH HB.out) ((aH HB.out)).size (by simp) ?_
     (case hr => first | (go_simp; done) | (go_simp; rfl))
     intro e1 Ny fB hbb hgb hnb
     have mh := A_ hbb
     have mU := A_ (Sat.lit (Sat.drew HS.out) fB hgb hnb)
     clear fB hbb hgb hnb
     refine hK.out _ _ ⟨(ak (Sat.cell mU.out (List.mem_of_getElem? (i := 1) rfl)) 0).trans rfl, (ak (Sat.cell mU.out (List.mem_of_getElem? (i := 1) rfl)) 1).trans rfl⟩ (fun hHeld => ?_)
     clear hK K
     refine eF 33 ?_
     refine jg 0 (some 29) 119 (fun K hK => ?_)
     refine Kd.bn Kd.string (w0 := w) w.heap.size 9 (by rfl) (N := 29) rfl (xs := []) (inner := []) (ok := fun _ => True) (okp := fun _ => False) ?hr (fq.none _ _) (fun _ h => h.elim) trivial mh.out (mh.out).size (by simp) ?_
     (case hr => first | (go_simp; done) | (go_simp; rfl))
     intro e0 Gb fB hbb hgb hnb
     have kF := A_ hbb
     have jm := A_ (Sat.lit mU.out fB hgb hnb)
     clear fB hbb hgb hnb
     refine hK.out _ _ ⟨(ak (Sat.cell jm.out (List.mem_of_getElem? (i := 1) rfl)) 0).trans rfl, (ak (Sat.cell jm.out (List.mem_of_getElem? (i := 1) rfl)) 1).trans rfl⟩ (fun hHeld => ?_)
     clear hK K
     refine eF 29 ?_
     refine jg 3 (some 32) 127 (fun K hK => ?_)
     refine Kd.aJ Kd.string (w0 := w) w.heap.size (by rfl) (.tmp 29) (.tmp 31) 38 9 (.string ⟨#[]⟩) 16 rfl Try.underlying38 dh rfl (by decide) (by omega) e0 [] pg.f0 A0 pg.f0.length c0 (fun _ => True) (fun _ => False) rfl rfl (Sat.sr jm.out 3 rfl) (Kd.ax Ue.out kF.out) (fun _ _ h => h) (fun _ h => h.elim) (fun _ _ => trivial) kF.out (kF.out).size (by have := Lp.out; simp only [List.length_nil]; omega) ?_
     intro v0 Gc ho hb hg hat
     rw [List.nil_append] at ho
     have oQ := A_ hb
     have lV := A_ (Sat.app 3 jm.out rfl ho hg hat)
     clear ho hb hg hat
     refine hK.out _ _ ⟨(ak (Sat.cell lV.out (List.mem_of_getElem? (i := 1) rfl)) 0).trans rfl, (ak (Sat.cell lV.out (List.mem_of_getElem? (i := 1) rfl)) 1).trans rfl⟩ (fun hHeld => ?_)
     clear hK K
     refine eF 32 ?_
     exact EW (jQ ⟨e0, v0, e1⟩ _ ⟨oQ.out, Sat.perm lV.out (((List.Perm.swap _ _ _).cons _).cons _)⟩)
   rintro ⟨e0, v0, e1⟩ w5 ⟨hb, hs⟩
   obtain ⟨Lr, Ls, rfl⟩ := Kd.av (Sat.sr hs 2 rfl)
   have hHeld : (w5.cell? ⟨b8, 0, none⟩ = some (.slice A0 pg.f0.length c0)) /\ (w5.cell? ⟨b8, 1, none⟩ = some (.slice A1 pg.f1.length c1)) := ⟨(ak (Sat.cell hs (List.mem_of_getElem? (i := 1) rfl)) 0).trans rfl, (ak (Sat.cell hs (List.mem_of_getElem? (i := 1) rfl)) 1).trans rfl⟩
   have L9 := A_ hb
   have Qy := A_ hs
   clear hb hs
   refine dG (a' := ?_) ?_ ?_
   rotate_left
   ·simp only [bz, Act.put, List.setIfInBounds_toArray, List.set_cons_zero, List.set_cons_succ]
    rfl
   refine jg 7 (some 36) 255 (fun K hK => ?_)
   refine Kd.aJ Kd.string (w0 := w) w.heap.size (by rfl) (.tmp 33) (.tmp 35) 38 9 (.string ⟨#[]⟩) 16 rfl Try.underlying38 dh rfl (by decide) (by omega) e1 [] pg.f1 A1 pg.f1.length c1 (fun _ => True) (fun _ => False) rfl rfl (Sat.sr Qy.out 3 rfl) (Kd.ax VZ.out L9.out) (fun _ _ h => h) (fun _ h => h.elim) (fun _ _ => trivial) L9.out L9.out.size (by have := Lp.out; simp only [List.length_nil]; omega) ?_
   intro v1 w6 ho hb hg hat
   rw [List.nil_append] at ho
   obtain ⟨oo, mi, rfl⟩ := Kd.av ho
   have aj := A_ hb
   have az := A_ (Sat.app 3 Qy.out rfl ho hg hat)
   clear ho hb hg hat L9 Qy
   have L9 := aj
   have Qy := az
   clear aj az
   refine hK.out _ _ ⟨(ak (Sat.cell Qy.out (List.mem_of_getElem? (i := 1) rfl)) 0).trans rfl, (ak (Sat.cell Qy.out (List.mem_of_getElem? (i := 1) rfl)) 1).trans rfl⟩ (fun hHeld => ?_)
   clear hK K
   refine eF 36 ?_
   refine aV 8 37 511 ?_
   refine jg 9 (some 38) 1023 (fun K hK => ?_)
   refine gV (by rfl) (N := 38) rfl (cs := #[.slice Lr pg.f0.length Ls, .slice oo pg.f1.length mi, .slice none 0 0]) (t := 96) ?hr ?_
   (case hr => first | (go_simp; done) | (go_simp; rfl))
   intro g hg w7 aC hb
   have V3 := A_ (Sat.gI Qy.out hg aC hb (by have := L9.out.size; omega))
   have HB7 := A_ (au L9.out hb)
   clear hg aC hb Qy L9
   refine hK.out _ _ ⟨(ak (Sat.cell V3.out (List.mem_of_getElem? (i := 2) rfl)) 0).trans rfl, (ak (Sat.cell V3.out (List.mem_of_getElem? (i := 2) rfl)) 1).trans rfl⟩ (fun hHeld => ?_)
   clear hK K
   refine eF 38 ?_
   refine aV 10 9 2047 ?_
   refine fu (by kernel_rfl) ?_
   have HS := A_ (zA (E := 70) (X := [.box 29 b3 #[.slice (some ad) P.length c], .box 110 b8 #[.slice A0 pg.f0.length c0, .slice A1 pg.f1.length c1, .slice A2 pg.f2.length c2]]) V3.out)
   have HB := HB7
   clear V3 HB7 hHeld
   have hz3 := HS.out.z 4 rfl 0
   have Ez := HS.out.z 5 rfl 0
   have EA := HS.out.z 5 rfl 1
   have xK := HS.out.z 5 rfl 2
   cases hbd : pR pg with
   | true =>
    have HR := A_ (HBAD.out hbd)
    have hb1 : 4 < pg.f0.length ∨ pg.f1.length ≠ pg.f0.length ∨ (pg.f2.length ≠ 0 /\ pg.f2.length ≠ pg.f0.length + 1) := by
     unfold pR at hbd
     simp only [Bool.or_eq_true, Bool.and_eq_true, decide_eq_true_eq, bne_iff_ne] at hbd
     omega
    by_cases q1 : 4 < pg.f0.length
    ·have t1 := kZ (4 < (pg.f0.length : Int))
     have U3 : (4 < pg.f0.length) = True := eq_true q1
     clear q1 hb1 hbd
     go_wp2
     go_ret2
     exact ⟨HB.out, .inl ⟨HR.out, rfl⟩⟩
    ·have t1 := kT (4 < (pg.f0.length : Int))
     have U3 : (4 < pg.f0.length) = False := eq_false q1
     by_cases q2 : pg.f1.length = pg.f0.length
     ·have q3 : pg.f2.length ≠ 0 /\ pg.f2.length ≠ pg.f0.length + 1 := by omega
      have t2 : ((pg.f1.length : Int) != (pg.f0.length : Int)) = false := Hu (by omega)
      have t3 : ((pg.f2.length : Int) != 0) = true := Qj (by omega)
      have t4 : ((pg.f2.length : Int) != (pg.f0.length : Int) + 1) = true := Qk (by omega)
      have t2b : (pg.f1.length != pg.f0.length) = false := uB (by omega)
      have Uf : (pg.f2.length != 0) = true := vL (by omega)
      have RP : (pg.f2.length != pg.f0.length + 1) = true := vL (by omega)
      have m0 : pg.f0.length <= 4 := by omega
      clear q1 q2 q3 hb1 hbd
      go_wp2
      go_ret2
      exact ⟨HB.out, .inl ⟨HR.out, rfl⟩⟩
     ·have t2 : ((pg.f1.length : Int) != (pg.f0.length : Int)) = true := Mm (by omega)
      have t2b : (pg.f1.length != pg.f0.length) = true := vL (by omega)
      clear q1 q2 hb1 hbd
      go_wp2
      go_ret2
      exact ⟨HB.out, .inl ⟨HR.out, rfl⟩⟩
   | false =>
    obtain ⟨q1, q2, q3⟩ := Cy hbd
    have HR := A_ (WI.out hbd)
    have t1 := kT (4 < (pg.f0.length : Int))
    have U3 : (4 < pg.f0.length) = False := eq_false (by omega)
    have t2 : ((pg.f1.length : Int) != (pg.f0.length : Int)) = false := Hu (by omega)
    have t2b : (pg.f1.length != pg.f0.length) = false := uB (by omega)
    have m0 : pg.f0.length <= 4 := by omega
    have Bf := A_ (show a + 1 <= P.length by have := HA.out; omega)
    have ham : a < 1000000000000 := by have := HA.out; omega
    have PI := A_ (show pg.f2.length <= 5 by omega)
    by_cases q4 : pg.f2.length = 0
    ·have t3 : ((pg.f2.length : Int) != 0) = false := UH (by omega)
     have Uf : (pg.f2.length != 0) = false := uB (by omega)
     clear q1 q2 q3 q4 hbd
     go_upto_region 9 with fail
     go_loopg [10, 73] pg.f2.length (fun kq V4 u73 w' => ∃ (i next : Nat) (acc : List NT) (cv : Value), V4 = .int .i64 (next : Int) /\ u73 = .int .i64 (i : Int) /\ af (kq + i = pg.f2.length) /\ af (acc.length = i) /\ af (R = fin pg (dQ (bX P f) (pg.f2.drop i) next (acc.map NT.erase))) /\ af (next <= P.length) /\ af (Sat w' w.heap.size (LL 96 70 g (.slice Lr pg.f0.length Ls) (.slice oo pg.f1.length mi) cv pg.f0 pg.f1 [.box 29 b3 #[.slice (some ad) P.length c], .box 110 b8 #[.slice A0 pg.f0.length c0, .slice A1 pg.f1.length c1, .slice A2 pg.f2.length c2]] acc)) /\ af (Below w.heap.size w w'))
     case atStart => exact ⟨0, a + 1, [], .slice none 0 0, by first | rfl | go_num | (simp; done), by first | rfl | (simp; done), ⟨Nat.add_zero _⟩, ⟨rfl⟩, HR, Bf, HS, HB⟩
     case round =>
      clear HR HS HB hz3 Ez EA xK Bf
      obtain ⟨i, next, acc, cv, rfl, rfl, HK, Nz, HR, Cg, HS, HB⟩ := hrel
      have hz3 := HS.out.z 4 rfl 0
      have ci := dJ (0 <= (i : Int))
      by_cases hi : i < pg.f2.length
      ·have ce := kZ ((i : Int) < (pg.f2.length : Int))
       have xL : (i < pg.f2.length) = True := eq_true hi
       have hi5 : i <= 5 := by have := PI.out; omega
       have RQ := A_ hi5
       have HI := A_ hi
       have hnx : next <= 1000000000000 := Nat.le_trans Cg.out RH
       obtain ⟨WJ, hA2, hk0⟩ := Kd.pV U2.out (i : Int) (by omega) (by omega)
       subst hA2
       rw [Int.toNat_natCast] at hk0
       have hks : pg.f2[i]? = some (rd pg.f2 (i : Int)) := by unfold rd; rw [Int.toNat_natCast, List.getD_eq_getElem?_getD, List.getElem?_eq_getElem hi]; rfl
       generalize rd pg.f2 (i : Int) = k at hk0 hks
       have hkz := (Below.cell HB.out (World.block_lt_of_cell? w _ hk0)).trans hk0
       have kD := A_ hks
       clear hk0 hks hi
       by_cases hkn : k = (next : Int)
       ·subst hkn
        cases hrs : bX P f next with
        | none =>
         have kP := A_ hrs
         have HE := A_ (qN HR.out kD.out rfl hrs)
         have tm : decide ((-1 : Int) < 0) = true := by decide
         clear hrs
         go_wp2_with (go_at_call 95; (with_reducible refine (ih (d + 1) (by have := HD.out; omega) (by omega) next (some ad) c _ (Kd.ax HP.out HB.out) HM.out Cg.out).mono ?_); rintro e w5 ⟨hb, hr⟩; rw [kP.out] at hr; obtain ⟨-, rfl⟩ := hr.resolve_right (by rintro ⟨_, _, h, _⟩; cases h); have az := A_ (au HB.out hb); clear HB; have HB := az; clear az hb hr)
         go_ret2
         exact ⟨HB.out, .inl ⟨HE.out, rfl⟩⟩
        | some tn =>
         obtain ⟨t, n⟩ := tn
         have kP := A_ hrs
         have Lt := A_ (jh f next t n hrs)
         have HE := A_ (vK HR.out kD.out rfl hrs)
         have tn0 := kT ((n : Int) < 0)
         clear hrs
         go_wp2_with (first | (go_at_call 95; (with_reducible refine (ih (d + 1) (by have := HD.out; omega) (by omega) next (some ad) c _ (Kd.ax HP.out HB.out) HM.out Cg.out).mono ?_); rintro e w5 ⟨hb, hr⟩; rw [kP.out] at hr; obtain ⟨nt, n9, h9, rfl, hs⟩ := hr.resolve_left (by rintro ⟨h, _⟩; cases h); injection h9 with h9; injection h9 with h9 h8; subst h9; subst h8; have aj := A_ (Mo HS.out hb HB.out.size hs); have az := A_ (au HB.out hb); clear HS; clear HB; have HS := aj; have HB := az; clear aj az; have WK := HS.out.z 0 rfl 2; clear hb hr hs) | ((with_reducible refine bQ (b := .append) (xs := #[.tmp 94, .tmp 96]) rfl ?_); at_builtin; refine Kd.vM eT (w0 := w) w.heap.size rfl (.tmp 94) (.tmp 96) 94 70 (.pointer none) 8 rfl iD jJ rfl (by decide) (by omega) cv (acc.map NT.p) nt.p [bG nt.p] (fun _ => True) (fun _ => False) rfl rfl ?aP (fun _ h => h.elim) ?aF ?aO ?aB ?aS ?aL ?_; (case aP => exact rfl); (case aB => exact HB.out); (case aF => exact fun _ _ => trivial); (case aO => exact zy (HS.out.ok _ (List.mem_of_getElem? (i := 3) rfl))); (case aS => exact HB.out.size); (case aL => rw [List.length_map]; have := Nz.out; have := RQ.out; omega); intro cv' w6 ho hb hg hat; obtain ⟨Aq, nq, cq, rfl⟩ := DN ho; have aj := A_ (DT (x := 0) HS.out ho hg hat); have az := A_ hb; clear HS; clear HB; have HS := aj; have HB := az; clear aj az; have RS := HS.out.z 0 rfl 2; have RU := HS.out.f 0 rfl 2; clear ho hb hg hat))
         go_roundg (pg.f2.length - (i + 1))
         case measure => have := HK.out; have := HI.out; omega
         case rel => exact ⟨i + 1, n, acc ++ [nt], .slice Aq nq cq, by first | rfl | go_num | (simp; done), by first | rfl | go_num | (simp; done), ⟨by have := HK.out; have := HI.out; omega⟩, ⟨by rw [List.length_append, Nz.out]; rfl⟩, ⟨by rw [List.map_append]; exact HE.out⟩, ⟨Lt.out.2⟩, ⟨DU HS.out⟩, ⟨HB.out.setCell (p := ⟨g, 2, none⟩) (HS.out.ge ⟨_, List.mem_cons_self, rfl⟩) _⟩⟩
       ·have HE := A_ (qM HR.out kD.out hkn)
        have tk : (k != (next : Int)) = true := bne_iff_ne.2 hkn
        clear hkn
        go_wp2
        go_ret2
        exact ⟨HB.out, .inl ⟨HE.out, rfl⟩⟩
      ·have ce := kT ((i : Int) < (pg.f2.length : Int))
       have xL : (i < pg.f2.length) = False := eq_false hi
       have HE := A_ (tJ HR.out (by omega))
       clear hi
       go_wp2
       go_ret2
       exact ⟨HB.out, .inr ⟨.mk g (.slice Lr pg.f0.length Ls) (.slice oo pg.f1.length mi) cv pg.f0 pg.f1 acc, next, by rw [HE.out, NT.erase, aK], rfl, DV HS.out⟩⟩
    ·have t3 : ((pg.f2.length : Int) != 0) = true := Qj (by omega)
     have Uf : (pg.f2.length != 0) = true := vL (by omega)
     have t4 : ((pg.f2.length : Int) != (pg.f0.length : Int) + 1) = false := Ql (by omega)
     have RP : (pg.f2.length != pg.f0.length + 1) = false := uB (by omega)
     clear q1 q2 q3 q4 hbd
     go_upto_region 9 with fail
     go_loopg [10, 73] pg.f2.length (fun kq V4 u73 w' => ∃ (i next : Nat) (acc : List NT) (cv : Value), V4 = .int .i64 (next : Int) /\ u73 = .int .i64 (i : Int) /\ af (kq + i = pg.f2.length) /\ af (acc.length = i) /\ af (R = fin pg (dQ (bX P f) (pg.f2.drop i) next (acc.map NT.erase))) /\ af (next <= P.length) /\ af (Sat w' w.heap.size (LL 96 70 g (.slice Lr pg.f0.length Ls) (.slice oo pg.f1.length mi) cv pg.f0 pg.f1 [.box 29 b3 #[.slice (some ad) P.length c], .box 110 b8 #[.slice A0 pg.f0.length c0, .slice A1 pg.f1.length c1, .slice A2 pg.f2.length c2]] acc)) /\ af (Below w.heap.size w w'))
     case atStart => exact ⟨0, a + 1, [], .slice none 0 0, by first | rfl | go_num | (simp; done), by first | rfl | (simp; done), ⟨Nat.add_zero _⟩, ⟨rfl⟩, HR, Bf, HS, HB⟩
     case round =>
      clear HR HS HB hz3 Ez EA xK Bf
      obtain ⟨i, next, acc, cv, rfl, rfl, HK, Nz, HR, Cg, HS, HB⟩ := hrel
      have hz3 := HS.out.z 4 rfl 0
      have ci := dJ (0 <= (i : Int))
      by_cases hi : i < pg.f2.length
      ·have ce := kZ ((i : Int) < (pg.f2.length : Int))
       have xL : (i < pg.f2.length) = True := eq_true hi
       have hi5 : i <= 5 := by have := PI.out; omega
       have RQ := A_ hi5
       have HI := A_ hi
       have hnx : next <= 1000000000000 := Nat.le_trans Cg.out RH
       obtain ⟨WJ, hA2, hk0⟩ := Kd.pV U2.out (i : Int) (by omega) (by omega)
       subst hA2
       rw [Int.toNat_natCast] at hk0
       have hks : pg.f2[i]? = some (rd pg.f2 (i : Int)) := by unfold rd; rw [Int.toNat_natCast, List.getD_eq_getElem?_getD, List.getElem?_eq_getElem hi]; rfl
       generalize rd pg.f2 (i : Int) = k at hk0 hks
       have hkz := (Below.cell HB.out (World.block_lt_of_cell? w _ hk0)).trans hk0
       have kD := A_ hks
       clear hk0 hks hi
       by_cases hkn : k = (next : Int)
       ·subst hkn
        cases hrs : bX P f next with
        | none =>
         have kP := A_ hrs
         have HE := A_ (qN HR.out kD.out rfl hrs)
         have tm : decide ((-1 : Int) < 0) = true := by decide
         clear hrs
         go_wp2_with (go_at_call 95; (with_reducible refine (ih (d + 1) (by have := HD.out; omega) (by omega) next (some ad) c _ (Kd.ax HP.out HB.out) HM.out Cg.out).mono ?_); rintro e w5 ⟨hb, hr⟩; rw [kP.out] at hr; obtain ⟨-, rfl⟩ := hr.resolve_right (by rintro ⟨_, _, h, _⟩; cases h); have az := A_ (au HB.out hb); clear HB; have HB := az; clear az hb hr)
         go_ret2
         exact ⟨HB.out, .inl ⟨HE.out, rfl⟩⟩
        | some tn =>
         obtain ⟨t, n⟩ := tn
         have kP := A_ hrs
         have Lt := A_ (jh f next t n hrs)
         have HE := A_ (vK HR.out kD.out rfl hrs)
         have tn0 := kT ((n : Int) < 0)
         clear hrs
         go_wp2_with (first | (go_at_call 95; (with_reducible refine (ih (d + 1) (by have := HD.out; omega) (by omega) next (some ad) c _ (Kd.ax HP.out HB.out) HM.out Cg.out).mono ?_); rintro e w5 ⟨hb, hr⟩; rw [kP.out] at hr; obtain ⟨nt, n9, h9, rfl, hs⟩ := hr.resolve_left (by rintro ⟨h, _⟩; cases h); injection h9 with h9; injection h9 with h9 h8; subst h9; subst h8; have aj := A_ (Mo HS.out hb HB.out.size hs); have az := A_ (au HB.out hb); clear HS; clear HB; have HS := aj; have HB := az; clear aj az; have WK := HS.out.z 0 rfl 2; clear hb hr hs) | ((with_reducible refine bQ (b := .append) (xs := #[.tmp 94, .tmp 96]) rfl ?_); at_builtin; refine Kd.vM eT (w0 := w) w.heap.size rfl (.tmp 94) (.tmp 96) 94 70 (.pointer none) 8 rfl iD jJ rfl (by decide) (by omega) cv (acc.map NT.p) nt.p [bG nt.p] (fun _ => True) (fun _ => False) rfl rfl ?aP (fun _ h => h.elim) ?aF ?aO ?aB ?aS ?aL ?_; (case aP => exact rfl); (case aB => exact HB.out); (case aF => exact fun _ _ => trivial); (case aO => exact zy (HS.out.ok _ (List.mem_of_getElem? (i := 3) rfl))); (case aS => exact HB.out.size); (case aL => rw [List.length_map]; have := Nz.out; have := RQ.out; omega); intro cv' w6 ho hb hg hat; obtain ⟨Aq, nq, cq, rfl⟩ := DN ho; have aj := A_ (DT (x := 0) HS.out ho hg hat); have az := A_ hb; clear HS; clear HB; have HS := aj; have HB := az; clear aj az; have RS := HS.out.z 0 rfl 2; have RU := HS.out.f 0 rfl 2; clear ho hb hg hat))
         go_roundg (pg.f2.length - (i + 1))
         case measure => have := HK.out; have := HI.out; omega
         case rel => exact ⟨i + 1, n, acc ++ [nt], .slice Aq nq cq, by first | rfl | go_num | (simp; done), by first | rfl | go_num | (simp; done), ⟨by have := HK.out; have := HI.out; omega⟩, ⟨by rw [List.length_append, Nz.out]; rfl⟩, ⟨by rw [List.map_append]; exact HE.out⟩, ⟨Lt.out.2⟩, ⟨DU HS.out⟩, ⟨HB.out.setCell (p := ⟨g, 2, none⟩) (HS.out.ge ⟨_, List.mem_cons_self, rfl⟩) _⟩⟩
       ·have HE := A_ (qM HR.out kD.out hkn)
        have tk : (k != (next : Int)) = true := bne_iff_ne.2 hkn
        clear hkn
        go_wp2
        go_ret2
        exact ⟨HB.out, .inl ⟨HE.out, rfl⟩⟩
      ·have ce := kT ((i : Int) < (pg.f2.length : Int))
       have xL : (i < pg.f2.length) = False := eq_false hi
       have HE := A_ (tJ HR.out (by omega))
       clear hi
       go_wp2
       go_ret2
       exact ⟨HB.out, .inr ⟨.mk g (.slice Lr pg.f0.length Ls) (.slice oo pg.f1.length mi) cv pg.f0 pg.f1 acc, next, by rw [HE.out, NT.erase, aK], rfl, DV HS.out⟩⟩
end Go.Proofs.Ytoddejmlcnbdmaa.Tree
namespace Go.Proofs.Ytoddejmlcnbdmaa.Fn
def aZ.f (l0 : List ByteArray) : Option (List ByteArray) := (some (([] : List ByteArray) : List ByteArray)).bind fun oU => (if oU.length + l0.length < 8796093022208 then (some (oU ++ l0)) else (none))
theorem aZ.QZ (w : World) (a : Option Addr) (n c : Nat) : (binOp .eql 38 (.slice a n c) (.slice none 0 0)).run Try.prog w = .ok (.bool a.isNone) w := Go.Proofs.Ytoddejmlcnbdmaa.Gen.Jj w _ _ a n c Try.underlying38
attribute [local go_sem] aZ.QZ
theorem aZ.calls (A0 : Option Addr) (c0 : Nat) (l0 : List ByteArray) (r : List ByteArray) (w : World) (hr0 : Kd.C Kd.string w A0 l0.length l0) (hc0 : l0.length <= c0) (h : aZ.f l0 = some r) :
  Calls Try.prog 74 #[.slice A0 l0.length c0] w fun e w' => ∃ iy : Value, e = .returned (iy) /\ Kd.R Kd.string 9 w' w.heap.size (fun _ => True) iy r /\ Below w.heap.size w w' := by
 have mV := A_ hr0
 have rG := A_ hc0
 clear hr0 hc0
 have HB := A_ (Below.refl w.heap.size w)
 have H : ((some (([] : List ByteArray) : List ByteArray)).bind fun oU => (if oU.length + l0.length < 8796093022208 then (some (oU ++ l0)) else (none))) = some r := h
 clear h
 obtain ⟨oU, sN⟩ : ∃ y_ : List ByteArray, y_ = (([] : List ByteArray)) := ⟨_, rfl⟩
 replace H : (if oU.length + l0.length < 8796093022208 then (some (oU ++ l0)) else (none)) = some r := by first | (rw [sN]; with_reducible exact H) | (have jA := (Option.bind_some _ _).symm.trans H; rw [sN]; with_reducible exact jA) | (have jA := (Option.bind_some _ _).symm.trans H; with_reducible exact jA) | with_reducible exact H | (rw [sN]; exact H) | exact H
 have Bg := A_ sN
 clear sN
 by_cases c2 : oU.length + l0.length < 8796093022208
 ·rw [if_pos c2] at H
  have RV := A_ c2
  clear c2
  obtain ⟨NA, sO⟩ : ∃ y_ : List ByteArray, y_ = (oU ++ l0) := ⟨_, rfl⟩
  replace H : (some NA) = some r := by first | (rw [sO]; with_reducible exact H) | (have jA := (Option.bind_some _ _).symm.trans H; rw [sO]; with_reducible exact jA) | (have jA := (Option.bind_some _ _).symm.trans H; with_reducible exact jA) | with_reducible exact H | (rw [sO]; exact H) | exact H
  have Gd := A_ sO
  clear sO
  obtain rfl := Option.some.inj H
  rcases A0 with _ | WL
  ·have WM : l0 = [] := by
    rcases Nat.eq_zero_or_pos l0.length with h_ | h_
    ·exact List.length_eq_zero_iff.1 h_
    ·obtain ⟨_, _, RX⟩ := mV.out
     obtain ⟨WL, RX, _⟩ := RX h_
     cases RX
   subst WM
   have WN : NA = [] := by rw [Gd.out, Bg.out]; rfl
   subst WN
   go_enter Try.func74, Try.ntmps74
   go_wp2
   go_ret
   exact ⟨_, rfl, Kd.vI _ _ _ _ _, HB.out⟩
  go_enter Try.func74, Try.ntmps74
  go_wp2_with (first | ((with_reducible refine dN (N := 5) rfl ?_); refine Kd.kH Kd.string _ 9 ?hg (N := 5) ?hd (xs := ([] : List ByteArray)) (inner := []) (ok := fun _ => True) (okp := fun _ => True) ?hr ?hp (fun _ hk => hk) trivial (Below.refl _ _) (Nat.le_refl _) (by simp) ?_; (case hd => rfl); (case hg => rfl); (case hr => first | (go_simp; done) | (go_simp; rfl)); (case hp => exact (fq.none _ _)); intro RY w3 qf hb Lu qG; clear Lu qG; (first | rw [<- Bg.out] at qf | (simp only [Int.reduceToNat] at qf; rw [<- Bg.out] at qf)); have Gf := A_ (Kd.fI qf (BN HB.out)); replace HB := A_ (Uc HB.out hb); clear hb qf) | ((with_reducible refine bQ (b := .append) (xs := #[.tmp 5, .tmp 6]) rfl ?_); at_builtin; refine Kd.dV Kd.string (w0 := w) w.heap.size rfl (.tmp 5) (.tmp 6) 38 9 (.string ⟨#[]⟩) 16 rfl Try.underlying38 dh rfl (by decide) (by omega) RY oU l0 _ _ _ (fun _ => True) (fun _ => False) rfl rfl ?aO ?aR (fun _ _ h => h) (fun _ h => h.elim) ?aF ?aB ?aS ?aL ?_; (case aR => refine QY ?_; exact (Kd.ax mV.out HB.out)); (case aB => exact (zb HB.out)); (case aF => exact (fun _ _ => trivial)); (case aO => exact (rJ Gf.out)); (case aS => exact (BN HB.out)); (case aL => have := RV.out; omega); intro v183 w5 ho hb hg hat; rw [<- Gd.out] at ho; have Bh := A_ (hb); have aj := A_ (ho); clear HB; clear Gf; have HB := Bh; have NB := aj; clear Bh aj; clear ho hb hg hat))
  go_ret
  exact ⟨_, Jn, by (with_reducible repeat (first | apply Kd.nR | apply Kd.nS | apply Kd.qJ)); exact NB.out, by repeat (first | (with_reducible first | exact HB.out | apply bu | apply ah | apply bC) | exact HB.out)⟩
 ·rw [if_neg c2] at H
  exact absurd H (by simp)
end Go.Proofs.Ytoddejmlcnbdmaa.Fn
namespace Go.Proofs.Ytoddejmlcnbdmaa.Tree
open Go.Proofs.Ytoddejmlcnbdmaa.Fn
set_option maxHeartbeats 8000000
set_option maxRecDepth 100000
theorem oD {l : List ByteArray} (h : l.length < 8796093022208) : aZ.f l = some l := by
 unfold aZ.f
 simp only [Option.bind_some, List.length_nil, Nat.zero_add]
 rw [if_pos h]
 rfl
theorem Sat.gJ {W w1 : World} {base : Nat} {L : List Ck} {v : Value} {l : List ByteArray} (h : Sat W base L) (ho : Kd.string.R 9 w1 W.heap.size (fun _ => True) v l) (hb : Below W.heap.size W w1) (hbase : base <= W.heap.size) : Sat w1 base (L ++ [txt v l]) :=
 h.behind hb hbase (Sat.one (rX ho))
theorem tK {w : World} {g : Nat} {o : Obj} (h : w.heap[g]? = some o) {p : Addr} (hp : g ≠ p.block) (u : Value) : (w.setCell p u).heap[g]? = some o := (Below.heap_setCell w p u g hp).trans h
theorem mo.calls (P : List bH) (hN : P.length <= 1000000000000) (w0 : World) (A : Option Addr) (c : Nat) (hp : Kd.C jX w0 A P.length P) (hm : ∀ p ∈ P, p.f0.length <= 1000000000000 /\ p.f1.length <= 1000000000000 /\ p.f2.length <= 1000000000000) : ∀ (f next : Nat), P.length < next + f -> next <= P.length -> ∀ (gb : Nat) (w : World), Below w0.heap.size w0 w -> w0.heap.size <= gb -> w.heap[gb]? = some (.cells #[.slice A P.length c, .int .i64 (next : Int)] 121 (0, 0)) ->
  Calls Try.prog 97 #[bG gb] w (Qo w0 w gb (.slice A P.length c) (bX P f next)) := by
 intro f
 induction f with
 | zero =>
  intro next hf hn
  omega
 | succ f ih =>
  intro next hf hn gb w hb hgb hg
  have HB := A_ hb
  have HG := A_ hg
  have DC := A_ hgb
  have Lv := A_ (gF hg)
  have hz0 := (ak hg 0).trans rfl
  have hz1 := (ak hg 1).trans rfl
  by_cases h1 : next = P.length
  ·subst h1
   have HR := A_ (xV (P := P) (f := f + 1) (Nat.le_refl _))
   clear hf hn hb hgb hg
   go_enter Try.func97, Try.ntmps97
   go_wp2
   go_quiet (fail)
   go_wp2
   go_ret2
   exact ⟨ah HB.out _, .inl ⟨HR.out, rfl⟩⟩
  ·have hal : next < P.length := by omega
   have VX : ((next : Int) == (P.length : Int)) = false := by rw [beq_eq_false_iff_ne]; omega
   have VY : (next == P.length) = false := by rw [beq_eq_false_iff_ne]; omega
   have c1d : (next = P.length) = False := eq_false h1
   have c1e : (next < P.length) = True := eq_true hal
   have c1f := dJ ((next : Int) < (P.length : Int))
   have c1g := dJ (0 <= (next : Int))
   have RH : P.length <= 1000000000000 := hN
   have hnx : next < 1000000000000 := by omega
   have HA := A_ hal
   have HF := A_ hf
   have Iz := hm _ (List.getElem_mem (l := P) hal)
   have U1 : P[next] = eO P (next : Int) := by unfold eO; rw [Int.toNat_natCast, List.getD_eq_getElem?_getD, List.getElem?_eq_getElem hal]; rfl
   have Nw : P.getD next lF = eO P (next : Int) := by unfold eO; rw [Int.toNat_natCast]
   rw [U1] at Iz
   obtain ⟨ad, A0, c0, A1, c1, A2, c2, WH, hx0, hx1, hx2, hl0, hf0, hl1, hf1, hl2, hf2⟩ := DL hp (next : Int) (by omega) (by omega)
   subst WH
   obtain ⟨R, hR⟩ : ∃ R, R = bX P (f + 1) next := ⟨_, rfl⟩
   have hgo : pR (P.getD next lF) = false -> R = fin (P.getD next lF) (dQ (bX P f) ((P.getD next lF).f2.drop 0) (next + 1) []) := fun hb => hR.trans (Fh (P := P) (f := f) (by omega) hb)
   have hbad : pR (P.getD next lF) = true -> R = none := fun hb => hR.trans (Cw (P := P) (f := f) (at_ := next) hb)
   rw [Nw] at hgo hbad
   rw [<- hR]
   rw [Int.toNat_natCast] at hx0 hx1 hx2
   generalize eO P (next : Int) = pg at *
   have HX0 := A_ hx0
   have RI := A_ hx1
   have RJ := A_ hx2
   have Ue := A_ hf0
   have VZ := A_ hf1
   have U2 := A_ hf2
   have rG := A_ hl0
   have Bi := A_ hl1
   have Lp := A_ Iz
   have WI := A_ hgo
   have HBAD := A_ hbad
   clear h1 hn hf hl0 hf0 hl1 hf1 hl2 hf2 hx0 hx1 hx2 Iz hgo hbad U1 Nw hal hR hb hgb hg
   go_enter Try.func97, Try.ntmps97
   go_wp2
   go_quiet (fail)
   go_wp2
   generalize hW : World.drewN w _ = w1
   have aj := A_ (show Below w0.heap.size w0 w1 by rw [<- hW]; exact ah HB.out _)
   have az := A_ (show w1.heap[gb]? = some (.cells #[.slice (some ad) P.length c, .int .i64 (next : Int)] 121 (0, 0)) by rw [<- hW]; exact HG.out)
   have ma := A_ (show Kept w w1 (fun k => k = gb) by rw [<- hW]; exact (Kept.refl w _).drewN _)
   have HS := A_ (Sat.nil w1 w.heap.size)
   clear HB; clear HG; clear hW hz0 hz1
   have HB := aj
   have HG := az
   clear aj az
   refine dz (n := 12) (S := fun w' => w'.cell? ⟨gb, 0, none⟩ = some (.slice (some ad) P.length c) /\ w'.cell? ⟨gb, 1, none⟩ = some (.int .i64 (next : Int)) /\ w'.cell? (ad.add (next * 3)) = some (.slice A0 pg.f0.length c0) /\ w'.cell? ⟨(ad.add (next * 3)).block, (ad.add (next * 3)).off + 1, none⟩ = some (.slice A1 pg.f1.length c1) /\ w'.cell? ⟨(ad.add (next * 3)).block, (ad.add (next * 3)).off + 2, none⟩ = some (.slice A2 pg.f2.length c2)) (ds := [11]) (bt 12 0) (by kernel_rfl) rfl rfl ⟨(ak HG.out 0).trans rfl, (ak HG.out 1).trans rfl, (Below.cell (aH HB.out) (World.block_lt_of_cell? w0 _ HX0.out)).trans HX0.out, (Below.cell (aH HB.out) (World.block_lt_of_cell? w0 _ RI.out)).trans RI.out, (Below.cell (aH HB.out) (World.block_lt_of_cell? w0 _ RJ.out)).trans RJ.out⟩ (fun hHeld => ?_)
   refine aV 0 20 1 ?_
   refine aV 1 21 3 ?_
   refine aV 2 22 7 ?_
   refine aV 4 24 23 ?_
   refine aV 5 25 55 ?_
   refine aV 6 26 119 ?_
   refine ik 3 23 127 hHeld ?_
   refine ik 7 27 255 hHeld ?_
   refine aV 8 28 511 ?_
   refine ik 9 29 1023 hHeld ?_
   refine jg 10 (some 4) 2047 (fun K hK => ?_)
   refine gV (by rfl) (N := 4) rfl (cs := #[.slice none 0 0, .slice none 0 0, .slice none 0 0]) (t := 110) ?hr ?_
   (case hr => first | (go_simp; done) | (go_simp; rfl))
   intro b8 hg w2 aC hb
   have HS2 := A_ (Sat.gI (Sat.drew HS.out) hg aC hb ma.out.1)
   have HB2 := A_ (au (aH HB.out) hb)
   have HKP2 := A_ ((ma.out.drew).below hb)
   have HG2 := A_ (aT (w := World.drew w1) HG.out hb)
   have Ez := HS2.out.z 0 rfl 0
   have EA := HS2.out.z 0 rfl 1
   have xK := HS2.out.z 0 rfl 2
   have RL := HS2.out.f 0 rfl 0
   have RN := HS2.out.f 0 rfl 1
   have RO := HS2.out.f 0 rfl 2
   clear hg aC hb
   refine hK.out _ _ ⟨(ak HG2.out 0).trans rfl, (ak HG2.out 1).trans rfl, (Below.cell HB2.out (World.block_lt_of_cell? w0 _ HX0.out)).trans HX0.out, (Below.cell HB2.out (World.block_lt_of_cell? w0 _ RI.out)).trans RI.out, (Below.cell HB2.out (World.block_lt_of_cell? w0 _ RJ.out)).trans RJ.out⟩ (fun hHeld => ?_)
   clear hK K
   refine eF 4 ?_
   refine wW 11 none 4095 (fun K hK => ?_)
   refine iU (w1 := ?_) (by rfl) rfl ?_ ?_
   rotate_left
   ·go_simp
    rfl
   refine hK.out _ _ ?_
   clear hK K
   refine fu (by kernel_rfl) ?_
   have aj := A_ (Sat.UF HS2.out (.slice A0 pg.f0.length c0) (.slice A1 pg.f1.length c1) (.slice A2 pg.f2.length c2))
   have hge : w.heap.size <= b8 := HS2.out.ge ⟨_, List.mem_cons_self, rfl⟩
   have hne : gb ≠ b8 := by have := Lv.out; omega
   have hw0 : w0.heap.size <= b8 := by have := Lv.out; have := DC.out; omega
   have az : af (Below w0.heap.size w0 (((w2.setCell ⟨b8, 0, none⟩ (.slice A0 pg.f0.length c0)).setCell ⟨b8, 1, none⟩ (.slice A1 pg.f1.length c1)).setCell ⟨b8, 2, none⟩ (.slice A2 pg.f2.length c2))) := ⟨((HB2.out.setCell (p := ⟨b8, 0, none⟩) hw0 _).setCell (p := ⟨b8, 1, none⟩) hw0 _).setCell (p := ⟨b8, 2, none⟩) hw0 _⟩
   have jG : af (Kept w (((w2.setCell ⟨b8, 0, none⟩ (.slice A0 pg.f0.length c0)).setCell ⟨b8, 1, none⟩ (.slice A1 pg.f1.length c1)).setCell ⟨b8, 2, none⟩ (.slice A2 pg.f2.length c2)) (fun k => k = gb)) := ⟨((HKP2.out.setCell (p := ⟨b8, 0, none⟩) (.inr hge) _).setCell (p := ⟨b8, 1, none⟩) (.inr hge) _).setCell (p := ⟨b8, 2, none⟩) (.inr hge) _⟩
   have nG : af ((((w2.setCell ⟨b8, 0, none⟩ (.slice A0 pg.f0.length c0)).setCell ⟨b8, 1, none⟩ (.slice A1 pg.f1.length c1)).setCell ⟨b8, 2, none⟩ (.slice A2 pg.f2.length c2)).heap[gb]? = some (.cells #[.slice (some ad) P.length c, .int .i64 (next : Int)] 121 (0, 0))) := ⟨tK (p := ⟨b8, 2, none⟩) (tK (p := ⟨b8, 1, none⟩) (tK (p := ⟨b8, 0, none⟩) HG2.out hne _) hne _) hne _⟩
   clear HS2; clear HB2; clear HKP2; clear HG2; clear HS; clear HB; clear ma; clear HG; clear Ez EA xK RL RN RO hge hne hw0
   generalize ((w2.setCell ⟨b8, 0, none⟩ (.slice A0 pg.f0.length c0)).setCell ⟨b8, 1, none⟩ (.slice A1 pg.f1.length c1)).setCell ⟨b8, 2, none⟩ (.slice A2 pg.f2.length c2) = w3 at *
   have HS := aj
   have HB := az
   have ma := jG
   have HG := nG
   clear aj az jG nG
   have hz1 : w3.cell? ⟨gb, 1, none⟩ = some (.int .i64 (next : Int)) := (ak HG.out 1).trans rfl
   have hf1 := aY HG.out 1
   go_upto_region 5 with fail
   have aj := A_ (Sat.far HS.out (p := ⟨gb, 1, none⟩) Lv.out (.int .i64 ((next : Int) + 1)))
   have az := A_ (HB.out.setCell (p := ⟨gb, 1, none⟩) DC.out (.int .i64 ((next : Int) + 1)))
   have jG := A_ (ma.out.setCell (p := ⟨gb, 1, none⟩) (.inl rfl) (.int .i64 ((next : Int) + 1)))
   have nG : af ((w3.setCell ⟨gb, 1, none⟩ (.int .i64 ((next : Int) + 1))).heap[gb]? = some (.cells #[.slice (some ad) P.length c, .int .i64 ((next + 1 : Nat) : Int)] 121 (0, 0))) := ⟨dH HG.out 1 _ rfl⟩
   clear HS; clear HB; clear ma; clear HG; clear hz1 hf1
   generalize w3.setCell ⟨gb, 1, none⟩ (.int .i64 ((next : Int) + 1)) = w4 at *
   have HS := aj
   have HB := az
   have ma := jG
   have HG := nG
   clear aj az jG nG
   have Ez := HS.out.z 0 rfl 0
   have EA := HS.out.z 0 rfl 1
   have xK := HS.out.z 0 rfl 2
   cases hbd : pR pg with
   | true =>
    have HR := A_ (HBAD.out hbd)
    have hb1 : 4 < pg.f0.length ∨ pg.f1.length ≠ pg.f0.length ∨ (pg.f2.length ≠ 0 /\ pg.f2.length ≠ pg.f0.length + 1) := by
     unfold pR at hbd
     simp only [Bool.or_eq_true, Bool.and_eq_true, decide_eq_true_eq, bne_iff_ne] at hbd
     omega
    by_cases q1 : 4 < pg.f0.length
    ·have t1 := kZ (4 < (pg.f0.length : Int))
     have U3 : (4 < pg.f0.length) = True := eq_true q1
     clear q1 hb1 hbd
     go_wp2
     go_ret2
     exact ⟨HB.out, .inl ⟨HR.out, rfl⟩⟩
    ·have t1 := kT (4 < (pg.f0.length : Int))
     have U3 : (4 < pg.f0.length) = False := eq_false q1
     by_cases q2 : pg.f1.length = pg.f0.length
     ·have q3 : pg.f2.length ≠ 0 /\ pg.f2.length ≠ pg.f0.length + 1 := by omega
      have t2 : ((pg.f1.length : Int) != (pg.f0.length : Int)) = false := Hu (by omega)
      have t3 := kZ (0 < (pg.f2.length : Int))
      have t4 : ((pg.f2.length : Int) != (pg.f0.length : Int) + 1) = true := Qk (by omega)
      have t2b : (pg.f1.length != pg.f0.length) = false := uB (by omega)
      have Uf := dJ (0 < pg.f2.length)
      have RP : (pg.f2.length != pg.f0.length + 1) = true := vL (by omega)
      have m0 : pg.f0.length <= 4 := by omega
      clear q1 q2 q3 hb1 hbd
      go_wp2
      go_ret2
      exact ⟨HB.out, .inl ⟨HR.out, rfl⟩⟩
     ·have t2 : ((pg.f1.length : Int) != (pg.f0.length : Int)) = true := Mm (by omega)
      have t2b : (pg.f1.length != pg.f0.length) = true := vL (by omega)
      clear q1 q2 hb1 hbd
      go_wp2
      go_ret2
      exact ⟨HB.out, .inl ⟨HR.out, rfl⟩⟩
   | false =>
    obtain ⟨q1, q2, q3⟩ := Cy hbd
    have HR := A_ (WI.out hbd)
    have t1 := kT (4 < (pg.f0.length : Int))
    have U3 : (4 < pg.f0.length) = False := eq_false (by omega)
    have t2 : ((pg.f1.length : Int) != (pg.f0.length : Int)) = false := Hu (by omega)
    have t2b : (pg.f1.length != pg.f0.length) = false := uB (by omega)
    have m0 : pg.f0.length <= 4 := by omega
    have PI := A_ (show pg.f2.length <= 5 by omega)
    by_cases q4 : pg.f2.length = 0
    ·have t3 := kT (0 < (pg.f2.length : Int))
     have Uf : (0 < pg.f2.length) = False := eq_false (by omega)
     clear q1 q2 q3 q4 hbd
     go_upto_region 7 with fail
     refine dz (n := 9) (S := fun w' => w'.cell? ⟨b8, 0, none⟩ = some (.slice A0 pg.f0.length c0) /\ w'.cell? ⟨b8, 1, none⟩ = some (.slice A1 pg.f1.length c1)) (ds := []) (bt 9 0) (by kernel_rfl) rfl rfl ⟨(HS.out.z 0 rfl 0), (HS.out.z 0 rfl 1)⟩ (fun hHeld => ?_)
     refine aV 0 66 1 ?_
     refine aV 3 69 9 ?_
     refine ik 1 67 11 hHeld ?_
     refine ik 4 70 27 hHeld ?_
     refine jg 2 (some 68) 31 (fun K hK => ?_)
     refine uj Try.func74 #[.slice A0 pg.f0.length c0] ?_
     with_reducible refine (aZ.calls A0 c0 pg.f0 pg.f0 _ (Kd.ax Ue.out (aH HB.out)) rG.out (oD (by have := Lp.out; omega))).mono ?_
     rintro e w5 ⟨v0, rfl, ho, hb⟩
     refine ⟨_, rfl, ?_⟩
     obtain ⟨Lr, Ls, rfl⟩ := Kd.av ho
     have aj := A_ (Sat.gJ (Sat.drew HS.out) ho hb ma.out.1)
     have az := A_ (au (aH HB.out) hb)
     have jG := A_ (Kept.below (ma.out.drew) hb)
     have nG := A_ (aT (w := World.drew w4) HG.out hb)
     clear ho hb
     clear HS HB ma HG
     have HS := aj
     have HB := az
     have ma := jG
     have HG := nG
     clear aj az jG nG
     refine hK.out _ _ ⟨(HS.out.z 0 rfl 0), (HS.out.z 0 rfl 1)⟩ (fun hHeld => ?_)
     clear hK K
     refine eF 68 ?_
     refine jg 5 (some 71) 63 (fun K hK => ?_)
     refine uj Try.func74 #[.slice A1 pg.f1.length c1] ?_
     with_reducible refine (aZ.calls A1 c1 pg.f1 pg.f1 _ (Kd.ax VZ.out HB.out) Bi.out (oD (by have := Lp.out; omega))).mono ?_
     rintro e w6 ⟨v1, rfl, ho, hb⟩
     refine ⟨_, rfl, ?_⟩
     obtain ⟨oo, mi, rfl⟩ := Kd.av ho
     have aj := A_ (Sat.gJ HS.out ho hb ma.out.1)
     have az := A_ (au HB.out hb)
     have jG := A_ (Kept.below ma.out hb)
     have nG := A_ (aT HG.out hb)
     clear ho hb
     clear HS HB ma HG
     have HS := aj
     have HB := az
     have ma := jG
     have HG := nG
     clear aj az jG nG
     refine hK.out _ _ ⟨(HS.out.z 0 rfl 0), (HS.out.z 0 rfl 1)⟩ (fun hHeld => ?_)
     clear hK K
     refine eF 71 ?_
     refine aV 6 72 127 ?_
     refine jg 7 (some 73) 255 (fun K hK => ?_)
     refine gV (by rfl) (N := 73) rfl (cs := #[.slice Lr pg.f0.length Ls, .slice oo pg.f1.length mi, .slice none 0 0]) (t := 101) ?hr ?_
     (case hr => first | (go_simp; done) | (go_simp; rfl))
     intro g hg w7 aC hb
     have aj := A_ (Sat.gI HS.out hg aC hb ma.out.1)
     have az := A_ (au HB.out hb)
     have jG := A_ (ma.out.below hb)
     have nG := A_ (aT HG.out hb)
     clear hg aC hb
     clear HS HB ma HG
     have HS := aj
     have HB := az
     have ma := jG
     have HG := nG
     clear aj az jG nG
     refine hK.out _ _ ⟨(HS.out.z 1 rfl 0), (HS.out.z 1 rfl 1)⟩ (fun hHeld => ?_)
     clear hK K
     refine eF 73 ?_
     refine aV 8 5 511 ?_
     refine fu (by kernel_rfl) ?_
     have aj := A_ (zA (E := 74) (X := [.box 110 b8 #[.slice A0 pg.f0.length c0, .slice A1 pg.f1.length c1, .slice A2 pg.f2.length c2]]) HS.out)
     clear HS
     have HS := aj
     clear aj hHeld Ez EA xK
     have xK := HS.out.z 4 rfl 2
     go_upto_region 9 with fail
     go_loopg [77] pg.f2.length (fun kq WO w' => ∃ (i iG : Nat) (acc : List NT) (cv : Value), WO = .int .i64 (i : Int) /\ af (kq + i = pg.f2.length) /\ af (acc.length = i) /\ af (R = fin pg (dQ (bX P f) (pg.f2.drop i) iG (acc.map NT.erase))) /\ af (next < iG /\ iG <= P.length) /\ af (Sat w' w.heap.size (LL 101 74 g (.slice Lr pg.f0.length Ls) (.slice oo pg.f1.length mi) cv pg.f0 pg.f1 [.box 110 b8 #[.slice A0 pg.f0.length c0, .slice A1 pg.f1.length c1, .slice A2 pg.f2.length c2]] acc)) /\ af (Below w0.heap.size w0 w') /\ af (Kept w w' (fun k => k = gb)) /\ af (w'.heap[gb]? = some (.cells #[.slice (some ad) P.length c, .int .i64 (iG : Int)] 121 (0, 0))))
     case atStart => exact ⟨0, next + 1, [], .slice none 0 0, by first | rfl | (simp; done), ⟨Nat.add_zero _⟩, ⟨rfl⟩, HR, ⟨by have := HA.out; omega⟩, HS, HB, ma, HG⟩
     case round =>
      clear HR HS HB xK ma HG
      obtain ⟨i, iG, acc, cv, rfl, HK, Nz, HR, Cg, HS, HB, ma, HG⟩ := hrel
      have ci := dJ (0 <= (i : Int))
      by_cases hi : i < pg.f2.length
      ·have ce := kZ ((i : Int) < (pg.f2.length : Int))
       have xL : (i < pg.f2.length) = True := eq_true hi
       have hi5 : i <= 5 := by have := PI.out; omega
       have RQ := A_ hi5
       have HI := A_ hi
       have hnx : iG <= 1000000000000 := Nat.le_trans Cg.out.2 RH
       have hzg : wr.cell? ⟨gb, 1, none⟩ = some (.int .i64 (iG : Int)) := (ak HG.out 1).trans rfl
       obtain ⟨WJ, hA2, hk0⟩ := Kd.pV U2.out (i : Int) (by omega) (by omega)
       subst hA2
       rw [Int.toNat_natCast] at hk0
       have hks : pg.f2[i]? = some (rd pg.f2 (i : Int)) := by unfold rd; rw [Int.toNat_natCast, List.getD_eq_getElem?_getD, List.getElem?_eq_getElem hi]; rfl
       generalize rd pg.f2 (i : Int) = k at hk0 hks
       have hkz := (Below.cell HB.out (World.block_lt_of_cell? w0 _ hk0)).trans hk0
       have kD := A_ hks
       clear hk0 hks hi
       by_cases hkn : k = (iG : Int)
       ·subst hkn
        cases hrs : bX P f iG with
        | none =>
         have kP := A_ hrs
         have HE := A_ (qN HR.out kD.out rfl hrs)
         clear hrs
         go_wp2_with (go_at_call 97; (with_reducible refine (ih iG (by have := HF.out; have := Cg.out; omega) Cg.out.2 gb _ HB.out DC.out HG.out).mono ?_); rintro e w8 ⟨hb, hr⟩; rw [kP.out] at hr; obtain ⟨-, rfl⟩ := hr.resolve_right (by rintro ⟨_, _, h, _⟩; cases h); clear HB; have HB := A_ hb; clear hb hr)
         go_ret2
         exact ⟨HB.out, .inl ⟨HE.out, rfl⟩⟩
        | some tn =>
         obtain ⟨t, n⟩ := tn
         have kP := A_ hrs
         have Lt := A_ (jh f iG t n hrs)
         have HE := A_ (vK HR.out kD.out rfl hrs)
         clear hrs
         go_wp2_with (first | (go_at_call 97; (with_reducible refine (ih iG (by have := HF.out; have := Cg.out; omega) Cg.out.2 gb _ HB.out DC.out HG.out).mono ?_); rintro e w8 ⟨hb, hr⟩; rw [kP.out] at hr; obtain ⟨nt, n9, h9, rfl, hs, hk, hg⟩ := hr.resolve_left (by rintro ⟨h, _⟩; cases h); injection h9 with h9; injection h9 with h9 h8; subst h9; subst h8; have aj := A_ (Js HS.out hk (fun k hk => by have := Lv.out; omega) ma.out.1 hs); have jG := A_ (ma.out.Cz hk (fun k hk => .inl hk)); have U4 := A_ hg; clear HS; clear HB; clear ma; clear HG; have HS := aj; have HB := A_ hb; have ma := jG; have HG := U4; clear aj jG U4; have WK := HS.out.z 0 rfl 2; clear hb hr hs hk hg) | ((with_reducible refine bQ (b := .append) (xs := #[.tmp 98, .tmp 100]) rfl ?_); at_builtin; refine Kd.vM eT (w0 := w8) w.heap.size rfl (.tmp 98) (.tmp 100) 99 74 (.pointer none) 8 rfl yN pU rfl (by decide) (by omega) cv (acc.map NT.p) nt.p [bG nt.p] (fun _ => True) (fun _ => False) rfl rfl ?aP (fun _ h => h.elim) ?aF ?aO ?aB ?aS ?aL ?_; (case aP => exact rfl); (case aB => exact Below.refl _ _); (case aF => exact fun _ _ => trivial); (case aO => exact zy (HS.out.ok _ (List.mem_of_getElem? (i := 3) rfl))); (case aS => exact ma.out.1); (case aL => rw [List.length_map]; have := Nz.out; have := RQ.out; omega); intro cv' w9 ho hb hg hat; obtain ⟨Aq, nq, cq, rfl⟩ := DN ho; have PK : ∀ k, cv.ownBlock = some k -> w.heap.size <= k := fun k hk => HS.out.ge ⟨_, List.mem_of_getElem? (i := 3) rfl, hk⟩; have aj := A_ (DT (x := 0) HS.out ho hg hat); have az := A_ (HB.out.grown hg (by have := HB.out.size; omega) (fun k hk => by have := PK k hk; have := Lv.out; have := DC.out; omega)); have jG := A_ (Kept.vN hg ma.out (fun k hk => .inr (PK k hk))); have nG := A_ ((hg.block gb (gF HG.out) (fun he => by have := PK gb he.symm; have := Lv.out; omega)).trans HG.out); clear HS; clear HB; clear ma; clear HG; have HS := aj; have HB := az; have ma := jG; have HG := nG; clear aj az jG nG PK; have RS := HS.out.z 0 rfl 2; have RU := HS.out.f 0 rfl 2; clear ho hb hg hat))
         go_roundg (pg.f2.length - (i + 1))
         case measure => have := HK.out; have := HI.out; omega
         case rel => exact ⟨i + 1, n, acc ++ [nt], .slice Aq nq cq, by first | rfl | go_num | (simp; done), ⟨by have := HK.out; have := HI.out; omega⟩, ⟨by rw [List.length_append, Nz.out]; rfl⟩, ⟨by rw [List.map_append]; exact HE.out⟩, ⟨by have := Lt.out; have := Cg.out; omega⟩, ⟨DU HS.out⟩, ⟨HB.out.setCell (p := ⟨g, 2, none⟩) (by have h_ : w.heap.size <= g := HS.out.ge ⟨_, List.mem_cons_self, rfl⟩; have := Lv.out; have := DC.out; show w0.heap.size <= g; omega) _⟩, ⟨ma.out.setCell (p := ⟨g, 2, none⟩) (.inr (HS.out.ge ⟨_, List.mem_cons_self, rfl⟩)) _⟩, ⟨tK (p := ⟨g, 2, none⟩) HG.out (by have h_ : w.heap.size <= g := HS.out.ge ⟨_, List.mem_cons_self, rfl⟩; have := Lv.out; show gb ≠ g; omega) _⟩⟩
       ·have HE := A_ (qM HR.out kD.out hkn)
        have tk : (k != (iG : Int)) = true := bne_iff_ne.2 hkn
        clear hkn
        go_wp2
        go_ret2
        exact ⟨HB.out, .inl ⟨HE.out, rfl⟩⟩
      ·have ce := kT ((i : Int) < (pg.f2.length : Int))
       have xL : (i < pg.f2.length) = False := eq_false hi
       have HE := A_ (tJ HR.out (by omega))
       clear hi
       go_wp2
       go_ret2
       exact ⟨HB.out, .inr ⟨.mk g (.slice Lr pg.f0.length Ls) (.slice oo pg.f1.length mi) cv pg.f0 pg.f1 acc, iG, by rw [HE.out, NT.erase, aK], rfl, DV HS.out, ma.out, HG.out⟩⟩
    ·have t3 := kZ (0 < (pg.f2.length : Int))
     have Uf := dJ (0 < pg.f2.length)
     have t4 : ((pg.f2.length : Int) != (pg.f0.length : Int) + 1) = false := Ql (by omega)
     have RP : (pg.f2.length != pg.f0.length + 1) = false := uB (by omega)
     clear q1 q2 q3 q4 hbd
     go_upto_region 7 with fail
     refine dz (n := 9) (S := fun w' => w'.cell? ⟨b8, 0, none⟩ = some (.slice A0 pg.f0.length c0) /\ w'.cell? ⟨b8, 1, none⟩ = some (.slice A1 pg.f1.length c1)) (ds := []) (bt 9 0) (by kernel_rfl) rfl rfl ⟨(HS.out.z 0 rfl 0), (HS.out.z 0 rfl 1)⟩ (fun hHeld => ?_)
     refine aV 0 66 1 ?_
     refine aV 3 69 9 ?_
     refine ik 1 67 11 hHeld ?_
     refine ik 4 70 27 hHeld ?_
     refine jg 2 (some 68) 31 (fun K hK => ?_)
     refine uj Try.func74 #[.slice A0 pg.f0.length c0] ?_
     with_reducible refine (aZ.calls A0 c0 pg.f0 pg.f0 _ (Kd.ax Ue.out (aH HB.out)) rG.out (oD (by have := Lp.out; omega))).mono ?_
     rintro e w5 ⟨v0, rfl, ho, hb⟩
     refine ⟨_, rfl, ?_⟩
     obtain ⟨Lr, Ls, rfl⟩ := Kd.av ho
     have aj := A_ (Sat.gJ (Sat.drew HS.out) ho hb ma.out.1)
     have az := A_ (au (aH HB.out) hb)
     have jG := A_ (Kept.below (ma.out.drew) hb)
     have nG := A_ (aT (w := World.drew w4) HG.out hb)
     clear ho hb
     clear HS HB ma HG
     have HS := aj
     have HB := az
     have ma := jG
     have HG := nG
     clear aj az jG nG
     refine hK.out _ _ ⟨(HS.out.z 0 rfl 0), (HS.out.z 0 rfl 1)⟩ (fun hHeld => ?_)
     clear hK K
     refine eF 68 ?_
     refine jg 5 (some 71) 63 (fun K hK => ?_)
     refine uj Try.func74 #[.slice A1 pg.f1.length c1] ?_
     with_reducible refine (aZ.calls A1 c1 pg.f1 pg.f1 _ (Kd.ax VZ.out HB.out) Bi.out (oD (by have := Lp.out; omega))).mono ?_
     rintro e w6 ⟨v1, rfl, ho, hb⟩
     refine ⟨_, rfl, ?_⟩
     obtain ⟨oo, mi, rfl⟩ := Kd.av ho
     have aj := A_ (Sat.gJ HS.out ho hb ma.out.1)
     have az := A_ (au HB.out hb)
     have jG := A_ (Kept.below ma.out hb)
     have nG := A_ (aT HG.out hb)
     clear ho hb
     clear HS HB ma HG
     have HS := aj
     have HB := az
     have ma := jG
     have HG := nG
     clear aj az jG nG
     refine hK.out _ _ ⟨(HS.out.z 0 rfl 0), (HS.out.z 0 rfl 1)⟩ (fun hHeld => ?_)
     clear hK K
     refine eF 71 ?_
     refine aV 6 72 127 ?_
     refine jg 7 (some 73) 255 (fun K hK => ?_)
     refine gV (by rfl) (N := 73) rfl (cs := #[.slice Lr pg.f0.length Ls, .slice oo pg.f1.length mi, .slice none 0 0]) (t := 101) ?hr ?_
     (case hr => first | (go_simp; done) | (go_simp; rfl))
     intro g hg w7 aC hb
     have aj := A_ (Sat.gI HS.out hg aC hb ma.out.1)
     have az := A_ (au HB.out hb)
     have jG := A_ (ma.out.below hb)
     have nG := A_ (aT HG.out hb)
     clear hg aC hb
     clear HS HB ma HG
     have HS := aj
     have HB := az
     have ma := jG
     have HG := nG
     clear aj az jG nG
     refine hK.out _ _ ⟨(HS.out.z 1 rfl 0), (HS.out.z 1 rfl 1)⟩ (fun hHeld => ?_)
     clear hK K
     refine eF 73 ?_
     refine aV 8 5 511 ?_
     refine fu (by kernel_rfl) ?_
     have aj := A_ (zA (E := 74) (X := [.box 110 b8 #[.slice A0 pg.f0.length c0, .slice A1 pg.f1.length c1, .slice A2 pg.f2.length c2]]) HS.out)
     clear HS
     have HS := aj
     clear aj hHeld Ez EA xK
     have xK := HS.out.z 4 rfl 2
     go_upto_region 9 with fail
     go_loopg [77] pg.f2.length (fun kq WO w' => ∃ (i iG : Nat) (acc : List NT) (cv : Value), WO = .int .i64 (i : Int) /\ af (kq + i = pg.f2.length) /\ af (acc.length = i) /\ af (R = fin pg (dQ (bX P f) (pg.f2.drop i) iG (acc.map NT.erase))) /\ af (next < iG /\ iG <= P.length) /\ af (Sat w' w.heap.size (LL 101 74 g (.slice Lr pg.f0.length Ls) (.slice oo pg.f1.length mi) cv pg.f0 pg.f1 [.box 110 b8 #[.slice A0 pg.f0.length c0, .slice A1 pg.f1.length c1, .slice A2 pg.f2.length c2]] acc)) /\ af (Below w0.heap.size w0 w') /\ af (Kept w w' (fun k => k = gb)) /\ af (w'.heap[gb]? = some (.cells #[.slice (some ad) P.length c, .int .i64 (iG : Int)] 121 (0, 0))))
     case atStart => exact ⟨0, next + 1, [], .slice none 0 0, by first | rfl | (simp; done), ⟨Nat.add_zero _⟩, ⟨rfl⟩, HR, ⟨by have := HA.out; omega⟩, HS, HB, ma, HG⟩
     case round =>
      clear HR HS HB xK ma HG
      obtain ⟨i, iG, acc, cv, rfl, HK, Nz, HR, Cg, HS, HB, ma, HG⟩ := hrel
      have ci := dJ (0 <= (i : Int))
      by_cases hi : i < pg.f2.length
      ·have ce := kZ ((i : Int) < (pg.f2.length : Int))
       have xL : (i < pg.f2.length) = True := eq_true hi
       have hi5 : i <= 5 := by have := PI.out; omega
       have RQ := A_ hi5
       have HI := A_ hi
       have hnx : iG <= 1000000000000 := Nat.le_trans Cg.out.2 RH
       have hzg : wr.cell? ⟨gb, 1, none⟩ = some (.int .i64 (iG : Int)) := (ak HG.out 1).trans rfl
       obtain ⟨WJ, hA2, hk0⟩ := Kd.pV U2.out (i : Int) (by omega) (by omega)
       subst hA2
       rw [Int.toNat_natCast] at hk0
       have hks : pg.f2[i]? = some (rd pg.f2 (i : Int)) := by unfold rd; rw [Int.toNat_natCast, List.getD_eq_getElem?_getD, List.getElem?_eq_getElem hi]; rfl
       generalize rd pg.f2 (i : Int) = k at hk0 hks
       have hkz := (Below.cell HB.out (World.block_lt_of_cell? w0 _ hk0)).trans hk0
       have kD := A_ hks
       clear hk0 hks hi
       by_cases hkn : k = (iG : Int)
       ·subst hkn
        cases hrs : bX P f iG with
        | none =>
         have kP := A_ hrs
         have HE := A_ (qN HR.out kD.out rfl hrs)
         clear hrs
         go_wp2_with (go_at_call 97; (with_reducible refine (ih iG (by have := HF.out; have := Cg.out; omega) Cg.out.2 gb _ HB.out DC.out HG.out).mono ?_); rintro e w8 ⟨hb, hr⟩; rw [kP.out] at hr; obtain ⟨-, rfl⟩ := hr.resolve_right (by rintro ⟨_, _, h, _⟩; cases h); clear HB; have HB := A_ hb; clear hb hr)
         go_ret2
         exact ⟨HB.out, .inl ⟨HE.out, rfl⟩⟩
        | some tn =>
         obtain ⟨t, n⟩ := tn
         have kP := A_ hrs
         have Lt := A_ (jh f iG t n hrs)
         have HE := A_ (vK HR.out kD.out rfl hrs)
         clear hrs
         go_wp2_with (first | (go_at_call 97; (with_reducible refine (ih iG (by have := HF.out; have := Cg.out; omega) Cg.out.2 gb _ HB.out DC.out HG.out).mono ?_); rintro e w8 ⟨hb, hr⟩; rw [kP.out] at hr; obtain ⟨nt, n9, h9, rfl, hs, hk, hg⟩ := hr.resolve_left (by rintro ⟨h, _⟩; cases h); injection h9 with h9; injection h9 with h9 h8; subst h9; subst h8; have aj := A_ (Js HS.out hk (fun k hk => by have := Lv.out; omega) ma.out.1 hs); have jG := A_ (ma.out.Cz hk (fun k hk => .inl hk)); have U4 := A_ hg; clear HS; clear HB; clear ma; clear HG; have HS := aj; have HB := A_ hb; have ma := jG; have HG := U4; clear aj jG U4; have WK := HS.out.z 0 rfl 2; clear hb hr hs hk hg) | ((with_reducible refine bQ (b := .append) (xs := #[.tmp 98, .tmp 100]) rfl ?_); at_builtin; refine Kd.vM eT (w0 := w8) w.heap.size rfl (.tmp 98) (.tmp 100) 99 74 (.pointer none) 8 rfl yN pU rfl (by decide) (by omega) cv (acc.map NT.p) nt.p [bG nt.p] (fun _ => True) (fun _ => False) rfl rfl ?aP (fun _ h => h.elim) ?aF ?aO ?aB ?aS ?aL ?_; (case aP => exact rfl); (case aB => exact Below.refl _ _); (case aF => exact fun _ _ => trivial); (case aO => exact zy (HS.out.ok _ (List.mem_of_getElem? (i := 3) rfl))); (case aS => exact ma.out.1); (case aL => rw [List.length_map]; have := Nz.out; have := RQ.out; omega); intro cv' w9 ho hb hg hat; obtain ⟨Aq, nq, cq, rfl⟩ := DN ho; have PK : ∀ k, cv.ownBlock = some k -> w.heap.size <= k := fun k hk => HS.out.ge ⟨_, List.mem_of_getElem? (i := 3) rfl, hk⟩; have aj := A_ (DT (x := 0) HS.out ho hg hat); have az := A_ (HB.out.grown hg (by have := HB.out.size; omega) (fun k hk => by have := PK k hk; have := Lv.out; have := DC.out; omega)); have jG := A_ (Kept.vN hg ma.out (fun k hk => .inr (PK k hk))); have nG := A_ ((hg.block gb (gF HG.out) (fun he => by have := PK gb he.symm; have := Lv.out; omega)).trans HG.out); clear HS; clear HB; clear ma; clear HG; have HS := aj; have HB := az; have ma := jG; have HG := nG; clear aj az jG nG PK; have RS := HS.out.z 0 rfl 2; have RU := HS.out.f 0 rfl 2; clear ho hb hg hat))
         go_roundg (pg.f2.length - (i + 1))
         case measure => have := HK.out; have := HI.out; omega
         case rel => exact ⟨i + 1, n, acc ++ [nt], .slice Aq nq cq, by first | rfl | go_num | (simp; done), ⟨by have := HK.out; have := HI.out; omega⟩, ⟨by rw [List.length_append, Nz.out]; rfl⟩, ⟨by rw [List.map_append]; exact HE.out⟩, ⟨by have := Lt.out; have := Cg.out; omega⟩, ⟨DU HS.out⟩, ⟨HB.out.setCell (p := ⟨g, 2, none⟩) (by have h_ : w.heap.size <= g := HS.out.ge ⟨_, List.mem_cons_self, rfl⟩; have := Lv.out; have := DC.out; show w0.heap.size <= g; omega) _⟩, ⟨ma.out.setCell (p := ⟨g, 2, none⟩) (.inr (HS.out.ge ⟨_, List.mem_cons_self, rfl⟩)) _⟩, ⟨tK (p := ⟨g, 2, none⟩) HG.out (by have h_ : w.heap.size <= g := HS.out.ge ⟨_, List.mem_cons_self, rfl⟩; have := Lv.out; show gb ≠ g; omega) _⟩⟩
       ·have HE := A_ (qM HR.out kD.out hkn)
        have tk : (k != (iG : Int)) = true := bne_iff_ne.2 hkn
        clear hkn
        go_wp2
        go_ret2
        exact ⟨HB.out, .inl ⟨HE.out, rfl⟩⟩
      ·have ce := kT ((i : Int) < (pg.f2.length : Int))
       have xL : (i < pg.f2.length) = False := eq_false hi
       have HE := A_ (tJ HR.out (by omega))
       clear hi
       go_wp2
       go_ret2
       exact ⟨HB.out, .inr ⟨.mk g (.slice Lr pg.f0.length Ls) (.slice oo pg.f1.length mi) cv pg.f0 pg.f1 acc, iG, by rw [HE.out, NT.erase, aK], rfl, DV HS.out, ma.out, HG.out⟩⟩
open Go.Proofs.Ytoddejmlcnbdmaa.Fn
set_option maxHeartbeats 8000000
set_option maxRecDepth 100000
theorem bY.dA {p : Nat} {t : PT} (b : Bool) (hb : decide ((t.kids.length : Int) = 0) = b) (w : World) (h : Rd 96 w p t) :
  Calls Try.prog 84 #[bG p] w fun e w' => e = .returned (.bool b) /\ ay w w' := by
 subst hb
 obtain ⟨Ak, ck, Av, cv, Ac, cc, ps, HN⟩ := h.open
 have hz := HN.z2
 clear HN h
 go_enter Try.func84, Try.ntmps84
 go_wp2
 go_ret
 exact ⟨by first | rfl | (simp; done), by repeat (first | exact ay.refl _ | apply ay.step)⟩
theorem yP {p0 q : Prop} (h0 : p0) (h : p0 -> q := by intro p9; repeat (first | exact p9 | (with_reducible refine Rd.drewN ?_ _) | (with_reducible refine Rd.drew ?_))) : q := h h0
open Go.Proofs.Ytoddejmlcnbdmaa.Fn
set_option maxHeartbeats 8000000
set_option maxRecDepth 100000
def O1 (w0 : World) (k v : List ByteArray) (e : Ending) (w' : World) : Prop :=
 ∃ v1 v2, e = .returned (.tuple #[v1, v2]) /\ SR w' w0.heap.size v1 k /\ SR w' w0.heap.size v2 v /\ rO v1 v2 /\ Below w0.heap.size w0 w'
theorem gW {α : Type} {l x r r' L : List α} (h : l ++ r = L) (hr : r = x ++ r') : (l ++ x) ++ r' = L := by rw [<- h, hr, List.append_assoc]
theorem jB {α : Type} {l x r r' L : List α} {N : Nat} (h : l ++ r = L) (hr : r = x ++ r') (hL : L.length <= N) : l.length + x.length <= N := by
 have := congrArg List.length (gW h hr)
 simp only [List.length_append] at this
 omega
theorem mX.calls : ∀ (n : Nat) (t : PT), SizeOf.sizeOf t <= n -> mJ t -> ∀ {p : Nat} (w0 w : World) (v1 v2 : Value) (l1 l2 : List ByteArray), Rd 96 w0 p t -> Below w0.heap.size w0 w -> SR w w0.heap.size v1 l1 -> SR w w0.heap.size v2 l2 -> rO v1 v2 ->
  (l1 ++ bB t).length <= 8796093022208 -> (l2 ++ dL t).length <= 8796093022208 -> Calls Try.prog 65 #[bG p, v1, v2] w (O1 w0 (l1 ++ bB t) (l2 ++ dL t)) := by
 intro n
 induction n with
 | zero =>
  intro t hs
  cases t with | mk keys vals kids => simp at hs
 | succ n ih =>
  intro t hs hf p w0 w v1 v2 l1 l2 hrd hB ho1 ho2 hne hb1 hb2
  obtain ⟨Ak, ck, Av, cv, Ac, cc, ps, EB⟩ := hrd.open
  have HN := A_ EB
  have HB := A_ hB
  have kY := A_ ho1
  have lH := A_ ho2
  have o7 := A_ hne
  obtain ⟨L1, hL1⟩ : ∃ L, L = l1 ++ bB t := ⟨_, rfl⟩
  obtain ⟨L2, hL2⟩ : ∃ L, L = l2 ++ dL t := ⟨_, rfl⟩
  rw [<- hL1, <- hL2]
  rw [<- hL1] at hb1
  rw [<- hL2] at hb2
  have Ch := A_ hb1
  have HL2 := A_ hb2
  have HR1 := A_ (show l1 ++ lg t 0 = L1 by rw [zh, hL1])
  have HR2 := A_ (show l2 ++ mf t 0 = L2 by rw [zk, hL2])
  have h1 := hf.one
  unfold uQ at h1
  have uh := A_ h1
  have HF := A_ hf
  have EX := A_ hs
  have hm : t.keys.length <= 1000 := h1.2.1
  clear hrd hB ho1 ho2 hne hb1 hb2 hL1 hL2 EB h1 hf hs
  go_enter Try.func65, Try.ntmps65
  go_wp2
  go_loopg [1, 2, 8] (t.keys.length + 1) (fun kq u1 u2 u8 w' => ∃ (i : Nat) (x1 x2 : List ByteArray), u8 = .int .i64 (i : Int) /\ af (kq + i = t.keys.length + 1) /\ af (x1 ++ lg t i = L1) /\ af (x2 ++ mf t i = L2) /\ af (SR w' w0.heap.size u1 x1) /\ af (SR w' w0.heap.size u2 x2) /\ af (rO u1 u2) /\ af (Below w0.heap.size w0 w'))
  case atStart => exact ⟨0, l1, l2, by first | rfl | (simp; done), ⟨Nat.add_zero _⟩, HR1, HR2, kY, lH, o7, HB⟩
  case round =>
   clear HR1 HR2 kY lH o7 HB
   obtain ⟨i, x1, x2, rfl, HK, HR1, HR2, kY, lH, o7, HB⟩ := hrel
   have Qz := A_ (HN.out.below HB.out)
   have PL := A_ Qz.out.rd
   have hz0 := Qz.out.z0
   have hz2 := Qz.out.z2
   by_cases hi : i <= t.keys.length
   ·have ce := kZ ((i : Int) <= (t.keys.length : Int))
    have xL : (i <= t.keys.length) = True := eq_true hi
    have ci := dJ (0 <= (i : Int))
    have hJ : i <= 1000 := (by omega)
    have HI := A_ hi
    by_cases h0 : t.kids.length = 0
    ·have hbl := A_ (show decide ((t.kids.length : Int) = 0) = true from decide_eq_true (by omega))
     by_cases hlt : i < t.keys.length
     ·obtain ⟨r1, hr1⟩ : ∃ r, lg t (i + 1) = r := ⟨_, rfl⟩
      obtain ⟨PM, rfl, hk0⟩ := HN.out.key i (by omega) (by omega)
      obtain ⟨IA, rfl, hv0⟩ := HN.out.val i (by omega) (by have := uh.out; omega)
      rw [Int.toNat_natCast] at hk0 hv0
      obtain ⟨kx, hkx⟩ : ∃ x, x = bI ByteArray.empty t.keys (i : Int) := ⟨_, rfl⟩
      obtain ⟨vx, Hd⟩ : ∃ x, x = bI ByteArray.empty t.vals (i : Int) := ⟨_, rfl⟩
      rw [<- hkx] at hk0
      rw [<- Hd] at hv0
      have e1 := zm h0 hlt
      have e2 := zn h0 (i := i) (by have := uh.out; omega)
      rw [show t.keys.getD i ByteArray.empty = kx from hkx.symm] at e1
      rw [show t.vals.getD i ByteArray.empty = vx from Hd.symm] at e2
      have nQ := A_ (gW (x := [kx]) HR1.out e1)
      have HE2 := A_ (gW (x := [vx]) HR2.out e2)
      have HZ1 := A_ (show x1.length + 1 <= 8796093022208 from jB (x := [kx]) HR1.out e1 Ch.out)
      have HZ2 := A_ (show x2.length + 1 <= 8796093022208 from jB (x := [vx]) HR2.out e2 HL2.out)
      have IB := A_ hk0
      have nM := A_ hv0
      have hlc := kZ ((i : Int) < (t.keys.length : Int))
      have hlb : (i < t.keys.length) = True := eq_true hlt
      have hva : ((i : Int) < (t.vals.length : Int)) = True := eq_true (by have := uh.out; omega)
      have hvb : (i < t.vals.length) = True := eq_true (by have := uh.out; omega)
      have OU := (HB.out.cell (World.block_lt_of_cell? w0 _ hk0)).trans hk0
      have hz1 := Qz.out.z1
      clear hk0 hv0 hkx Hd e1 e2 hi hlt h0 hr1 HR1 HR2
      go_wp2_with (first | (go_at_call 84; (with_reducible refine (bY.dA true hbl.out _ ?aD).mono ?_); (case aD => exact yP PL.out); rintro e w' ⟨rfl, ⟨nd, rfl⟩⟩) | ((with_reducible refine bQ (b := .append) (xs := #[.tmp 41, .tmp 49]) rfl ?_); at_builtin; refine Kd.ql Kd.string (w0 := w0) w0.heap.size rfl (.tmp 41) (.tmp 49) 38 9 (.string ⟨#[]⟩) 16 rfl Try.underlying38 dh rfl (by decide) (by omega) u1 x1 kx [.string kx] (fun _ => True) (fun _ => False) rfl rfl ?aP (fun _ hk => hk.elim) ?aF ?aO ?aB ?aS ?aL ?_; (case aP => exact rfl); (case aB => exact zb HB.out); (case aF => exact fun _ _ => trivial); (case aO => exact rJ kY.out); (case aS => exact BN HB.out); (case aL => have := HZ1.out; omega); intro u1' w7 ho hb hg hat; have aj := A_ ho; have az := A_ (SR.far (SR.BO (rJ lH.out)) hg (wY o7.out)); have jG := A_ (SR.ne (SR.BO (rJ lH.out)) hat o7.out); have nG := A_ hb; have hz1' := (HN.out.below hb).z1; have hz0' := (HN.out.below hb).z0; have hzv' := (hb.cell (World.block_lt_of_cell? w0 _ nM.out)).trans nM.out; clear kY lH o7 HB; have kY := aj; have lH := az; have o7 := jG; have HB := nG; clear aj az jG nG ho hb hg hat) | ((with_reducible refine bQ (b := .append) (xs := #[.tmp 51, .tmp 59]) rfl ?_); at_builtin; refine Kd.ql Kd.string (w0 := w0) w0.heap.size rfl (.tmp 51) (.tmp 59) 38 9 (.string ⟨#[]⟩) 16 rfl Try.underlying38 dh rfl (by decide) (by omega) u2 x2 vx [.string vx] (fun _ => True) (fun _ => False) rfl rfl ?aP (fun _ hk => hk.elim) ?aF ?aO ?aB ?aS ?aL ?_; (case aP => exact rfl); (case aB => exact zb HB.out); (case aF => exact fun _ _ => trivial); (case aO => exact rJ lH.out); (case aS => exact BN HB.out); (case aL => have := HZ2.out; omega); intro u2' w8 ho hb hg hat; have aj := A_ ho; have az := A_ (SR.far (SR.BO (rJ kY.out)) hg o7.out); have jG := A_ (wY (SR.ne (SR.BO (rJ kY.out)) hat (wY o7.out))); have nG := A_ hb; clear kY lH o7 HB; have lH := aj; have kY := az; have o7 := jG; have HB := nG; clear aj az jG nG ho hb hg hat))
      go_roundg (t.keys.length - i)
      case measure => have := HK.out; have := HI.out; omega
      case rel => exact ⟨i + 1, _, _, by first | rfl | go_num | (simp; done), ⟨by have := HK.out; have := HI.out; omega⟩, nQ, HE2, ⟨SR.BO (rJ kY.out)⟩, ⟨SR.BO (rJ lH.out)⟩, o7, ⟨zb HB.out⟩⟩
     ·obtain rfl : i = t.keys.length := by omega
      have nQ := A_ (show x1 ++ lg t (t.keys.length + 1) = L1 by rw [<- HR1.out, qg (by omega) (by omega), qg (by omega) (by omega)])
      have HE2 := A_ (show x2 ++ mf t (t.keys.length + 1) = L2 by have := uh.out; rw [<- HR2.out, qh (by omega) (by omega), qh (by omega) (by omega)])
      have hlc := kT ((t.keys.length : Int) < (t.keys.length : Int))
      clear hi hlt h0 HR1 HR2
      go_wp2_with (first | (go_at_call 84; (with_reducible refine (bY.dA true hbl.out _ ?aD).mono ?_); (case aD => exact yP PL.out); rintro e w' ⟨rfl, ⟨nd, rfl⟩⟩))
      go_roundg (t.keys.length - t.keys.length)
      case measure => have := HK.out; have := HI.out; omega
      case rel => exact ⟨t.keys.length + 1, _, _, by first | rfl | go_num | (simp; done), ⟨by have := HK.out; have := HI.out; omega⟩, nQ, HE2, ⟨SR.BO (rJ kY.out)⟩, ⟨SR.BO (rJ lH.out)⟩, o7, ⟨zb HB.out⟩⟩
    ·have hbl := A_ (show decide ((t.kids.length : Int) = 0) = false from decide_eq_false (by omega))
     have hkl : t.kids.length = t.keys.length + 1 := uh.out.2.2.resolve_left h0
     obtain ⟨adc, q, s, rfl, hc0, hs, hrs⟩ := HN.out.kid i (by omega) (by omega)
     rw [Int.toNat_natCast] at hc0 hs
     have HS := A_ hs
     have QA := A_ hrs
     have hzc := (HB.out.cell (World.block_lt_of_cell? w0 _ hc0)).trans hc0
     have WQ := dJ ((i : Int) < (t.kids.length : Int))
     have hcb := dJ (i < t.kids.length)
     by_cases hlt : i < t.keys.length
     ·obtain ⟨r1, hr1⟩ : ∃ r, lg t (i + 1) = r := ⟨_, rfl⟩
      obtain ⟨PM, rfl, hk0⟩ := HN.out.key i (by omega) (by omega)
      obtain ⟨IA, rfl, hv0⟩ := HN.out.val i (by omega) (by have := uh.out; omega)
      rw [Int.toNat_natCast] at hk0 hv0
      obtain ⟨kx, hkx⟩ : ∃ x, x = bI ByteArray.empty t.keys (i : Int) := ⟨_, rfl⟩
      obtain ⟨vx, Hd⟩ : ∃ x, x = bI ByteArray.empty t.vals (i : Int) := ⟨_, rfl⟩
      rw [<- hkx] at hk0
      rw [<- Hd] at hv0
      have e1 := zo hs hlt
      have e2 := zq hs (i := i) (by have := uh.out; omega)
      rw [show t.keys.getD i ByteArray.empty = kx from hkx.symm] at e1
      rw [show t.vals.getD i ByteArray.empty = vx from Hd.symm] at e2
      have IC := gW HR1.out e1
      have IE := gW HR2.out e2
      have nQ := A_ (gW (x := [kx]) IC rfl)
      have HE2 := A_ (gW (x := [vx]) IE rfl)
      have HZ1 := A_ (show (x1 ++ bB s).length <= 8796093022208 by rw [List.length_append]; exact jB HR1.out e1 Ch.out)
      have HZ2 := A_ (show (x2 ++ dL s).length <= 8796093022208 by rw [List.length_append]; exact jB HR2.out e2 HL2.out)
      have HZ3 := A_ (show (x1 ++ bB s).length + 1 <= 8796093022208 from jB (x := [kx]) IC rfl Ch.out)
      have WS := A_ (show (x2 ++ dL s).length + 1 <= 8796093022208 from jB (x := [vx]) IE rfl HL2.out)
      have IB := A_ hk0
      have nM := A_ hv0
      have hlc := kZ ((i : Int) < (t.keys.length : Int))
      have hlb : (i < t.keys.length) = True := eq_true hlt
      have hva : ((i : Int) < (t.vals.length : Int)) = True := eq_true (by have := uh.out; omega)
      have hvb : (i < t.vals.length) = True := eq_true (by have := uh.out; omega)
      clear hk0 hv0 hkx Hd e1 e2 hi hlt h0 hr1 HR1 HR2 IC IE hkl hs hrs hc0
      go_wp2_with (first | (go_at_call 84; (with_reducible refine (bY.dA false hbl.out _ ?aD).mono ?_); (case aD => exact yP PL.out); rintro e w' ⟨rfl, ⟨nd, rfl⟩⟩) | (go_at_call 65; (with_reducible refine (ih s (by have := PT.gT HS.out; have := EX.out; omega) (HF.out.kid HS.out) w0 _ u1 u2 x1 x2 QA.out ?dR ?Bj ?Bl o7.out HZ1.out HZ2.out).mono ?_); (case dR => exact zb HB.out); (case Bj => exact SR.BO (rJ kY.out)); (case Bl => exact SR.BO (rJ lH.out)); rintro e w5 ⟨u3, u4, rfl, ho1, ho2, hne, hb⟩; have aj := A_ ho1; have az := A_ ho2; have jG := A_ hne; have nG := A_ hb; have hz0' := (HN.out.below hb).z0; have hzk' := (hb.cell (World.block_lt_of_cell? w0 _ IB.out)).trans IB.out; clear kY lH o7 HB; have kY := aj; have lH := az; have o7 := jG; have HB := nG; clear aj az jG nG ho1 ho2 hne hb) | ((with_reducible refine bQ (b := .append) (xs := #[.tmp 41, .tmp 49]) rfl ?_); at_builtin; refine Kd.ql Kd.string (w0 := w0) w0.heap.size rfl (.tmp 41) (.tmp 49) 38 9 (.string ⟨#[]⟩) 16 rfl Try.underlying38 dh rfl (by decide) (by omega) u3 (x1 ++ bB s) kx [.string kx] (fun _ => True) (fun _ => False) rfl rfl ?aP (fun _ hk => hk.elim) ?aF ?aO ?aB ?aS ?aL ?_; (case aP => exact rfl); (case aB => exact zb HB.out); (case aF => exact fun _ _ => trivial); (case aO => exact rJ kY.out); (case aS => exact BN HB.out); (case aL => have := HZ3.out; omega); intro u1' w7 ho hb hg hat; have aj := A_ ho; have az := A_ (SR.far (SR.BO (rJ lH.out)) hg (wY o7.out)); have jG := A_ (SR.ne (SR.BO (rJ lH.out)) hat o7.out); have nG := A_ hb; have hz1' := (HN.out.below hb).z1; have hz0b := (HN.out.below hb).z0; have hzv' := (hb.cell (World.block_lt_of_cell? w0 _ nM.out)).trans nM.out; clear kY lH o7 HB; have kY := aj; have lH := az; have o7 := jG; have HB := nG; clear aj az jG nG ho hb hg hat) | ((with_reducible refine bQ (b := .append) (xs := #[.tmp 51, .tmp 59]) rfl ?_); at_builtin; refine Kd.ql Kd.string (w0 := w0) w0.heap.size rfl (.tmp 51) (.tmp 59) 38 9 (.string ⟨#[]⟩) 16 rfl Try.underlying38 dh rfl (by decide) (by omega) u4 (x2 ++ dL s) vx [.string vx] (fun _ => True) (fun _ => False) rfl rfl ?aP (fun _ hk => hk.elim) ?aF ?aO ?aB ?aS ?aL ?_; (case aP => exact rfl); (case aB => exact zb HB.out); (case aF => exact fun _ _ => trivial); (case aO => exact rJ lH.out); (case aS => exact BN HB.out); (case aL => have := WS.out; omega); intro u2' w8 ho hb hg hat; have aj := A_ ho; have az := A_ (SR.far (SR.BO (rJ kY.out)) hg o7.out); have jG := A_ (wY (SR.ne (SR.BO (rJ kY.out)) hat (wY o7.out))); have nG := A_ hb; clear kY lH o7 HB; have lH := aj; have kY := az; have o7 := jG; have HB := nG; clear aj az jG nG ho hb hg hat))
      go_roundg (t.keys.length - i)
      case measure => have := HK.out; have := HI.out; omega
      case rel => exact ⟨i + 1, _, _, by first | rfl | go_num | (simp; done), ⟨by have := HK.out; have := HI.out; omega⟩, nQ, HE2, ⟨SR.BO (rJ kY.out)⟩, ⟨SR.BO (rJ lH.out)⟩, o7, ⟨zb HB.out⟩⟩
     ·obtain rfl : i = t.keys.length := by omega
      have e1 := zt hs (Nat.le_refl _) hkl
      have e2 := zu hs (by have := uh.out; omega) hkl
      have nQ := A_ (gW HR1.out e1)
      have HE2 := A_ (gW HR2.out e2)
      have HZ1 := A_ (show (x1 ++ bB s).length <= 8796093022208 by rw [List.length_append]; exact jB HR1.out e1 Ch.out)
      have HZ2 := A_ (show (x2 ++ dL s).length <= 8796093022208 by rw [List.length_append]; exact jB HR2.out e2 HL2.out)
      have hlc := kT ((t.keys.length : Int) < (t.keys.length : Int))
      clear hi hlt h0 HR1 HR2 e1 e2 hkl hs hrs hc0
      go_wp2_with (first | (go_at_call 84; (with_reducible refine (bY.dA false hbl.out _ ?aD).mono ?_); (case aD => exact yP PL.out); rintro e w' ⟨rfl, ⟨nd, rfl⟩⟩) | (go_at_call 65; (with_reducible refine (ih s (by have := PT.gT HS.out; have := EX.out; omega) (HF.out.kid HS.out) w0 _ u1 u2 x1 x2 QA.out ?dR ?Bj ?Bl o7.out HZ1.out HZ2.out).mono ?_); (case dR => exact zb HB.out); (case Bj => exact SR.BO (rJ kY.out)); (case Bl => exact SR.BO (rJ lH.out)); rintro e w5 ⟨u3, u4, rfl, ho1, ho2, hne, hb⟩; have aj := A_ ho1; have az := A_ ho2; have jG := A_ hne; have nG := A_ hb; have hz0' := (HN.out.below hb).z0;  clear kY lH o7 HB; have kY := aj; have lH := az; have o7 := jG; have HB := nG; clear aj az jG nG ho1 ho2 hne hb))
      go_roundg (t.keys.length - t.keys.length)
      case measure => have := HK.out; have := HI.out; omega
      case rel => exact ⟨t.keys.length + 1, _, _, by first | rfl | go_num | (simp; done), ⟨by have := HK.out; have := HI.out; omega⟩, nQ, HE2, ⟨SR.BO (rJ kY.out)⟩, ⟨SR.BO (rJ lH.out)⟩, o7, ⟨zb HB.out⟩⟩
   ·have ce := kT ((i : Int) <= (t.keys.length : Int))
    have xL : (i <= t.keys.length) = False := eq_false hi
    have nQ := show x1 = L1 by have := uh.out; rw [<- HR1.out, qg (by omega) (by omega), List.append_nil]
    have HE2 := show x2 = L2 by have := uh.out; rw [<- HR2.out, qh (by omega) (by omega), List.append_nil]
    subst nQ
    subst HE2
    clear hi
    go_wp2
    go_ret2
    exact ⟨_, _, rfl, SR.BO (rJ kY.out), SR.BO (rJ lH.out), o7.out, zb HB.out⟩
open Go.Proofs.Ytoddejmlcnbdmaa.Fn
theorem qO {p0 q : Prop} (h0 : p0) (h : p0 -> q := by intro p9; repeat (first | exact p9 | (with_reducible refine Rd.drewN ?_ _) | (with_reducible refine Rd.drew ?_))) : q := h h0
set_option maxHeartbeats 8000000
set_option maxRecDepth 100000
theorem gL.dA {p : Nat} {t : PT} (b : Bool) (hb : decide ((t.kids.length : Int) = 0) = b) (w : World) (h : Rd 101 w p t) :
  Calls Try.prog 99 #[bG p] w fun e w' => e = .returned (.bool b) /\ ay w w' := by
 subst hb
 obtain ⟨Ak, ck, Av, cv, Ac, cc, ps, HN⟩ := h.open
 have hz := HN.z2
 clear HN h
 go_enter Try.func99, Try.ntmps99
 go_wp2
 go_ret
 exact ⟨by first | rfl | (simp; done), by repeat (first | exact ay.refl _ | apply ay.step)⟩
theorem qP.calls : ∀ (n : Nat) (t : PT), SizeOf.sizeOf t <= n -> Ho t -> ∀ (d : Int) (b : Bool), gG t = (d, b) -> ∀ {p : Nat} (w : World), Rd 101 w p t ->
  Calls Try.prog 62 #[bG p] w fun e w' => e = .returned (.tuple #[.int .i64 d, .bool b]) /\ ay w w' := by
 intro n
 induction n with
 | zero =>
  intro t hs
  cases t with | mk keys vals kids => simp at hs
 | succ n ih =>
  intro t hs hf d b hr p w h
  by_cases h0 : t.kids.length = 0
  ·have HO := A_ h
   have he := xR h0
   rw [hr] at he
   injection he with e1 e2
   subst e1; subst e2
   have hb0 := A_ (show decide ((t.kids.length : Int) = 0) = true from decide_eq_true (by omega))
   clear h h0 hr
   go_enter Try.func62, Try.ntmps62
   go_wp2_with (go_at_call 99; (with_reducible refine (gL.dA true hb0.out _ ?aD).mono ?_); (case aD => exact qO HO.out); rintro e w' ⟨rfl, ⟨nd, rfl⟩⟩)
   go_ret2
   exact ⟨by first | done | rfl, by repeat (first | exact ay.refl _ | apply ay.step)⟩
  ·have HO := A_ h
   have hb0 := A_ (show decide ((t.kids.length : Int) = 0) = false from decide_eq_false (by omega))
   obtain ⟨Ak, ck, Av, cv, Ac, cc, ps, HN⟩ := h.open
   have hz0 := HN.z0
   have hz2 := HN.z2
   have WT := A_ HN
   have HF := A_ hf
   have EX := A_ hs
   have HL := A_ (show 0 < t.kids.length by omega)
   have HE := A_ (hr.symm.trans (xS h0))
   clear h h0 HN hf hs hr
   go_enter Try.func62, Try.ntmps62
   go_upto_region 5 with (go_at_call 99; (with_reducible refine (gL.dA false hb0.out _ ?aD).mono ?_); (case aD => exact qO HO.out); rintro e w' ⟨rfl, ⟨nd, rfl⟩⟩)
   go_loopg [4, 16] t.kids.length (fun kq v4 v16 w' => ∃ (i m : Nat) (f : Int), v16 = .int .i64 (i : Int) /\ v4 = .int .i64 f /\ af (kq + i = t.kids.length) /\ af ((d, b) = uO t.keys.length (iq i f (t.kids.drop i))) /\ w' = w.drewN m)
   case atStart => exact ⟨0, _, 0, by first | rfl | (simp; done), rfl, ⟨Nat.add_zero _⟩, HE, rfl⟩
   case round =>
    clear HE
    obtain ⟨i, m, f, rfl, rfl, HK, HE, rfl⟩ := hrel
    by_cases hi : i < t.kids.length
    ·obtain ⟨ad, q, s, rfl, hz, hs, ho⟩ := WT.out.kid i (by omega) (by omega)
     rw [Int.toNat_natCast] at hz hs
     obtain ⟨y7, ck1, oo, mi, U5, Ug, ps1, ND⟩ := ho.open
     have OU := ND.z0
     have HS := A_ hs
     have H1 := A_ ho
     have HI := A_ hi
     have ce := kZ ((i : Int) < (t.kids.length : Int))
     have cea := dJ ((i : Int) < (t.kids.length : Int))
     have xL : (i < t.kids.length) = True := eq_true hi
     have cec := dJ (0 <= (i : Int))
     obtain ⟨d1, b1, V5⟩ : ∃ d1 b1, gG s = (d1, b1) := ⟨_, _, rfl⟩
     have HD := A_ V5
     clear ND ho hs hi V5
     cases b1 with
     | false =>
      have nQ := A_ (uP HS.out HE.out (.inl (by rw [HD.out])))
      go_wp2_with (go_at_call 62; (with_reducible refine (ih s (by have := PT.gT HS.out; have := EX.out; omega) (HF.out.kid HS.out) d1 false HD.out _ ?aD).mono ?_); (case aD => exact qO H1.out); rintro e w' ⟨rfl, ⟨nd, rfl⟩⟩)
      go_ret2
      have := nQ.out
      injection this with e1 e2
      exact ⟨by rw [e1, e2]; first | done | rfl, by repeat (first | exact ay.refl _ | apply ay.step | exact ⟨_, rfl⟩)⟩
     | true =>
      by_cases hk : s.keys.length < 2
      ·have nQ := A_ (uP HS.out HE.out (.inr (.inl hk)))
       have hkb := kZ ((s.keys.length : Int) < 2)
       clear hk
       go_wp2_with (go_at_call 62; (with_reducible refine (ih s (by have := PT.gT HS.out; have := EX.out; omega) (HF.out.kid HS.out) d1 true HD.out _ ?aD).mono ?_); (case aD => exact qO H1.out); rintro e w' ⟨rfl, ⟨nd, rfl⟩⟩)
       go_ret2
       have := nQ.out
       injection this with e1 e2
       exact ⟨by rw [e1, e2]; first | done | rfl, by repeat (first | exact ay.refl _ | apply ay.step | exact ⟨_, rfl⟩)⟩
      ·have hkb := kT ((s.keys.length : Int) < 2)
       by_cases h3 : i = 0 ∨ d1 = f
       ·have nQ := A_ (KA HS.out HE.out (by rw [HD.out]) hk (by rw [HD.out]; exact h3))
        have hm : t.kids.length <= 1048576 := HF.out.len
        have hj : i < t.kids.length := HI.out
        rw [HD.out] at nQ
        clear hk
        by_cases hi0 : 0 < i
        ·obtain rfl : d1 = f := h3.resolve_left (by omega)
         have hi0b := kZ (0 < (i : Int))
         have hi0c : (0 < i) = True := eq_true hi0
         clear hi0 h3
         go_wp2_with (go_at_call 62; (with_reducible refine (ih s (by have := PT.gT HS.out; have := EX.out; omega) (HF.out.kid HS.out) d1 true HD.out _ ?aD).mono ?_); (case aD => exact qO H1.out); rintro e w' ⟨rfl, ⟨nd, rfl⟩⟩)
         go_roundg (t.kids.length - (i + 1))
         case measure => have := HK.out; omega
         case rel => exact ⟨i + 1, _, d1, by first | rfl | go_num | (simp; done), rfl, ⟨by omega⟩, nQ, rfl⟩
        ·have hi0b := kT (0 < (i : Int))
         have hi0c : (0 < i) = False := eq_false hi0
         clear hi0 h3
         go_wp2_with (go_at_call 62; (with_reducible refine (ih s (by have := PT.gT HS.out; have := EX.out; omega) (HF.out.kid HS.out) d1 true HD.out _ ?aD).mono ?_); (case aD => exact qO H1.out); rintro e w' ⟨rfl, ⟨nd, rfl⟩⟩)
         go_roundg (t.kids.length - (i + 1))
         case measure => have := HK.out; omega
         case rel => exact ⟨i + 1, _, d1, by first | rfl | go_num | (simp; done), rfl, ⟨by omega⟩, nQ, rfl⟩
       ·have h4 : 0 < i /\ d1 ≠ f := ⟨by omega, fun e => h3 (.inr e)⟩
        have nQ := A_ (uP HS.out HE.out (.inr (.inr ⟨h4.1, by rw [HD.out]; exact h4.2⟩)))
        have hi0b := kZ (0 < (i : Int))
        have hi0c : (0 < i) = True := eq_true h4.1
        have hne : (d1 != f) = true := by simpa using h4.2
        clear hk h3 h4
        go_wp2_with (go_at_call 62; (with_reducible refine (ih s (by have := PT.gT HS.out; have := EX.out; omega) (HF.out.kid HS.out) d1 true HD.out _ ?aD).mono ?_); (case aD => exact qO H1.out); rintro e w' ⟨rfl, ⟨nd, rfl⟩⟩)
        go_ret2
        have := nQ.out
        injection this with e1 e2
        exact ⟨by rw [e1, e2]; first | done | rfl, by repeat (first | exact ay.refl _ | apply ay.step | exact ⟨_, rfl⟩)⟩
    ·have ce := kT ((i : Int) < (t.kids.length : Int))
     have xL : (i < t.kids.length) = False := eq_false (by omega)
     have nQ := Hq (by omega) HE.out
     injection nQ with e1 e2
     subst e1; subst e2
     clear hi HE
     go_wp2
     go_quiet (fail)
     go_wp2
     go_ret2
     exact ⟨by first | done | rfl | simp [uA] | simp [IntKind.wrap_i64, wrap64], by repeat (first | exact ay.refl _ | apply ay.step | exact ⟨_, rfl⟩)⟩
open Go.Proofs.Ytoddejmlcnbdmaa.Fn
set_option maxHeartbeats 8000000
set_option maxRecDepth 100000
theorem fw {w w' : World} (h : ay w w') : Below w.heap.size w w' := by
 obtain ⟨n, rfl⟩ := h.out
 exact ah (Below.refl _ _) n
theorem lJ {N : Nat} {w w' : World} (h : ay w w') : Below N w w' := by
 obtain ⟨n, rfl⟩ := h.out
 exact ah (Below.refl _ _) n
theorem rZ.calls : ∀ (n : Nat) (t : PT), SizeOf.sizeOf t <= n -> mJ t -> ∀ {p : Nat} (w0 w : World) (v1 v2 : Value) (l1 l2 : List ByteArray), Rd 101 w0 p t -> Below w0.heap.size w0 w -> SR w w0.heap.size v1 l1 -> SR w w0.heap.size v2 l2 -> rO v1 v2 ->
  (l1 ++ bB t).length <= 8796093022208 -> (l2 ++ dL t).length <= 8796093022208 -> Calls Try.prog 66 #[bG p, v1, v2] w (O1 w0 (l1 ++ bB t) (l2 ++ dL t)) := by
 intro n
 induction n with
 | zero =>
  intro t hs
  cases t with | mk keys vals kids => simp at hs
 | succ n ih =>
  intro t hs hf p w0 w v1 v2 l1 l2 hrd hB ho1 ho2 hne hb1 hb2
  obtain ⟨Ak, ck, Av, cv, Ac, cc, ps, EB⟩ := hrd.open
  have HN := A_ EB
  have HB := A_ hB
  have kY := A_ ho1
  have lH := A_ ho2
  have o7 := A_ hne
  obtain ⟨L1, hL1⟩ : ∃ L, L = l1 ++ bB t := ⟨_, rfl⟩
  obtain ⟨L2, hL2⟩ : ∃ L, L = l2 ++ dL t := ⟨_, rfl⟩
  rw [<- hL1, <- hL2]
  rw [<- hL1] at hb1
  rw [<- hL2] at hb2
  have Ch := A_ hb1
  have HL2 := A_ hb2
  have HR1 := A_ (show l1 ++ lg t 0 = L1 by rw [zh, hL1])
  have HR2 := A_ (show l2 ++ mf t 0 = L2 by rw [zk, hL2])
  have h1 := hf.one
  unfold uQ at h1
  have uh := A_ h1
  have HF := A_ hf
  have EX := A_ hs
  have hm : t.keys.length <= 1000 := h1.2.1
  have hz0 := (EB.below hB).z0
  clear hrd hB ho1 ho2 hne hb1 hb2 hL1 hL2 EB h1 hf hs
  go_enter Try.func66, Try.ntmps66
  go_wp2
  go_loopg [1, 2, 15] t.keys.length (fun kq u1 u2 u15 w' => ∃ (i : Nat) (x1 x2 : List ByteArray), u15 = .int .i64 (i : Int) /\ af (kq + i = t.keys.length) /\ af (x1 ++ lg t i = L1) /\ af (x2 ++ mf t i = L2) /\ af (SR w' w0.heap.size u1 x1) /\ af (SR w' w0.heap.size u2 x2) /\ af (rO u1 u2) /\ af (Below w0.heap.size w0 w'))
  case atStart => exact ⟨0, l1, l2, by first | rfl | (simp; done), ⟨Nat.add_zero _⟩, HR1, HR2, kY, lH, o7, HB⟩
  case round =>
   clear HR1 HR2 kY lH o7 HB hz0
   obtain ⟨i, x1, x2, rfl, HK, HR1, HR2, kY, lH, o7, HB⟩ := hrel
   have Qz := A_ (HN.out.below HB.out)
   have PL := A_ Qz.out.rd
   have hz0 := Qz.out.z0
   have hz2 := Qz.out.z2
   have ci := dJ (0 <= (i : Int))
   by_cases hi : i < t.keys.length
   ·have ce := kZ ((i : Int) < (t.keys.length : Int))
    have xL : (i < t.keys.length) = True := eq_true hi
    have hJ : i <= 1000 := (by omega)
    have HI := A_ hi
    obtain ⟨PM, rfl, hk0⟩ := HN.out.key i (by omega) (by omega)
    obtain ⟨IA, rfl, hv0⟩ := HN.out.val i (by omega) (by have := uh.out; omega)
    rw [Int.toNat_natCast] at hk0 hv0
    obtain ⟨kx, hkx⟩ : ∃ x, x = bI ByteArray.empty t.keys (i : Int) := ⟨_, rfl⟩
    obtain ⟨vx, Hd⟩ : ∃ x, x = bI ByteArray.empty t.vals (i : Int) := ⟨_, rfl⟩
    rw [<- hkx] at hk0
    rw [<- Hd] at hv0
    by_cases h0 : t.kids.length = 0
    ·have hbl := A_ (show decide ((t.kids.length : Int) = 0) = true from decide_eq_true (by omega))
     have e1 := zm h0 hi
     have e2 := zn h0 (i := i) (by have := uh.out; omega)
     rw [show t.keys.getD i ByteArray.empty = kx from hkx.symm] at e1
     rw [show t.vals.getD i ByteArray.empty = vx from Hd.symm] at e2
     have nQ := A_ (gW (x := [kx]) HR1.out e1)
     have HE2 := A_ (gW (x := [vx]) HR2.out e2)
     have HZ1 := A_ (show x1.length + 1 <= 8796093022208 from jB (x := [kx]) HR1.out e1 Ch.out)
     have HZ2 := A_ (show x2.length + 1 <= 8796093022208 from jB (x := [vx]) HR2.out e2 HL2.out)
     have nM := A_ hv0
     have OU := (Below.cell HB.out (World.block_lt_of_cell? w0 _ hk0)).trans hk0
     have hva : ((i : Int) < (t.vals.length : Int)) = True := eq_true (by have := uh.out; omega)
     have hvb : (i < t.vals.length) = True := eq_true (by have := uh.out; omega)
     clear hk0 hv0 hkx Hd e1 e2 hi h0 HR1 HR2
     go_wp2_with ((go_at_call 99; (with_reducible refine (gL.dA true hbl.out _ ?aD).mono ?_); (case aD => exact PL.out); rintro e w6 ⟨rfl, hd⟩; have aj := A_ (HB.out.trans (lJ hd)); have hz0' := (HN.out.below aj.out).z0; have hz2' := (HN.out.below aj.out).z2; have az := A_ (SR.under kY.out (fw hd)); have jG := A_ (SR.under lH.out (fw hd)); clear hd; clear HB; clear kY; clear lH; have HB := aj; have kY := az; have lH := jG; clear aj az jG))
     have HS2 := A_ (Sat.two kY.out lH.out o7.out)
     refine dz (n := 16) (S := fun w' => w'.cell? ⟨p, 1, none⟩ = some (.slice (some IA) t.vals.length cv) /\ w'.cell? (IA.add i) = some (.string vx)) (ds := []) (bt 16 0) (by kernel_rfl) rfl rfl ⟨(HN.out.below (aH HB.out)).z1, (Below.cell (aH HB.out) (World.block_lt_of_cell? w0 _ nM.out)).trans nM.out⟩ (fun hHeld => ?_)
     refine aV 0 36 1 ?_
     refine aV 1 37 3 ?_
     refine aV 4 40 19 ?_
     refine aV 5 41 51 ?_
     refine aV 6 42 115 ?_
     refine aV 7 43 243 ?_
     refine aV 9 45 755 ?_
     refine ik 8 44 1011 hHeld ?_
     refine aV 10 46 2035 ?_
     refine ik 11 47 4083 hHeld ?_
     refine kz (σ := Value × Value × Value) 3 (bt 16 8191) (fun z => [(38, z.1), (39, z.2.1), (48, z.2.2)]) (fun z w' => Below w0.heap.size w0 w' /\ Sat w' w0.heap.size [txt z.2.1 (x1 ++ [kx]), txt u2 x2, txt z.2.2 [vx]]) ?_ ?_
     rotate_left
     ·intro jQ
      refine DJ 2 12 (some 38) (some 48) 4087 8179 (fun K hK => ?_) (fun K hK => ?_)
      ·skip
       refine Kd.bn Kd.string (w0 := w0) w0.heap.size 9 (by rfl) (N := 38) rfl (xs := [kx]) (inner := [.string kx]) (ok := fun _ => True) (okp := fun _ => False) ?hr (Kd.aX (enc := Value.string) [kx]) (fun _ h => h.elim) trivial (aH HB.out) ((aH HB.out)).size (by simp) ?_
       (case hr => first | (go_simp; done) | (go_simp; rfl))
       intro vb1 Ny fB hbb hgb hnb
       have mh := A_ hbb
       have mU := A_ (Sat.lit (Sat.drew HS2.out) fB hgb hnb)
       obtain ⟨jb, jc, rfl⟩ : ∃ A c, vb1 = .slice A 1 c := Kd.av fB
       clear fB hbb hgb hnb
       refine hK.out _ _ ⟨(HN.out.below mh.out).z1, (Below.cell mh.out (World.block_lt_of_cell? w0 _ nM.out)).trans nM.out⟩ (fun hHeld => ?_)
       clear hK K
       refine eF 38 ?_
       refine DJ 3 12 (some 39) (some 48) 4095 8183 (fun K hK => ?_) (fun K hK => ?_)
       ·skip
        refine Kd.aJ Kd.string (w0 := w0) w0.heap.size (by rfl) (.tmp 36) (.tmp 38) 38 9 (.string ⟨#[]⟩) 16 rfl Try.underlying38 dh rfl (by decide) (by omega) u1 x1 [kx] jb 1 jc (fun _ => True) (fun _ => False) rfl rfl (Sat.sr mU.out 0 rfl) (Kd.dW (Sat.sr mU.out 2 rfl)).2.2 (fun _ _ h => h) (fun _ h => h.elim) (fun _ _ => trivial) mh.out (mh.out).size (by have := HZ1.out; (try simp only [List.length_singleton]); omega) ?_
        intro Lx Gb ho hb hg hat
        have kF := A_ hb
        have jm := A_ (Sat.app 0 mU.out rfl ho hg hat)
        clear ho hb hg hat
        refine hK.out _ _ ⟨(HN.out.below kF.out).z1, (Below.cell kF.out (World.block_lt_of_cell? w0 _ nM.out)).trans nM.out⟩ (fun hHeld => ?_)
        clear hK K
        refine eF 39 ?_
        refine jg 12 (some 48) 8191 (fun K hK => ?_)
        refine Kd.bn Kd.string (w0 := w0) w0.heap.size 9 (by rfl) (N := 48) rfl (xs := [vx]) (inner := [.string vx]) (ok := fun _ => True) (okp := fun _ => False) ?hr (Kd.aX (enc := Value.string) [vx]) (fun _ h => h.elim) trivial kF.out (kF.out).size (by simp) ?_
        (case hr => first | (go_simp; done) | (go_simp; rfl))
        intro rH Gc fB hbb hgb hnb
        have oQ := A_ hbb
        have lV := A_ (Sat.lit jm.out fB hgb hnb)
        obtain ⟨jd, je, rfl⟩ : ∃ A c, rH = .slice A 1 c := Kd.av fB
        clear fB hbb hgb hnb
        refine hK.out _ _ ⟨(HN.out.below oQ.out).z1, (Below.cell oQ.out (World.block_lt_of_cell? w0 _ nM.out)).trans nM.out⟩ (fun hHeld => ?_)
        clear hK K
        refine eF 48 ?_
        exact EW (jQ ⟨.slice jb 1 jc, Lx, .slice jd 1 je⟩ _ ⟨oQ.out, Sat.sub lV.out (by simp)⟩)
       ·skip
        refine Kd.bn Kd.string (w0 := w0) w0.heap.size 9 (by rfl) (N := 48) rfl (xs := [vx]) (inner := [.string vx]) (ok := fun _ => True) (okp := fun _ => False) ?hr (Kd.aX (enc := Value.string) [vx]) (fun _ h => h.elim) trivial mh.out (mh.out).size (by simp) ?_
        (case hr => first | (go_simp; done) | (go_simp; rfl))
        intro rH Gb fB hbb hgb hnb
        have kF := A_ hbb
        have jm := A_ (Sat.lit mU.out fB hgb hnb)
        obtain ⟨jd, je, rfl⟩ : ∃ A c, rH = .slice A 1 c := Kd.av fB
        clear fB hbb hgb hnb
        refine hK.out _ _ ⟨(HN.out.below kF.out).z1, (Below.cell kF.out (World.block_lt_of_cell? w0 _ nM.out)).trans nM.out⟩ (fun hHeld => ?_)
        clear hK K
        refine eF 48 ?_
        refine jg 3 (some 39) 8191 (fun K hK => ?_)
        refine Kd.aJ Kd.string (w0 := w0) w0.heap.size (by rfl) (.tmp 36) (.tmp 38) 38 9 (.string ⟨#[]⟩) 16 rfl Try.underlying38 dh rfl (by decide) (by omega) u1 x1 [kx] jb 1 jc (fun _ => True) (fun _ => False) rfl rfl (Sat.sr jm.out 0 rfl) (Kd.dW (Sat.sr jm.out 2 rfl)).2.2 (fun _ _ h => h) (fun _ h => h.elim) (fun _ _ => trivial) kF.out (kF.out).size (by have := HZ1.out; (try simp only [List.length_singleton]); omega) ?_
        intro Lx Gc ho hb hg hat
        have oQ := A_ hb
        have lV := A_ (Sat.app 0 jm.out rfl ho hg hat)
        clear ho hb hg hat
        refine hK.out _ _ ⟨(HN.out.below oQ.out).z1, (Below.cell oQ.out (World.block_lt_of_cell? w0 _ nM.out)).trans nM.out⟩ (fun hHeld => ?_)
        clear hK K
        refine eF 39 ?_
        exact EW (jQ ⟨.slice jb 1 jc, Lx, .slice jd 1 je⟩ _ ⟨oQ.out, Sat.sub lV.out (by simp)⟩)
      ·skip
       refine Kd.bn Kd.string (w0 := w0) w0.heap.size 9 (by rfl) (N := 48) rfl (xs := [vx]) (inner := [.string vx]) (ok := fun _ => True) (okp := fun _ => False) ?hr (Kd.aX (enc := Value.string) [vx]) (fun _ h => h.elim) trivial (aH HB.out) ((aH HB.out)).size (by simp) ?_
       (case hr => first | (go_simp; done) | (go_simp; rfl))
       intro rH Ny fB hbb hgb hnb
       have mh := A_ hbb
       have mU := A_ (Sat.lit (Sat.drew HS2.out) fB hgb hnb)
       obtain ⟨jd, je, rfl⟩ : ∃ A c, rH = .slice A 1 c := Kd.av fB
       clear fB hbb hgb hnb
       refine hK.out _ _ ⟨(HN.out.below mh.out).z1, (Below.cell mh.out (World.block_lt_of_cell? w0 _ nM.out)).trans nM.out⟩ (fun hHeld => ?_)
       clear hK K
       refine eF 48 ?_
       refine jg 2 (some 38) 8183 (fun K hK => ?_)
       refine Kd.bn Kd.string (w0 := w0) w0.heap.size 9 (by rfl) (N := 38) rfl (xs := [kx]) (inner := [.string kx]) (ok := fun _ => True) (okp := fun _ => False) ?hr (Kd.aX (enc := Value.string) [kx]) (fun _ h => h.elim) trivial mh.out (mh.out).size (by simp) ?_
       (case hr => first | (go_simp; done) | (go_simp; rfl))
       intro vb1 Gb fB hbb hgb hnb
       have kF := A_ hbb
       have jm := A_ (Sat.lit mU.out fB hgb hnb)
       obtain ⟨jb, jc, rfl⟩ : ∃ A c, vb1 = .slice A 1 c := Kd.av fB
       clear fB hbb hgb hnb
       refine hK.out _ _ ⟨(HN.out.below kF.out).z1, (Below.cell kF.out (World.block_lt_of_cell? w0 _ nM.out)).trans nM.out⟩ (fun hHeld => ?_)
       clear hK K
       refine eF 38 ?_
       refine jg 3 (some 39) 8191 (fun K hK => ?_)
       refine Kd.aJ Kd.string (w0 := w0) w0.heap.size (by rfl) (.tmp 36) (.tmp 38) 38 9 (.string ⟨#[]⟩) 16 rfl Try.underlying38 dh rfl (by decide) (by omega) u1 x1 [kx] jb 1 jc (fun _ => True) (fun _ => False) rfl rfl (Sat.sr jm.out 0 rfl) (Kd.dW (Sat.sr jm.out 3 rfl)).2.2 (fun _ _ h => h) (fun _ h => h.elim) (fun _ _ => trivial) kF.out (kF.out).size (by have := HZ1.out; (try simp only [List.length_singleton]); omega) ?_
       intro Lx Gc ho hb hg hat
       have oQ := A_ hb
       have lV := A_ (Sat.app 0 jm.out rfl ho hg hat)
       clear ho hb hg hat
       refine hK.out _ _ ⟨(HN.out.below oQ.out).z1, (Below.cell oQ.out (World.block_lt_of_cell? w0 _ nM.out)).trans nM.out⟩ (fun hHeld => ?_)
       clear hK K
       refine eF 39 ?_
       exact EW (jQ ⟨.slice jb 1 jc, Lx, .slice jd 1 je⟩ _ ⟨oQ.out, Sat.sub lV.out (by simp)⟩)
     rintro ⟨vb1, Lx, rH⟩ w8 ⟨hb, hs⟩
     obtain ⟨jd, je, rfl⟩ : ∃ A c, rH = .slice A 1 c := Kd.av (Sat.sr hs 2 rfl)
     have hHeld : (w8.cell? ⟨p, 1, none⟩ = some (.slice (some IA) t.vals.length cv)) /\ (w8.cell? (IA.add i) = some (.string vx)) := ⟨(HN.out.below hb).z1, (Below.cell hb (World.block_lt_of_cell? w0 _ nM.out)).trans nM.out⟩
     have EY := A_ hb
     have Ci := A_ hs
     clear hb hs
     refine dG (a' := ?_) ?_ ?_
     rotate_left
     ·simp only [bz, Act.put, List.setIfInBounds_toArray, List.set_cons_zero, List.set_cons_succ]
      rfl
     refine jg 13 (some 49) 16383 (fun K hK => ?_)
     refine Kd.aJ Kd.string (w0 := w0) w0.heap.size (by rfl) (.tmp 40) (.tmp 48) 38 9 (.string ⟨#[]⟩) 16 rfl Try.underlying38 dh rfl (by decide) (by omega) u2 x2 [vx] jd 1 je (fun _ => True) (fun _ => False) rfl rfl (Sat.sr Ci.out 1 rfl) (Kd.dW (Sat.sr Ci.out 2 rfl)).2.2 (fun _ _ h => h) (fun _ h => h.elim) (fun _ _ => trivial) EY.out EY.out.size (by have := HZ2.out; (try simp only [List.length_singleton]); omega) ?_
     intro u2n w9 ho hb hg hat
     have aj := A_ hb
     have az := A_ (Sat.app 1 Ci.out rfl ho hg hat)
     clear ho hb hg hat EY Ci
     have EY := aj
     have Ci := az
     clear aj az
     refine hK.out _ _ ⟨(HN.out.below EY.out).z1, (Below.cell EY.out (World.block_lt_of_cell? w0 _ nM.out)).trans nM.out⟩ (fun hHeld => ?_)
     clear hK K
     refine eF 49 ?_
     refine aV 14 1 32767 ?_
     refine aV 15 2 65535 ?_
     refine fu (by kernel_rfl) ?_
     go_wp2
     go_roundg (t.keys.length - (i + 1))
     case measure => have := HK.out; have := HI.out; omega
     case rel => exact ⟨i + 1, _, _, by first | rfl | go_num | (simp; done), ⟨by have := HK.out; have := HI.out; omega⟩, nQ, HE2, ⟨Sat.sr Ci.out 0 rfl⟩, ⟨Sat.sr Ci.out 1 rfl⟩, ⟨Sat.Yc Ci.out (i := 0) (j := 1) (by omega) rfl rfl⟩, EY⟩
    ·have hbl := A_ (show decide ((t.kids.length : Int) = 0) = false from decide_eq_false (by omega))
     have hkl : t.kids.length = t.keys.length + 1 := uh.out.2.2.resolve_left h0
     obtain ⟨adc, q, s, rfl, hc0, hs, hrs⟩ := HN.out.kid i (by omega) (by omega)
     rw [Int.toNat_natCast] at hc0 hs
     have HS := A_ hs
     have QA := A_ hrs
     have rG := A_ hc0
     have WQ := dJ ((i : Int) < (t.kids.length : Int))
     have hcb := dJ (i < t.kids.length)
     have e1 := zo hs hi
     have e2 := zq hs (i := i) (by have := uh.out; omega)
     rw [show t.keys.getD i ByteArray.empty = kx from hkx.symm] at e1
     rw [show t.vals.getD i ByteArray.empty = vx from Hd.symm] at e2
     have IC := gW HR1.out e1
     have IE := gW HR2.out e2
     have nQ := A_ (gW (x := [kx]) IC rfl)
     have HE2 := A_ (gW (x := [vx]) IE rfl)
     have HZ1 := A_ (show (x1 ++ bB s).length <= 8796093022208 by rw [List.length_append]; exact jB HR1.out e1 Ch.out)
     have HZ2 := A_ (show (x2 ++ dL s).length <= 8796093022208 by rw [List.length_append]; exact jB HR2.out e2 HL2.out)
     have HZ3 := A_ (show (x1 ++ bB s).length + 1 <= 8796093022208 from jB (x := [kx]) IC rfl Ch.out)
     have WS := A_ (show (x2 ++ dL s).length + 1 <= 8796093022208 from jB (x := [vx]) IE rfl HL2.out)
     have nM := A_ hv0
     have OU := (Below.cell HB.out (World.block_lt_of_cell? w0 _ hk0)).trans hk0
     have hva : ((i : Int) < (t.vals.length : Int)) = True := eq_true (by have := uh.out; omega)
     have hvb : (i < t.vals.length) = True := eq_true (by have := uh.out; omega)
     clear hk0 hv0 hkx Hd e1 e2 hi h0 HR1 HR2 IC IE hkl hs hrs hc0
     go_wp2_with (first | (go_at_call 99; (with_reducible refine (gL.dA false hbl.out _ ?aD).mono ?_); (case aD => exact PL.out); rintro e w6 ⟨rfl, hd⟩; have aj := A_ (HB.out.trans (lJ hd)); have hz0' := (HN.out.below aj.out).z0; have hz2' := (HN.out.below aj.out).z2; have az := A_ (SR.under kY.out (fw hd)); have jG := A_ (SR.under lH.out (fw hd)); have hzc := (Below.cell aj.out (World.block_lt_of_cell? w0 _ rG.out)).trans rG.out; clear hd; clear HB; clear kY; clear lH; have HB := aj; have kY := az; have lH := jG; clear aj az jG) | (go_at_call 66; (with_reducible refine (ih s (by have := PT.gT HS.out; have := EX.out; omega) (HF.out.kid HS.out) w0 _ u1 u2 x1 x2 QA.out HB.out kY.out lH.out o7.out HZ1.out HZ2.out).mono ?_); rintro e w7 ⟨u3, u4, rfl, ho1, ho2, hne, hb⟩; have aj := A_ ho1; have az := A_ ho2; have jG := A_ hne; have nG := A_ hb; clear kY lH o7 HB; have kY := aj; have lH := az; have o7 := jG; have HB := nG; clear aj az jG nG ho1 ho2 hne hb))
     have HS2 := A_ (Sat.two kY.out lH.out o7.out)
     refine dz (n := 16) (S := fun w' => w'.cell? ⟨p, 1, none⟩ = some (.slice (some IA) t.vals.length cv) /\ w'.cell? (IA.add i) = some (.string vx)) (ds := []) (bt 16 0) (by kernel_rfl) rfl rfl ⟨(HN.out.below (aH HB.out)).z1, (Below.cell (aH HB.out) (World.block_lt_of_cell? w0 _ nM.out)).trans nM.out⟩ (fun hHeld => ?_)
     refine aV 0 36 1 ?_
     refine aV 1 37 3 ?_
     refine aV 4 40 19 ?_
     refine aV 5 41 51 ?_
     refine aV 6 42 115 ?_
     refine aV 7 43 243 ?_
     refine aV 9 45 755 ?_
     refine ik 8 44 1011 hHeld ?_
     refine aV 10 46 2035 ?_
     refine ik 11 47 4083 hHeld ?_
     refine kz (σ := Value × Value × Value) 3 (bt 16 8191) (fun z => [(38, z.1), (39, z.2.1), (48, z.2.2)]) (fun z w' => Below w0.heap.size w0 w' /\ Sat w' w0.heap.size [txt z.2.1 ((x1 ++ bB s) ++ [kx]), txt u4 (x2 ++ dL s), txt z.2.2 [vx]]) ?_ ?_
     rotate_left
     ·intro jQ
      refine DJ 2 12 (some 38) (some 48) 4087 8179 (fun K hK => ?_) (fun K hK => ?_)
      ·skip
       refine Kd.bn Kd.string (w0 := w0) w0.heap.size 9 (by rfl) (N := 38) rfl (xs := [kx]) (inner := [.string kx]) (ok := fun _ => True) (okp := fun _ => False) ?hr (Kd.aX (enc := Value.string) [kx]) (fun _ h => h.elim) trivial (aH HB.out) ((aH HB.out)).size (by simp) ?_
       (case hr => first | (go_simp; done) | (go_simp; rfl))
       intro vb1 Ny fB hbb hgb hnb
       have mh := A_ hbb
       have mU := A_ (Sat.lit (Sat.drew HS2.out) fB hgb hnb)
       obtain ⟨jb, jc, rfl⟩ : ∃ A c, vb1 = .slice A 1 c := Kd.av fB
       clear fB hbb hgb hnb
       refine hK.out _ _ ⟨(HN.out.below mh.out).z1, (Below.cell mh.out (World.block_lt_of_cell? w0 _ nM.out)).trans nM.out⟩ (fun hHeld => ?_)
       clear hK K
       refine eF 38 ?_
       refine DJ 3 12 (some 39) (some 48) 4095 8183 (fun K hK => ?_) (fun K hK => ?_)
       ·skip
        refine Kd.aJ Kd.string (w0 := w0) w0.heap.size (by rfl) (.tmp 36) (.tmp 38) 38 9 (.string ⟨#[]⟩) 16 rfl Try.underlying38 dh rfl (by decide) (by omega) u3 (x1 ++ bB s) [kx] jb 1 jc (fun _ => True) (fun _ => False) rfl rfl (Sat.sr mU.out 0 rfl) (Kd.dW (Sat.sr mU.out 2 rfl)).2.2 (fun _ _ h => h) (fun _ h => h.elim) (fun _ _ => trivial) mh.out (mh.out).size (by have := HZ3.out; (try simp only [List.length_singleton]); omega) ?_
        intro Lx Gb ho hb hg hat
        have kF := A_ hb
        have jm := A_ (Sat.app 0 mU.out rfl ho hg hat)
        clear ho hb hg hat
        refine hK.out _ _ ⟨(HN.out.below kF.out).z1, (Below.cell kF.out (World.block_lt_of_cell? w0 _ nM.out)).trans nM.out⟩ (fun hHeld => ?_)
        clear hK K
        refine eF 39 ?_
        refine jg 12 (some 48) 8191 (fun K hK => ?_)
        refine Kd.bn Kd.string (w0 := w0) w0.heap.size 9 (by rfl) (N := 48) rfl (xs := [vx]) (inner := [.string vx]) (ok := fun _ => True) (okp := fun _ => False) ?hr (Kd.aX (enc := Value.string) [vx]) (fun _ h => h.elim) trivial kF.out (kF.out).size (by simp) ?_
        (case hr => first | (go_simp; done) | (go_simp; rfl))
        intro rH Gc fB hbb hgb hnb
        have oQ := A_ hbb
        have lV := A_ (Sat.lit jm.out fB hgb hnb)
        obtain ⟨jd, je, rfl⟩ : ∃ A c, rH = .slice A 1 c := Kd.av fB
        clear fB hbb hgb hnb
        refine hK.out _ _ ⟨(HN.out.below oQ.out).z1, (Below.cell oQ.out (World.block_lt_of_cell? w0 _ nM.out)).trans nM.out⟩ (fun hHeld => ?_)
        clear hK K
        refine eF 48 ?_
        exact EW (jQ ⟨.slice jb 1 jc, Lx, .slice jd 1 je⟩ _ ⟨oQ.out, Sat.sub lV.out (by simp)⟩)
       ·skip
        refine Kd.bn Kd.string (w0 := w0) w0.heap.size 9 (by rfl) (N := 48) rfl (xs := [vx]) (inner := [.string vx]) (ok := fun _ => True) (okp := fun _ => False) ?hr (Kd.aX (enc := Value.string) [vx]) (fun _ h => h.elim) trivial mh.out (mh.out).size (by simp) ?_
        (case hr => first | (go_simp; done) | (go_simp; rfl))
        intro rH Gb fB hbb hgb hnb
        have kF := A_ hbb
        have jm := A_ (Sat.lit mU.out fB hgb hnb)
        obtain ⟨jd, je, rfl⟩ : ∃ A c, rH = .slice A 1 c := Kd.av fB
        clear fB hbb hgb hnb
        refine hK.out _ _ ⟨(HN.out.below kF.out).z1, (Below.cell kF.out (World.block_lt_of_cell? w0 _ nM.out)).trans nM.out⟩ (fun hHeld => ?_)
        clear hK K
        refine eF 48 ?_
        refine jg 3 (some 39) 8191 (fun K hK => ?_)
        refine Kd.aJ Kd.string (w0 := w0) w0.heap.size (by rfl) (.tmp 36) (.tmp 38) 38 9 (.string ⟨#[]⟩) 16 rfl Try.underlying38 dh rfl (by decide) (by omega) u3 (x1 ++ bB s) [kx] jb 1 jc (fun _ => True) (fun _ => False) rfl rfl (Sat.sr jm.out 0 rfl) (Kd.dW (Sat.sr jm.out 2 rfl)).2.2 (fun _ _ h => h) (fun _ h => h.elim) (fun _ _ => trivial) kF.out (kF.out).size (by have := HZ3.out; (try simp only [List.length_singleton]); omega) ?_
        intro Lx Gc ho hb hg hat
        have oQ := A_ hb
        have lV := A_ (Sat.app 0 jm.out rfl ho hg hat)
        clear ho hb hg hat
        refine hK.out _ _ ⟨(HN.out.below oQ.out).z1, (Below.cell oQ.out (World.block_lt_of_cell? w0 _ nM.out)).trans nM.out⟩ (fun hHeld => ?_)
        clear hK K
        refine eF 39 ?_
        exact EW (jQ ⟨.slice jb 1 jc, Lx, .slice jd 1 je⟩ _ ⟨oQ.out, Sat.sub lV.out (by simp)⟩)
      ·skip
       refine Kd.bn Kd.string (w0 := w0) w0.heap.size 9 (by rfl) (N := 48) rfl (xs := [vx]) (inner := [.string vx]) (ok := fun _ => True) (okp := fun _ => False) ?hr (Kd.aX (enc := Value.string) [vx]) (fun _ h => h.elim) trivial (aH HB.out) ((aH HB.out)).size (by simp) ?_
       (case hr => first | (go_simp; done) | (go_simp; rfl))
       intro rH Ny fB hbb hgb hnb
       have mh := A_ hbb
       have mU := A_ (Sat.lit (Sat.drew HS2.out) fB hgb hnb)
       obtain ⟨jd, je, rfl⟩ : ∃ A c, rH = .slice A 1 c := Kd.av fB
       clear fB hbb hgb hnb
       refine hK.out _ _ ⟨(HN.out.below mh.out).z1, (Below.cell mh.out (World.block_lt_of_cell? w0 _ nM.out)).trans nM.out⟩ (fun hHeld => ?_)
       clear hK K
       refine eF 48 ?_
       refine jg 2 (some 38) 8183 (fun K hK => ?_)
       refine Kd.bn Kd.string (w0 := w0) w0.heap.size 9 (by rfl) (N := 38) rfl (xs := [kx]) (inner := [.string kx]) (ok := fun _ => True) (okp := fun _ => False) ?hr (Kd.aX (enc := Value.string) [kx]) (fun _ h => h.elim) trivial mh.out (mh.out).size (by simp) ?_
       (case hr => first | (go_simp; done) | (go_simp; rfl))
       intro vb1 Gb fB hbb hgb hnb
       have kF := A_ hbb
       have jm := A_ (Sat.lit mU.out fB hgb hnb)
       obtain ⟨jb, jc, rfl⟩ : ∃ A c, vb1 = .slice A 1 c := Kd.av fB
       clear fB hbb hgb hnb
       refine hK.out _ _ ⟨(HN.out.below kF.out).z1, (Below.cell kF.out (World.block_lt_of_cell? w0 _ nM.out)).trans nM.out⟩ (fun hHeld => ?_)
       clear hK K
       refine eF 38 ?_
       refine jg 3 (some 39) 8191 (fun K hK => ?_)
       refine Kd.aJ Kd.string (w0 := w0) w0.heap.size (by rfl) (.tmp 36) (.tmp 38) 38 9 (.string ⟨#[]⟩) 16 rfl Try.underlying38 dh rfl (by decide) (by omega) u3 (x1 ++ bB s) [kx] jb 1 jc (fun _ => True) (fun _ => False) rfl rfl (Sat.sr jm.out 0 rfl) (Kd.dW (Sat.sr jm.out 3 rfl)).2.2 (fun _ _ h => h) (fun _ h => h.elim) (fun _ _ => trivial) kF.out (kF.out).size (by have := HZ3.out; (try simp only [List.length_singleton]); omega) ?_
       intro Lx Gc ho hb hg hat
       have oQ := A_ hb
       have lV := A_ (Sat.app 0 jm.out rfl ho hg hat)
       clear ho hb hg hat
       refine hK.out _ _ ⟨(HN.out.below oQ.out).z1, (Below.cell oQ.out (World.block_lt_of_cell? w0 _ nM.out)).trans nM.out⟩ (fun hHeld => ?_)
       clear hK K
       refine eF 39 ?_
       exact EW (jQ ⟨.slice jb 1 jc, Lx, .slice jd 1 je⟩ _ ⟨oQ.out, Sat.sub lV.out (by simp)⟩)
     rintro ⟨vb1, Lx, rH⟩ w8 ⟨hb, hs⟩
     obtain ⟨jd, je, rfl⟩ : ∃ A c, rH = .slice A 1 c := Kd.av (Sat.sr hs 2 rfl)
     have hHeld : (w8.cell? ⟨p, 1, none⟩ = some (.slice (some IA) t.vals.length cv)) /\ (w8.cell? (IA.add i) = some (.string vx)) := ⟨(HN.out.below hb).z1, (Below.cell hb (World.block_lt_of_cell? w0 _ nM.out)).trans nM.out⟩
     have EY := A_ hb
     have Ci := A_ hs
     clear hb hs
     refine dG (a' := ?_) ?_ ?_
     rotate_left
     ·simp only [bz, Act.put, List.setIfInBounds_toArray, List.set_cons_zero, List.set_cons_succ]
      rfl
     refine jg 13 (some 49) 16383 (fun K hK => ?_)
     refine Kd.aJ Kd.string (w0 := w0) w0.heap.size (by rfl) (.tmp 40) (.tmp 48) 38 9 (.string ⟨#[]⟩) 16 rfl Try.underlying38 dh rfl (by decide) (by omega) u4 (x2 ++ dL s) [vx] jd 1 je (fun _ => True) (fun _ => False) rfl rfl (Sat.sr Ci.out 1 rfl) (Kd.dW (Sat.sr Ci.out 2 rfl)).2.2 (fun _ _ h => h) (fun _ h => h.elim) (fun _ _ => trivial) EY.out EY.out.size (by have := WS.out; (try simp only [List.length_singleton]); omega) ?_
     intro u2n w9 ho hb hg hat
     have aj := A_ hb
     have az := A_ (Sat.app 1 Ci.out rfl ho hg hat)
     clear ho hb hg hat EY Ci
     have EY := aj
     have Ci := az
     clear aj az
     refine hK.out _ _ ⟨(HN.out.below EY.out).z1, (Below.cell EY.out (World.block_lt_of_cell? w0 _ nM.out)).trans nM.out⟩ (fun hHeld => ?_)
     clear hK K
     refine eF 49 ?_
     refine aV 14 1 32767 ?_
     refine aV 15 2 65535 ?_
     refine fu (by kernel_rfl) ?_
     go_wp2
     go_roundg (t.keys.length - (i + 1))
     case measure => have := HK.out; have := HI.out; omega
     case rel => exact ⟨i + 1, _, _, by first | rfl | go_num | (simp; done), ⟨by have := HK.out; have := HI.out; omega⟩, nQ, HE2, ⟨Sat.sr Ci.out 0 rfl⟩, ⟨Sat.sr Ci.out 1 rfl⟩, ⟨Sat.Yc Ci.out (i := 0) (j := 1) (by omega) rfl rfl⟩, EY⟩
   ·have ce := kT ((i : Int) < (t.keys.length : Int))
    have xL : (i < t.keys.length) = False := eq_false hi
    obtain rfl : i = t.keys.length := by have := HK.out; omega
    by_cases h0 : t.kids.length = 0
    ·have hbl := A_ (show decide ((t.kids.length : Int) = 0) = true from decide_eq_true (by omega))
     have nQ := show x1 = L1 by have := uh.out; rw [<- HR1.out, qg (by omega) (by omega), List.append_nil]
     have HE2 := show x2 = L2 by have := uh.out; rw [<- HR2.out, qh (by omega) (by omega), List.append_nil]
     subst nQ
     subst HE2
     clear hi
     go_wp2_with ((go_at_call 99; (with_reducible refine (gL.dA true hbl.out _ ?aD).mono ?_); (case aD => exact PL.out); rintro e w6 ⟨rfl, hd⟩; have aj := A_ (HB.out.trans (lJ hd)); have hz0' := (HN.out.below aj.out).z0; have hz2' := (HN.out.below aj.out).z2; have az := A_ (SR.under kY.out (fw hd)); have jG := A_ (SR.under lH.out (fw hd)); clear hd; clear HB; clear kY; clear lH; have HB := aj; have kY := az; have lH := jG; clear aj az jG))
     go_ret2
     exact ⟨_, _, rfl, kY.out, lH.out, o7.out, HB.out⟩
    ·have hbl := A_ (show decide ((t.kids.length : Int) = 0) = false from decide_eq_false (by omega))
     have hkl : t.kids.length = t.keys.length + 1 := uh.out.2.2.resolve_left h0
     obtain ⟨adc, q, s, rfl, hc0, hs, hrs⟩ := HN.out.kid (t.keys.length : Int) (by omega) (by omega)
     rw [Int.toNat_natCast] at hc0 hs
     have HS := A_ hs
     have QA := A_ hrs
     have rG := A_ hc0
     have WQ := kZ ((t.keys.length : Int) < (t.kids.length : Int))
     have hcb := dJ (t.keys.length < t.kids.length)
     have e1 := zt hs (Nat.le_refl _) hkl
     have e2 := zu hs (by have := uh.out; omega) hkl
     have nQ := show x1 ++ bB s = L1 by rw [<- HR1.out, e1, qg (by omega) (by omega), List.append_nil]
     have HE2 := show x2 ++ dL s = L2 by have := uh.out; rw [<- HR2.out, e2, qh (by omega) (by omega), List.append_nil]
     have HZ1 := A_ (show (x1 ++ bB s).length <= 8796093022208 by rw [nQ]; exact Ch.out)
     have HZ2 := A_ (show (x2 ++ dL s).length <= 8796093022208 by rw [HE2]; exact HL2.out)
     subst nQ
     subst HE2
     clear hi e1 e2 hkl hs hrs hc0 h0 HR1 HR2
     go_wp2_with ((go_at_call 99; (with_reducible refine (gL.dA false hbl.out _ ?aD).mono ?_); (case aD => exact PL.out); rintro e w6 ⟨rfl, hd⟩; have aj := A_ (HB.out.trans (lJ hd)); have hz0 := (HN.out.below aj.out).z0; have hz2 := (HN.out.below aj.out).z2; have az := A_ (SR.under kY.out (fw hd)); have jG := A_ (SR.under lH.out (fw hd)); have hzc := (Below.cell aj.out (World.block_lt_of_cell? w0 _ rG.out)).trans rG.out; clear hd; clear HB; clear kY; clear lH; have HB := aj; have kY := az; have lH := jG; clear aj az jG))
     have QB := HB
     refine dz (n := 19) (S := fun w' => w'.cell? ⟨p, 2, none⟩ = some (.slice (some adc) t.kids.length cc) /\ w'.cell? ⟨p, 0, none⟩ = some (.slice Ak t.keys.length ck) /\ w'.cell? (adc.add t.keys.length) = some (bG q)) (ds := [13]) (bt 19 0) (by kernel_rfl) rfl rfl ⟨hz2, hz0, hzc⟩ (fun hHeld => ?_)
     refine aV 0 55 1 ?_
     refine aV 1 56 3 ?_
     refine aV 2 57 7 ?_
     refine aV 4 59 23 ?_
     refine aV 5 60 55 ?_
     refine aV 6 61 119 ?_
     refine aV 11 66 2167 ?_
     refine aV 12 67 6263 ?_
     refine ik 3 58 6271 hHeld ?_
     refine ik 7 62 6399 hHeld ?_
     refine aV 8 63 6655 ?_
     refine aV 9 64 7167 ?_
     refine ik 10 65 8191 hHeld ?_
     refine wW 13 (some 68) 16383 (fun K hK => ?_)
     refine uj Try.func66 #[bG q, u1, u2] ?_
     with_reducible refine (ih s (by have := PT.gT HS.out; have := EX.out; omega) (HF.out.kid HS.out) w0 _ u1 u2 x1 x2 QA.out (aH QB.out) (SR.under kY.out (aH (Below.refl _ _))) (SR.under lH.out (aH (Below.refl _ _))) o7.out HZ1.out HZ2.out).mono ?_
     rintro e w5 ⟨u3, u4, rfl, ho1, ho2, hne, hb⟩
     refine ⟨_, rfl, ?_⟩
     have aj := A_ ho1
     have az := A_ ho2
     have jG := A_ hne
     have nG := A_ hb
     clear ho1 ho2 hne hb
     refine hK.out _ _ ?_
     clear hK K
     refine eF 68 ?_
     refine aV 14 54 32767 ?_
     refine aV 15 69 65535 ?_
     refine aV 16 70 131071 ?_
     refine aV 17 1 262143 ?_
     refine aV 18 2 524287 ?_
     refine fu (by kernel_rfl) ?_
     go_wp2
     go_ret2
     exact ⟨_, _, rfl, aj.out, az.out, jG.out, nG.out⟩
open Go.Proofs.Ytoddejmlcnbdmaa.Fn
theorem tL {p0 q : Prop} (h0 : p0) (h : p0 -> q := by intro p9; repeat (first | exact p9 | (with_reducible refine Rd.drewN ?_ _) | (with_reducible refine Rd.drew ?_))) : q := h h0
set_option maxHeartbeats 8000000
set_option maxRecDepth 100000
theorem mq.calls : ∀ (n : Nat) (t : PT), SizeOf.sizeOf t <= n -> Ho t -> ∀ {p : Nat} (w : World), Rd 96 w p t ->
  Calls Try.prog 61 #[bG p] w fun e w' => e = .returned (.int .i64 (fP t)) /\ ay w w' := by
 intro n
 induction n with
 | zero =>
  intro t hs
  cases t with | mk keys vals kids => simp at hs
 | succ n ih =>
  intro t hs hf p w h
  by_cases h0 : t.kids.length = 0
  ·have HO := A_ h
   have HE := A_ (ze h0)
   have hb0 := A_ (show decide ((t.kids.length : Int) = 0) = true from decide_eq_true (by omega))
   clear h h0
   go_enter Try.func61, Try.ntmps61
   go_wp2_with (go_at_call 84; (with_reducible refine (bY.dA true hb0.out _ ?aD).mono ?_); (case aD => exact tL HO.out); rintro e w' ⟨rfl, ⟨nd, rfl⟩⟩)
   go_ret
   exact ⟨by rw [HE.out]; first | done | rfl, by repeat (first | exact ay.refl _ | apply ay.step)⟩
  ·have HO := A_ h
   have hb0 := A_ (show decide ((t.kids.length : Int) = 0) = false from decide_eq_false (by omega))
   obtain ⟨Ak, ck, Av, cv, Ac, cc, ps, HN⟩ := h.open
   have hz2 := HN.z2
   obtain ⟨ad, q0, c, rfl, hz0, hs0, ho0⟩ := HN.kid 0 (by omega) (by omega)
   have H0 := A_ ho0
   have hS := A_ (PT.gT hs0)
   have HC := A_ hs0
   have WT := A_ HN
   have HF := A_ hf
   have EX := A_ hs
   have HL := A_ (show 0 < t.kids.length by omega)
   have HE := A_ (zf hs0)
   have hz0' : w.cell? ad = some (bG q0) := Yh hz0
   have p0b : (0 < t.kids.length) = True := eq_true HL.out
   clear h h0 hz0 hs0 ho0 HN hf hs
   go_enter Try.func61, Try.ntmps61
   go_upto_region 5 with (first | (go_at_call 84; (with_reducible refine (bY.dA false hb0.out _ ?aD).mono ?_); (case aD => exact tL HO.out); rintro e w' ⟨rfl, ⟨nd, rfl⟩⟩) | (go_at_call 61; (with_reducible refine (ih c (by have := hS.out; have := EX.out; omega) (HF.out.kid HC.out) _ ?aD).mono ?_); (case aD => exact tL H0.out); rintro e w' ⟨rfl, ⟨nd, rfl⟩⟩))
   generalize fP c = d at HE
   go_loopg [20] t.kids.length (fun kq v20 w' => ∃ (i m : Nat), v20 = .int .i64 (i : Int) /\ af (kq + i = t.kids.length) /\ af (fP t = if nO d (t.kids.drop i) then wrap64 (d + 1) else -1) /\ w' = w.drewN m)
   case atStart => exact ⟨0, _, by first | rfl | (simp; done), ⟨Nat.add_zero _⟩, HE, rfl⟩
   case round =>
    clear HE H0 HC hz0' hS
    obtain ⟨i, m, rfl, HK, HE, rfl⟩ := hrel
    by_cases hi : i < t.kids.length
    ·obtain ⟨V6, q, s, ha, hz, hs, ho⟩ := WT.out.kid i (by omega) (by omega)
     obtain rfl : ad = V6 := Option.some.inj ha
     rw [Int.toNat_natCast] at hz hs
     obtain ⟨y7, ck1, oo, mi, U5, Ug, ps1, ND⟩ := ho.open
     have OU := ND.z0
     have HS := A_ hs
     have H1 := A_ ho
     have HI := A_ hi
     have ce := kZ ((i : Int) < (t.kids.length : Int))
     have cea := dJ ((i : Int) < (t.kids.length : Int))
     have xL : (i < t.kids.length) = True := eq_true hi
     have cec := dJ (0 <= (i : Int))
     clear ND ho hs hi ha
     by_cases hd : d < 0
     ·have V5 : decide (d < 0) = true := decide_eq_true hd
      have nQ := A_ (wX HS.out HE.out (.inl hd))
      clear hd
      go_wp2
      go_ret
      exact ⟨by rw [nQ.out]; first | done | rfl, by repeat (first | exact ay.refl _ | apply ay.step | exact ⟨_, rfl⟩)⟩
     ·have V5 : decide (d < 0) = false := decide_eq_false hd
      have HD := A_ hd
      clear hd
      by_cases he : fP s = d
      ·subst he
       by_cases hk : s.keys.length < 2
       ·have nQ := A_ (wX HS.out HE.out (.inr (.inr hk)))
        have hkb := kZ ((s.keys.length : Int) < 2)
        clear hk
        go_wp2_with (go_at_call 61; (with_reducible refine (ih s (by have := PT.gT HS.out; have := EX.out; omega) (HF.out.kid HS.out) _ ?aD).mono ?_); (case aD => exact tL H1.out); rintro e w' ⟨rfl, ⟨nd, rfl⟩⟩)
        go_ret
        exact ⟨by rw [nQ.out]; first | done | rfl, by repeat (first | exact ay.refl _ | apply ay.step | exact ⟨_, rfl⟩)⟩
       ·have nQ := A_ (Mi HS.out HE.out HD.out rfl hk)
        have hkb := kT ((s.keys.length : Int) < 2)
        clear hk
        have hm : t.kids.length <= 1048576 := HF.out.len
        have hj : i < t.kids.length := HI.out
        go_wp2_with (go_at_call 61; (with_reducible refine (ih s (by have := PT.gT HS.out; have := EX.out; omega) (HF.out.kid HS.out) _ ?aD).mono ?_); (case aD => exact tL H1.out); rintro e w' ⟨rfl, ⟨nd, rfl⟩⟩)
        go_roundg (t.kids.length - (i + 1))
        case measure => have := HK.out; omega
        case rel => exact ⟨i + 1, _, by first | rfl | go_num | (simp; done), ⟨by omega⟩, nQ, rfl⟩
      ·have nQ := A_ (wX HS.out HE.out (.inr (.inl he)))
       have heb : (fP s != d) = true := by simpa using he
       clear he
       go_wp2_with (go_at_call 61; (with_reducible refine (ih s (by have := PT.gT HS.out; have := EX.out; omega) (HF.out.kid HS.out) _ ?aD).mono ?_); (case aD => exact tL H1.out); rintro e w' ⟨rfl, ⟨nd, rfl⟩⟩)
       go_ret
       exact ⟨by rw [nQ.out]; first | done | rfl, by repeat (first | exact ay.refl _ | apply ay.step | exact ⟨_, rfl⟩)⟩
    ·have ce := kT ((i : Int) < (t.kids.length : Int))
     have xL : (i < t.kids.length) = False := eq_false (by omega)
     have nQ := A_ (Kz (by omega) HE.out)
     clear hi
     go_wp2
     go_ret
     exact ⟨by rw [nQ.out]; first | rfl | simp [uA] | simp [IntKind.wrap_i64, wrap64], by repeat (first | exact ay.refl _ | apply ay.step | exact ⟨_, rfl⟩)⟩
end Go.Proofs.Ytoddejmlcnbdmaa.Tree
namespace Go.Proofs.Ytoddejmlcnbdmaa.Fn
def cmp_isNaN_string.f (a0 : ByteArray) : Option (Bool) := some (a0.toList != a0.toList)
theorem cmp_isNaN_string.calls (a0 : ByteArray) (r : Bool) (w : World) (h : cmp_isNaN_string.f a0 = some r) :
  Calls Try.prog 135 #[.string a0] w fun e w' => e = .returned (.bool r) /\ ay w w' := by
 have H : (some (a0.toList != a0.toList)) = some r := h
 clear h
 obtain rfl := Option.some.inj H
 go_enter Try.func135, Try.ntmps135
 go_wp2
 go_ret
 exact ⟨by first | rfl | (simp; done) | (simp [*]; done), by repeat (first | exact ay.refl _ | apply ay.step)⟩
def cmp_Less_string.f (a0 : ByteArray) (a1 : ByteArray) : Option (Bool) := (cmp_isNaN_string.f a0).bind fun LA => (if LA = true then ((cmp_isNaN_string.f a1).bind fun Cj => (if Cj = true then (some (Op.bytesLess a0.toList a1.toList)) else (some true))) else (some (Op.bytesLess a0.toList a1.toList)))
theorem cmp_Less_string.calls (a0 : ByteArray) (a1 : ByteArray) (r : Bool) (w : World) (h : cmp_Less_string.f a0 a1 = some r) :
  Calls Try.prog 122 #[.string a0, .string a1] w fun e w' => e = .returned (.bool r) /\ ay w w' := by
 have H : ((cmp_isNaN_string.f a0).bind fun LA => (if LA = true then ((cmp_isNaN_string.f a1).bind fun Cj => (if Cj = true then (some (Op.bytesLess a0.toList a1.toList)) else (some true))) else (some (Op.bytesLess a0.toList a1.toList)))) = some r := h
 clear h
 replace H := Option.bind_eq_some_iff.mp H
 obtain ⟨LA, vH, H⟩ := H
 replace H : (if LA = true then ((cmp_isNaN_string.f a1).bind fun Cj => (if Cj = true then (some (Op.bytesLess a0.toList a1.toList)) else (some true))) else (some (Op.bytesLess a0.toList a1.toList))) = some r := H
 have A3 := A_ vH
 clear vH
 by_cases c4 : LA = true
 ·subst c4
  have H1 : ((cmp_isNaN_string.f a1).bind fun Cj => (if Cj = true then (some (Op.bytesLess a0.toList a1.toList)) else (some true))) = some r := by rw [if_pos rfl] at H; exact H
  clear H
  have H := H1
  clear H1
  replace H := Option.bind_eq_some_iff.mp H
  obtain ⟨Cj, NF, H⟩ := H
  replace H : (if Cj = true then (some (Op.bytesLess a0.toList a1.toList)) else (some true)) = some r := H
  have A5 := A_ NF
  clear NF
  by_cases c6 : Cj = true
  ·subst c6
   have H1 : (some (Op.bytesLess a0.toList a1.toList)) = some r := by rw [if_pos rfl] at H; exact H
   clear H
   have H := H1
   clear H1
   obtain rfl := Option.some.inj H
   go_enter Try.func122, Try.ntmps122
   go_wp2_with (first | ((with_reducible refine bW (f := 135) rfl ?_); refine iw (some 6) rfl rfl Try.func135 (by kernel_rfl) rfl #[.string a0] rfl (BM) ?_; (with_reducible refine (cmp_isNaN_string.calls a0 true _ A3.out).mono ?_); rintro e w' ⟨rfl, ⟨nd, rfl⟩⟩; refine ⟨_, rfl, ?_⟩) | (go_at_call 135; (with_reducible refine (cmp_isNaN_string.calls a1 true _ A5.out).mono ?_); rintro e w' ⟨rfl, ⟨nd, rfl⟩⟩))
   go_ret
   exact ⟨by first | rfl | (simp only [Go.Proofs.Ytoddejmlcnbdmaa.Gen.nT, Go.Proofs.Ytoddejmlcnbdmaa.Gen.qK]; first | done | rfl | (simp; done)) | (simp; done) | (simp [*]; done), by repeat (first | exact ay.refl _ | apply ay.step)⟩
  ·replace c6 := Bool.eq_false_iff.mpr c6
   subst c6
   have H1 : (some true) = some r := by rw [if_neg (show ¬ (false = true) by decide)] at H; exact H
   clear H
   have H := H1
   clear H1
   obtain rfl := Option.some.inj H
   go_enter Try.func122, Try.ntmps122
   go_wp2_with (first | ((with_reducible refine bW (f := 135) rfl ?_); refine iw (some 6) rfl rfl Try.func135 (by kernel_rfl) rfl #[.string a0] rfl (BM) ?_; (with_reducible refine (cmp_isNaN_string.calls a0 true _ A3.out).mono ?_); rintro e w' ⟨rfl, ⟨nd, rfl⟩⟩; refine ⟨_, rfl, ?_⟩) | (go_at_call 135; (with_reducible refine (cmp_isNaN_string.calls a1 false _ A5.out).mono ?_); rintro e w' ⟨rfl, ⟨nd, rfl⟩⟩))
   go_ret
   exact ⟨by first | rfl | (simp only [Go.Proofs.Ytoddejmlcnbdmaa.Gen.nT, Go.Proofs.Ytoddejmlcnbdmaa.Gen.qK]; first | done | rfl | (simp; done)) | (simp; done) | (simp [*]; done), by repeat (first | exact ay.refl _ | apply ay.step)⟩
 ·replace c4 := Bool.eq_false_iff.mpr c4
  subst c4
  have H1 : (some (Op.bytesLess a0.toList a1.toList)) = some r := by rw [if_neg (show ¬ (false = true) by decide)] at H; exact H
  clear H
  have H := H1
  clear H1
  obtain rfl := Option.some.inj H
  go_enter Try.func122, Try.ntmps122
  go_wp2_with (first | ((with_reducible refine bW (f := 135) rfl ?_); refine iw (some 6) rfl rfl Try.func135 (by kernel_rfl) rfl #[.string a0] rfl (BM) ?_; (with_reducible refine (cmp_isNaN_string.calls a0 false _ A3.out).mono ?_); rintro e w' ⟨rfl, ⟨nd, rfl⟩⟩; refine ⟨_, rfl, ?_⟩))
  go_ret
  exact ⟨by first | rfl | (simp only [Go.Proofs.Ytoddejmlcnbdmaa.Gen.nT, Go.Proofs.Ytoddejmlcnbdmaa.Gen.qK]; first | done | rfl | (simp; done)) | (simp; done) | (simp [*]; done), by repeat (first | exact ay.refl _ | apply ay.step)⟩
def slices_isNaN_string.f (a0 : ByteArray) : Option (Bool) := some (a0.toList != a0.toList)
theorem slices_isNaN_string.calls (a0 : ByteArray) (r : Bool) (w : World) (h : slices_isNaN_string.f a0 = some r) :
  Calls Try.prog 123 #[.string a0] w fun e w' => e = .returned (.bool r) /\ ay w w' := by
 have H : (some (a0.toList != a0.toList)) = some r := h
 clear h
 obtain rfl := Option.some.inj H
 go_enter Try.func123, Try.ntmps123
 go_wp2
 go_ret
 exact ⟨by first | rfl | (simp; done) | (simp [*]; done), by repeat (first | exact ay.refl _ | apply ay.step)⟩
def ag.l0 : Nat -> List ByteArray -> ByteArray -> Int -> Int -> Int -> Option (Int × Bool)
 | 0, _, _, _, _, _ => none
 | k + 1, x0, x1, x6, x7, x8 => if x7 < x8 then (if 0 <= (wrap64 ((IntKind.u64.wrap (wrap64 (x7 + x8))) / 2)) then (if (wrap64 ((IntKind.u64.wrap (wrap64 (x7 + x8))) / 2)) < (x0.length : Int) then ((cmp_Less_string.f (bI ByteArray.empty x0 (wrap64 ((IntKind.u64.wrap (wrap64 (x7 + x8))) / 2))) x1).bind fun LB => (if LB = true then (ag.l0 k x0 x1 x6 (wrap64 ((wrap64 ((IntKind.u64.wrap (wrap64 (x7 + x8))) / 2)) + 1)) x8) else (ag.l0 k x0 x1 x6 x7 (wrap64 ((IntKind.u64.wrap (wrap64 (x7 + x8))) / 2))))) else (none)) else (none)) else (if x7 < x6 then (if 0 <= x7 then (if x7 < (x0.length : Int) then (if (bI ByteArray.empty x0 x7).toList = x1.toList then (some (x7, true)) else ((slices_isNaN_string.f (bI ByteArray.empty x0 x7)).bind fun PN => (if PN = true then ((slices_isNaN_string.f x1).bind fun Gg => (some (x7, Gg))) else (some (x7, false))))) else (none)) else (none)) else (some (x7, false)))
def ag.f (k : Nat) (l0 : List ByteArray) (a1 : ByteArray) : Option (Int × Bool) := ag.l0 k l0 a1 (l0.length : Int) 0 (l0.length : Int)
theorem ag.r9 : ∀ k, (∀ y0 y1 y2 y3 y4, jY (ag.l0 k y0 y1 y2 y3 y4) (ag.l0 (k + 1) y0 y1 y2 y3 y4))
 | 0 => fun _ _ _ _ _ r h => by simp [ag.l0] at h
 | k + 1 => by
  have NG := ag.r9 k
  ·intro y0 y1 y2 y3 y4
   unfold ag.l0
   repeat' (with_reducible first | exact NG _ _ _ _ _ | exact jY.refl _ | exact jY.none _ | refine jY.ite ?_ ?_ | refine jY.bind ?_ (fun _ => ?_))
theorem ag.mono : ∀ a0 a1 k, jY (ag.f k a0 a1) (ag.f (k + 1) a0 a1) := by
 intro a0 a1 k
 have NG := ag.r9 k
 unfold ag.f
 repeat' (with_reducible first | exact NG _ _ _ _ _ | exact jY.refl _ | exact jY.none _ | refine jY.ite ?_ ?_ | refine jY.bind ?_ (fun _ => ?_))
theorem ag.calls (k : Nat) (A0 : Option Addr) (c0 : Nat) (l0 : List ByteArray) (a1 : ByteArray) (r1 : Int) (r2 : Bool) (w : World) (hr0 : Kd.C Kd.string w A0 l0.length l0) (hc0 : l0.length <= c0) (h : ag.f k l0 a1 = some (r1, r2)) :
  Calls Try.prog 103 #[.slice A0 l0.length c0, .string a1] w fun e w' => e = .returned (.tuple #[.int .i64 r1, .bool r2]) /\ ay w w' := by
 have mV := A_ hr0
 have rG := A_ hc0
 clear hr0 hc0
 have H : (ag.l0 k l0 a1 (l0.length : Int) 0 (l0.length : Int)) = some (r1, r2) := h
 clear h
 have H' := A_ H
 clear H
 go_enter Try.func103, Try.ntmps103
 go_wp2
 go_loopg [7, 8] k (fun kq v7 v8 w' => ∃ (bV : Int) (jo : Int), v7 = .int .i64 bV /\ v8 = .int .i64 jo /\ af (ag.l0 kq l0 a1 (l0.length : Int) bV jo = some (r1, r2)) /\ af (kq <= k) /\ ay w w')
 case atStart => exact ⟨(0), ((l0.length : Int)), (by first | rfl | (simp; done) | (simp [*]; done)), (by first | rfl | (simp; done) | (simp [*]; done)), H', ⟨Nat.le_refl _⟩, by repeat (first | exact ay.refl _ | apply ay.step)⟩
 case round =>
  clear H'
  (try clear c1); (try clear p2)
  obtain ⟨bV, jo, rfl, rfl, HA, yJ, ⟨m1, rfl⟩⟩ := hrel
  cases gk with
  | zero => exact absurd HA.out (by simp [ag.l0])
  | succ k1 =>
   have H := HA.out
   clear HA
   simp only [ag.l0] at H
   by_cases c3 : bV < jo
   ·rw [if_pos c3] at H
    have sP : decide (bV < jo) = true := decide_eq_true c3
    clear c3
    obtain ⟨yg, IG⟩ : ∃ j_ : Int, (wrap64 ((IntKind.u64.wrap (wrap64 (bV + jo))) / 2)) = j_ := ⟨_, rfl⟩
    replace H : (if 0 <= (yg) then (if (yg) < (l0.length : Int) then ((cmp_Less_string.f (bI ByteArray.empty l0 (yg)) a1).bind fun LB => (if LB = true then (ag.l0 k1 l0 a1 (l0.length : Int) (wrap64 ((yg) + 1)) jo) else (ag.l0 k1 l0 a1 (l0.length : Int) bV yg))) else (none)) else (none)) = some (r1, r2) := by first | (rw [IG] at H; exact H) | (simp only [IG] at H ⊢; exact H)
    have hji4w : (IntKind.i64.wrap ((IntKind.u64.wrap (wrap64 (bV + jo))) / 2)) = yg := (uA _).trans IG
    by_cases c5 : 0 <= (yg)
    ·rw [if_pos c5] at H
     have EC : decide (0 <= (yg)) = true := decide_eq_true c5
     clear c5
     by_cases c6 : (yg) < (l0.length : Int)
     ·rw [if_pos c6] at H
      have c6b0 : decide ((yg) < (l0.length : Int)) = true := decide_eq_true c6
      clear c6
      replace H := Option.bind_eq_some_iff.mp H
      obtain ⟨LB, U6, H⟩ := H
      replace H : (if LB = true then (ag.l0 k1 l0 a1 (l0.length : Int) (wrap64 ((yg) + 1)) jo) else (ag.l0 k1 l0 a1 (l0.length : Int) bV yg)) = some (r1, r2) := H
      have A7 := A_ U6
      clear U6
      by_cases c8 : LB = true
      ·subst c8
       have H1 : (ag.l0 k1 l0 a1 (l0.length : Int) (wrap64 ((yg) + 1)) jo) = some (r1, r2) := by rw [if_pos rfl] at H; exact H
       clear H
       have H := H1
       clear H1
       have H' := A_ H
       clear H
       have II : 0 <= ((yg) : Int) := of_decide_eq_true iL
       have IJ : (yg) < (l0.length : Int) := of_decide_eq_true iL
       obtain ⟨ad239, RZ, hx239_0⟩ := Kd.bF mV.out (yg) II IJ
       cases RZ
       replace II := eq_true II
       replace IJ := eq_true IJ
       go_wp2_with (first | ((with_reducible refine bW (f := 122) rfl ?_); refine iw (some 27) rfl rfl Try.func122 (by kernel_rfl) rfl #[.string (bI ByteArray.empty l0 (yg)), .string a1] rfl (by (try simp only [List.map_toArray, List.map_cons, List.map_nil]); first | done | (simp only [IG]; rfl) | rfl | (simp only [List.length_drop, List.length_take]; rfl)) ?_; (with_reducible refine (cmp_Less_string.calls (bI ByteArray.empty l0 (yg)) a1 true _ A7.out).mono ?_); rintro e w' ⟨rfl, ⟨nd, rfl⟩⟩; refine ⟨_, rfl, ?_⟩))
       go_roundg k1
       case measure => have := yJ.out; omega
       case rel => exact ⟨(wrap64 ((yg) + 1)), (jo), (by first | rfl | (simp; done) | (simp only [<- IG] <;> (first | rfl | simp)) | (simp [*]; done)), (by first | rfl | (simp; done) | (simp [*]; done)), H', ⟨by have := yJ.out; omega⟩, by repeat (first | exact ay.refl _ | apply ay.step)⟩
      ·replace c8 := Bool.eq_false_iff.mpr c8
       subst c8
       have H1 : (ag.l0 k1 l0 a1 (l0.length : Int) bV yg) = some (r1, r2) := by rw [if_neg (show ¬ (false = true) by decide)] at H; exact H
       clear H
       have H := H1
       clear H1
       have H' := A_ H
       clear H
       have II : 0 <= ((yg) : Int) := of_decide_eq_true iL
       have IJ : (yg) < (l0.length : Int) := of_decide_eq_true iL
       obtain ⟨ad239, RZ, hx239_0⟩ := Kd.bF mV.out (yg) II IJ
       cases RZ
       replace II := eq_true II
       replace IJ := eq_true IJ
       go_wp2_with (first | ((with_reducible refine bW (f := 122) rfl ?_); refine iw (some 27) rfl rfl Try.func122 (by kernel_rfl) rfl #[.string (bI ByteArray.empty l0 (yg)), .string a1] rfl (by (try simp only [List.map_toArray, List.map_cons, List.map_nil]); first | done | (simp only [IG]; rfl) | rfl | (simp only [List.length_drop, List.length_take]; rfl)) ?_; (with_reducible refine (cmp_Less_string.calls (bI ByteArray.empty l0 (yg)) a1 false _ A7.out).mono ?_); rintro e w' ⟨rfl, ⟨nd, rfl⟩⟩; refine ⟨_, rfl, ?_⟩))
       go_roundg k1
       case measure => have := yJ.out; omega
       case rel => exact ⟨(bV), (yg), (by first | rfl | (simp; done) | (simp [*]; done)), (by first | rfl | (simp; done) | (simp only [<- IG] <;> (first | rfl | simp)) | (simp [*]; done)), H', ⟨by have := yJ.out; omega⟩, by repeat (first | exact ay.refl _ | apply ay.step)⟩
     ·rw [if_neg c6] at H
      exact absurd H (by simp)
    ·rw [if_neg c5] at H
     exact absurd H (by simp)
   ·rw [if_neg c3] at H
    have sP : decide (bV < jo) = false := decide_eq_false c3
    clear c3
    by_cases c9 : bV < (l0.length : Int)
    ·rw [if_pos c9] at H
     have PO : decide (bV < (l0.length : Int)) = true := decide_eq_true c9
     clear c9
     by_cases c10 : 0 <= bV
     ·rw [if_pos c10] at H
      have c10b0 : decide (0 <= bV) = true := decide_eq_true c10
      clear c10
      by_cases c11 : bV < (l0.length : Int)
      ·rw [if_pos c11] at H
       have c11b0 : decide (bV < (l0.length : Int)) = true := decide_eq_true c11
       clear c11
       by_cases c12 : (bI ByteArray.empty l0 bV).toList = a1.toList
       ·rw [if_pos c12] at H
        have c12b0 : ((bI ByteArray.empty l0 bV).toList == a1.toList) = true := beq_iff_eq.mpr c12
        have c12b1 : ((bI ByteArray.empty l0 bV).toList != a1.toList) = false := bne_eq_false_iff_eq.mpr c12
        clear c12
        simp only [Option.some.injEq, Prod.mk.injEq] at H
        obtain ⟨rfl, rfl⟩ := H
        have Bn : 0 <= (bV : Int) := of_decide_eq_true iL
        have Bo : bV < (l0.length : Int) := of_decide_eq_true iL
        obtain ⟨Ke, e241, hx241_0⟩ := Kd.bF mV.out bV Bn Bo
        cases e241
        replace Bn := eq_true Bn
        replace Bo := eq_true Bo
        go_wp2
        go_ret2
        exact ⟨by first | rfl | (simp; done) | (simp [*]; done), by repeat (first | exact ay.refl _ | apply ay.step)⟩
       ·rw [if_neg c12] at H
        have c12b0 : ((bI ByteArray.empty l0 bV).toList == a1.toList) = false := beq_eq_false_iff_ne.mpr c12
        have c12b1 : ((bI ByteArray.empty l0 bV).toList != a1.toList) = true := bne_iff_ne.mpr c12
        replace H := Option.bind_eq_some_iff.mp H
        obtain ⟨PN, A130, H⟩ := H
        replace H : (if PN = true then ((slices_isNaN_string.f a1).bind fun Gg => (some (bV, Gg))) else (some (bV, false))) = some (r1, r2) := H
        have A13 := A_ A130
        clear A130
        by_cases c14 : PN = true
        ·subst c14
         have H1 : ((slices_isNaN_string.f a1).bind fun Gg => (some (bV, Gg))) = some (r1, r2) := by rw [if_pos rfl] at H; exact H
         clear H
         have H := H1
         clear H1
         replace H := Option.bind_eq_some_iff.mp H
         obtain ⟨Gg, A150, H⟩ := H
         replace H : (some (bV, Gg)) = some (r1, r2) := H
         have WU := A_ A150
         clear A150
         simp only [Option.some.injEq, Prod.mk.injEq] at H
         obtain ⟨rfl, rfl⟩ := H
         have Bn : 0 <= (bV : Int) := of_decide_eq_true iL
         have Bo : bV < (l0.length : Int) := of_decide_eq_true iL
         obtain ⟨Ke, e241, hx241_0⟩ := Kd.bF mV.out bV Bn Bo
         cases e241
         replace Bn := eq_true Bn
         replace Bo := eq_true Bo
         have IK : 0 <= (bV : Int) := of_decide_eq_true iL
         have IL : bV < (l0.length : Int) := of_decide_eq_true iL
         obtain ⟨NH, e242, hx242_0⟩ := Kd.bF mV.out bV IK IL
         obtain rfl : Ke = NH := (by injection e242)
         replace IK := eq_true IK
         replace IL := eq_true IL
         go_wp2_with (first | (go_at_call 123; (with_reducible refine (slices_isNaN_string.calls (bI ByteArray.empty l0 bV) true _ A13.out).mono ?_); rintro e w' ⟨rfl, ⟨nd, rfl⟩⟩) | (go_at_call 123; (with_reducible refine (slices_isNaN_string.calls a1 Gg _ WU.out).mono ?_); rintro e w' ⟨rfl, ⟨nd, rfl⟩⟩))
         go_ret2
         exact ⟨by first | rfl | (simp; done) | (simp [*]; done), by repeat (first | exact ay.refl _ | apply ay.step)⟩
        ·replace c14 := Bool.eq_false_iff.mpr c14
         subst c14
         have H1 : (some (bV, false)) = some (r1, r2) := by rw [if_neg (show ¬ (false = true) by decide)] at H; exact H
         clear H
         have H := H1
         clear H1
         simp only [Option.some.injEq, Prod.mk.injEq] at H
         obtain ⟨rfl, rfl⟩ := H
         have Bn : 0 <= (bV : Int) := of_decide_eq_true iL
         have Bo : bV < (l0.length : Int) := of_decide_eq_true iL
         obtain ⟨Ke, e241, hx241_0⟩ := Kd.bF mV.out bV Bn Bo
         cases e241
         replace Bn := eq_true Bn
         replace Bo := eq_true Bo
         have IK : 0 <= (bV : Int) := of_decide_eq_true iL
         have IL : bV < (l0.length : Int) := of_decide_eq_true iL
         obtain ⟨NH, e242, hx242_0⟩ := Kd.bF mV.out bV IK IL
         obtain rfl : Ke = NH := (by injection e242)
         replace IK := eq_true IK
         replace IL := eq_true IL
         go_wp2_with (first | (go_at_call 123; (with_reducible refine (slices_isNaN_string.calls (bI ByteArray.empty l0 bV) false _ A13.out).mono ?_); rintro e w' ⟨rfl, ⟨nd, rfl⟩⟩))
         go_ret2
         exact ⟨by first | rfl | (simp; done) | (simp [*]; done), by repeat (first | exact ay.refl _ | apply ay.step)⟩
      ·rw [if_neg c11] at H
       exact absurd H (by simp)
     ·rw [if_neg c10] at H
      exact absurd H (by simp)
    ·rw [if_neg c9] at H
     have PO : decide (bV < (l0.length : Int)) = false := decide_eq_false c9
     clear c9
     simp only [Option.some.injEq, Prod.mk.injEq] at H
     obtain ⟨rfl, rfl⟩ := H
     go_wp2
     go_ret2
     exact ⟨by first | rfl | (simp; done) | (simp [*]; done), by repeat (first | exact ay.refl _ | apply ay.step)⟩
def fT.f (k : Nat) (l0 : List ByteArray) (a1 : ByteArray) : Option (Int) := (ag.f k l0 a1).bind fun NI => (some NI.1)
theorem fT.mono : ∀ a0 a1 k, jY (fT.f k a0 a1) (fT.f (k + 1) a0 a1) := by
 intro a0 a1 k
 unfold fT.f
 repeat' (with_reducible first | exact ag.mono _ _ _ | exact jY.refl _ | exact jY.none _ | refine jY.ite ?_ ?_ | refine jY.bind ?_ (fun _ => ?_))
theorem fT.calls (k : Nat) (A0 : Option Addr) (c0 : Nat) (l0 : List ByteArray) (a1 : ByteArray) (r : Int) (w : World) (hr0 : Kd.C Kd.string w A0 l0.length l0) (hc0 : l0.length <= c0) (h : fT.f k l0 a1 = some r) :
  Calls Try.prog 73 #[.slice A0 l0.length c0, .string a1] w fun e w' => e = .returned (.int .i64 r) /\ ay w w' := by
 have mV := A_ hr0
 have rG := A_ hc0
 clear hr0 hc0
 have H : ((ag.f k l0 a1).bind fun NI => (some NI.1)) = some r := h
 clear h
 replace H := Option.bind_eq_some_iff.mp H
 obtain ⟨⟨t245, t246⟩, vH, H⟩ := H
 replace H : (some t245) = some r := H
 have A3 := A_ vH
 clear vH
 obtain rfl := Option.some.inj H
 go_enter Try.func73, Try.ntmps73
 go_wp2_with (first | ((with_reducible refine bW (f := 103) rfl ?_); refine iw (some 10) rfl rfl Try.func103 (by kernel_rfl) rfl #[.slice A0 l0.length c0, .string a1] rfl (BM) ?_; (with_reducible refine (ag.calls k _ _ l0 a1 t245 t246 _ ?aD ?dR A3.out).mono ?_); (case aD => refine QY ?_; exact mV.out); (case dR => exact rG.out); rintro e w' ⟨rfl, ⟨nd, rfl⟩⟩; refine ⟨_, rfl, ?_⟩))
 go_ret
 exact ⟨by first | rfl | (simp; done) | (simp [*]; done), by repeat (first | exact ay.refl _ | apply ay.step)⟩
def iI.f (l0 : List ByteArray) (a1 : Int) (a2 : ByteArray) : Option (Bool) := if a1 < (l0.length : Int) then (if 0 <= a1 then (some ((bI ByteArray.empty l0 a1).toList == a2.toList)) else (none)) else (some false)
theorem iI.calls (A0 : Option Addr) (c0 : Nat) (l0 : List ByteArray) (a1 : Int) (a2 : ByteArray) (r : Bool) (w : World) (hr0 : Kd.C Kd.string w A0 l0.length l0) (hc0 : l0.length <= c0) (h : iI.f l0 a1 a2 = some r) :
  Calls Try.prog 101 #[.slice A0 l0.length c0, .int .i64 a1, .string a2] w fun e w' => e = .returned (.bool r) /\ ay w w' := by
 have mV := A_ hr0
 have rG := A_ hc0
 clear hr0 hc0
 have H : (if a1 < (l0.length : Int) then (if 0 <= a1 then (some ((bI ByteArray.empty l0 a1).toList == a2.toList)) else (none)) else (some false)) = some r := h
 clear h
 by_cases c4 : a1 < (l0.length : Int)
 ·rw [if_pos c4] at H
  have rU : decide (a1 < (l0.length : Int)) = true := decide_eq_true c4
  clear c4
  by_cases c5 : 0 <= a1
  ·rw [if_pos c5] at H
   have EC : decide (0 <= a1) = true := decide_eq_true c5
   clear c5
   obtain rfl := Option.some.inj H
   have R3 : 0 <= (a1 : Int) := of_decide_eq_true iL
   have R4 : a1 < (l0.length : Int) := of_decide_eq_true iL
   obtain ⟨ad247, e247, hx247_0⟩ := Kd.bF mV.out a1 R3 R4
   cases e247
   replace R3 := eq_true R3
   replace R4 := eq_true R4
   go_enter Try.func101, Try.ntmps101
   go_wp2
   go_ret
   exact ⟨by first | rfl | (simp; done) | (simp [*]; done), by repeat (first | exact ay.refl _ | apply ay.step)⟩
  ·rw [if_neg c5] at H
   exact absurd H (by simp)
 ·rw [if_neg c4] at H
  have rU : decide (a1 < (l0.length : Int)) = false := decide_eq_false c4
  clear c4
  obtain rfl := Option.some.inj H
  go_enter Try.func101, Try.ntmps101
  go_wp2
  go_ret
  exact ⟨by first | rfl | (simp; done) | (simp [*]; done), by repeat (first | exact ay.refl _ | apply ay.step)⟩
end Go.Proofs.Ytoddejmlcnbdmaa.Fn
namespace Go.Proofs.Ytoddejmlcnbdmaa.Tree
open Go.Proofs.Ytoddejmlcnbdmaa.Fn
def wP (a b : ByteArray) : Bool := Op.bytesLess a.toList b.toList
def dm (key : ByteArray) : List ByteArray -> Nat
 | [] => 0
 | k :: ks => if wP k key then dm key ks + 1 else 0
def iJ (keys : List ByteArray) (i : Nat) (key : ByteArray) : Bool := match keys[i]? with
 | some k => k.toList == key.toList
 | none => false
theorem Q3 {key k : ByteArray} {l : List ByteArray} {i x : Nat} (hk : l[i]? = some k) (h : x = i + dm key (l.drop i)) (hlt : wP k key = true) : x = (i + 1) + dm key (l.drop (i + 1)) := by
 rw [dY hk, dm, if_pos hlt] at h
 omega
theorem O3 {key k : ByteArray} {l : List ByteArray} {i x : Nat} (hk : l[i]? = some k) (h : x = i + dm key (l.drop i)) (hlt : wP k key = false) : x = i := by
 rw [dY hk, dm, if_neg (by rw [hlt]; decide)] at h
 omega
theorem O4 {key : ByteArray} {l : List ByteArray} {i x : Nat} (hi : l.length <= i) (h : x = i + dm key (l.drop i)) : x = i := by
 rw [List.drop_eq_nil_of_le hi, dm] at h
 omega
theorem kU (key : ByteArray) : ∀ l : List ByteArray, dm key l <= l.length
 | [] => Nat.le_refl _
 | k :: ks => by
  rw [dm]
  have := kU key ks
  split
  ·simp only [List.length_cons]; omega
  ·exact Nat.zero_le _
theorem jZ {keys : List ByteArray} {i : Nat} {key : ByteArray} (h : iJ keys i key = true) : i < keys.length := by
 unfold iJ at h
 rcases Nat.lt_or_ge i keys.length with hi | hi
 ·exact hi
 ·rw [List.getElem?_eq_none hi] at h
  cases h
def zB : Nat -> PT -> ByteArray -> ByteArray × Bool
 | 0, _, _ => (ByteArray.empty, false)
 | n + 1, t, key => if iJ t.keys (dm key t.keys) key then (bI ByteArray.empty t.vals (dm key t.keys : Int), true) else if t.kids.length = 0 then (ByteArray.empty, false) else match t.kids[dm key t.keys]? with
  | some s => zB n s key
  | none => (ByteArray.empty, false)
def zC (k : Nat) : Nat -> PT -> ByteArray -> Option (ByteArray × Bool)
 | 0, _, _ => none
 | n + 1, t, key => (fT.f k t.keys key).bind fun a => (iI.f t.keys a key).bind fun h =>
  if h = true then (if 0 <= a /\ a < (t.vals.length : Int) then some (bI ByteArray.empty t.vals a, true) else none)
  else if t.kids.length = 0 then some (ByteArray.empty, false)
  else if 0 <= a then (match t.kids[a.toNat]? with
   | some s => zC k n s key
   | none => none) else none
end Go.Proofs.Ytoddejmlcnbdmaa.Tree
namespace Go.Proofs.Ytoddejmlcnbdmaa.Fn
def dO.f (a0 : ByteArray) : Option (Bool) := some (decide ((a0.size : Int) <= 12))
theorem dO.calls (a0 : ByteArray) (r : Bool) (w : World) (h : dO.f a0 = some r) :
  Calls Try.prog 104 #[.string a0] w fun e w' => e = .returned (.bool r) /\ ay w w' := by
 have H : (some (decide ((a0.size : Int) <= 12))) = some r := h
 clear h
 obtain rfl := Option.some.inj H
 go_enter Try.func104, Try.ntmps104
 go_wp2
 go_ret
 exact ⟨by first | rfl | (simp; done) | (simp [*]; done), by repeat (first | exact ay.refl _ | apply ay.step)⟩
def cK.f (a0 : ByteArray) (a1 : ByteArray) : Option (Bool) := (dO.f a0).bind fun t167 => (if t167 = true then ((dO.f a1).bind fun t168 => (if t168 = true then (some (a0.toList != ([] : List UInt8))) else (some false))) else (some false))
theorem cK.calls (a0 : ByteArray) (a1 : ByteArray) (r : Bool) (w : World) (h : cK.f a0 a1 = some r) :
  Calls Try.prog 75 #[.string a0, .string a1] w fun e w' => e = .returned (.bool r) /\ ay w w' := by
 have H : ((dO.f a0).bind fun t167 => (if t167 = true then ((dO.f a1).bind fun t168 => (if t168 = true then (some (a0.toList != ([] : List UInt8))) else (some false))) else (some false))) = some r := h
 clear h
 replace H := Option.bind_eq_some_iff.mp H
 obtain ⟨t167, vH, H⟩ := H
 replace H : (if t167 = true then ((dO.f a1).bind fun t168 => (if t168 = true then (some (a0.toList != ([] : List UInt8))) else (some false))) else (some false)) = some r := H
 have A3 := A_ vH
 clear vH
 by_cases c4 : t167 = true
 ·subst c4
  have H1 : ((dO.f a1).bind fun t168 => (if t168 = true then (some (a0.toList != ([] : List UInt8))) else (some false))) = some r := by rw [if_pos rfl] at H; exact H
  clear H
  have H := H1
  clear H1
  replace H := Option.bind_eq_some_iff.mp H
  obtain ⟨t168, NF, H⟩ := H
  replace H : (if t168 = true then (some (a0.toList != ([] : List UInt8))) else (some false)) = some r := H
  have A5 := A_ NF
  clear NF
  by_cases c6 : t168 = true
  ·subst c6
   have H1 : (some (a0.toList != ([] : List UInt8))) = some r := by rw [if_pos rfl] at H; exact H
   clear H
   have H := H1
   clear H1
   obtain rfl := Option.some.inj H
   go_enter Try.func75, Try.ntmps75
   go_wp2_with (first | ((with_reducible refine bW (f := 104) rfl ?_); refine iw (some 6) rfl rfl Try.func104 (by kernel_rfl) rfl #[.string a0] rfl (BM) ?_; (with_reducible refine (dO.calls a0 true _ A3.out).mono ?_); rintro e w' ⟨rfl, ⟨nd, rfl⟩⟩; refine ⟨_, rfl, ?_⟩) | (go_at_call 104; (with_reducible refine (dO.calls a1 true _ A5.out).mono ?_); rintro e w' ⟨rfl, ⟨nd, rfl⟩⟩))
   go_ret
   exact ⟨by first | rfl | (simp only [Go.Proofs.Ytoddejmlcnbdmaa.Gen.nT, Go.Proofs.Ytoddejmlcnbdmaa.Gen.qK]; first | done | rfl | (simp; done)) | (simp; done) | (simp [*]; done), by repeat (first | exact ay.refl _ | apply ay.step)⟩
  ·replace c6 := Bool.eq_false_iff.mpr c6
   subst c6
   have H1 : (some false) = some r := by rw [if_neg (show ¬ (false = true) by decide)] at H; exact H
   clear H
   have H := H1
   clear H1
   obtain rfl := Option.some.inj H
   go_enter Try.func75, Try.ntmps75
   go_wp2_with (first | ((with_reducible refine bW (f := 104) rfl ?_); refine iw (some 6) rfl rfl Try.func104 (by kernel_rfl) rfl #[.string a0] rfl (BM) ?_; (with_reducible refine (dO.calls a0 true _ A3.out).mono ?_); rintro e w' ⟨rfl, ⟨nd, rfl⟩⟩; refine ⟨_, rfl, ?_⟩) | (go_at_call 104; (with_reducible refine (dO.calls a1 false _ A5.out).mono ?_); rintro e w' ⟨rfl, ⟨nd, rfl⟩⟩))
   go_ret
   exact ⟨by first | rfl | (simp only [Go.Proofs.Ytoddejmlcnbdmaa.Gen.nT, Go.Proofs.Ytoddejmlcnbdmaa.Gen.qK]; first | done | rfl | (simp; done)) | (simp; done) | (simp [*]; done), by repeat (first | exact ay.refl _ | apply ay.step)⟩
 ·replace c4 := Bool.eq_false_iff.mpr c4
  subst c4
  have H1 : (some false) = some r := by rw [if_neg (show ¬ (false = true) by decide)] at H; exact H
  clear H
  have H := H1
  clear H1
  obtain rfl := Option.some.inj H
  go_enter Try.func75, Try.ntmps75
  go_wp2_with (first | ((with_reducible refine bW (f := 104) rfl ?_); refine iw (some 6) rfl rfl Try.func104 (by kernel_rfl) rfl #[.string a0] rfl (BM) ?_; (with_reducible refine (dO.calls a0 false _ A3.out).mono ?_); rintro e w' ⟨rfl, ⟨nd, rfl⟩⟩; refine ⟨_, rfl, ?_⟩))
  go_ret
  exact ⟨by first | rfl | (simp only [Go.Proofs.Ytoddejmlcnbdmaa.Gen.nT, Go.Proofs.Ytoddejmlcnbdmaa.Gen.qK]; first | done | rfl | (simp; done)) | (simp; done) | (simp [*]; done), by repeat (first | exact ay.refl _ | apply ay.step)⟩
def jK.f (a0 : Int) (a1 : Int) (a2 : Int) : Option (Bool) := if a0 ≥ a1 then (some (decide (a0 <= a2))) else (some false)
theorem jK.calls (a0 : Int) (a1 : Int) (a2 : Int) (r : Bool) (w : World) (h : jK.f a0 a1 a2 = some r) :
  Calls Try.prog 69 #[.int .i64 a0, .int .i64 a1, .int .i64 a2] w fun e w' => e = .returned (.bool r) /\ ay w w' := by
 have H : (if a0 ≥ a1 then (some (decide (a0 <= a2))) else (some false)) = some r := h
 clear h
 by_cases c4 : a0 ≥ a1
 ·rw [if_pos c4] at H
  have rU : decide (a1 <= a0) = true := decide_eq_true c4
  clear c4
  obtain rfl := Option.some.inj H
  go_enter Try.func69, Try.ntmps69
  go_wp2
  go_ret
  exact ⟨by first | rfl | (simp; done) | (simp [*]; done), by repeat (first | exact ay.refl _ | apply ay.step)⟩
 ·rw [if_neg c4] at H
  have rU : decide (a1 <= a0) = false := decide_eq_false c4
  clear c4
  obtain rfl := Option.some.inj H
  go_enter Try.func69, Try.ntmps69
  go_wp2
  go_ret
  exact ⟨by first | rfl | (simp; done) | (simp [*]; done), by repeat (first | exact ay.refl _ | apply ay.step)⟩
def gq.f (a0 : ByteArray) : Option (Bool) := (jK.f (a0.size : Int) 1 12).bind fun t169 => (some t169)
theorem gq.calls (a0 : ByteArray) (r : Bool) (w : World) (h : gq.f a0 = some r) :
  Calls Try.prog 78 #[.string a0] w fun e w' => e = .returned (.bool r) /\ ay w w' := by
 have H : ((jK.f (a0.size : Int) 1 12).bind fun t169 => (some t169)) = some r := h
 clear h
 replace H := Option.bind_eq_some_iff.mp H
 obtain ⟨t169, QC, H⟩ := H
 replace H : (some t169) = some r := H
 have A2 := A_ QC
 clear QC
 obtain rfl := Option.some.inj H
 go_enter Try.func78, Try.ntmps78
 go_wp2_with (first | ((with_reducible refine bW (f := 69) rfl ?_); refine iw (some 5) rfl rfl Try.func69 (by kernel_rfl) rfl #[.int .i64 (a0.size : Int), .int .i64 1, .int .i64 12] rfl (BM) ?_; (with_reducible refine (jK.calls (a0.size : Int) 1 12 t169 _ A2.out).mono ?_); rintro e w' ⟨rfl, ⟨nd, rfl⟩⟩; refine ⟨_, rfl, ?_⟩))
 go_ret
 exact ⟨by first | rfl | (simp; done) | (simp [*]; done), by repeat (first | exact ay.refl _ | apply ay.step)⟩
def aN.l0 : Nat -> List ByteArray -> List ByteArray -> Int -> Int -> Option (Bool)
 | 0, _, _, _, _ => none
 | k + 1, x0, x5, x6, x7 => if x7 < x6 then (if 0 <= x7 then (if x7 < (x5.length : Int) then ((gq.f (bI ByteArray.empty x5 x7)).bind fun t171 => (if t171 = true then (if x7 > 0 then (if 0 <= (wrap64 (x7 - 1)) then (if (wrap64 (x7 - 1)) < (x0.length : Int) then (if ((Op.bytesLess ((bI ByteArray.empty x0 (wrap64 (x7 - 1))).toList) ((bI ByteArray.empty x5 x7).toList)) = true) then (aN.l0 k x0 x5 x6 (wrap64 (x7 + 1))) else (some false)) else (none)) else (none)) else (aN.l0 k x0 x5 x6 (wrap64 (x7 + 1)))) else (some false))) else (none)) else (none)) else (some true)
def aN.f (k : Nat) (l0 : List ByteArray) : Option (Bool) := aN.l0 k l0 l0 (l0.length : Int) 0
theorem aN.r9 : ∀ k, (∀ y0 y1 y2 y3, jY (aN.l0 k y0 y1 y2 y3) (aN.l0 (k + 1) y0 y1 y2 y3))
 | 0 => fun _ _ _ _ r h => by simp [aN.l0] at h
 | k + 1 => by
  have NG := aN.r9 k
  ·intro y0 y1 y2 y3
   unfold aN.l0
   repeat' (with_reducible first | exact NG _ _ _ _ | exact jY.refl _ | exact jY.none _ | refine jY.ite ?_ ?_ | refine jY.bind ?_ (fun _ => ?_))
theorem aN.mono : ∀ a0 k, jY (aN.f k a0) (aN.f (k + 1) a0) := by
 intro a0 k
 have NG := aN.r9 k
 unfold aN.f
 repeat' (with_reducible first | exact NG _ _ _ _ | exact jY.refl _ | exact jY.none _ | refine jY.ite ?_ ?_ | refine jY.bind ?_ (fun _ => ?_))
theorem aN.calls (k : Nat) (A0 : Option Addr) (c0 : Nat) (l0 : List ByteArray) (r : Bool) (w : World) (hr0 : Kd.C Kd.string w A0 l0.length l0) (hc0 : l0.length <= c0) (h : aN.f k l0 = some r) :
  Calls Try.prog 115 #[.slice A0 l0.length c0] w fun e w' => e = .returned (.bool r) /\ ay w w' := by
 have mV := A_ hr0
 have rG := A_ hc0
 clear hr0 hc0
 have H : (aN.l0 k l0 l0 (l0.length : Int) 0) = some r := h
 clear h
 have H' := A_ H
 clear H
 go_enter Try.func115, Try.ntmps115
 go_wp2
 go_loopg [7] k (fun kq v7 w' => ∃ (bV : Int), v7 = .int .i64 bV /\ af (aN.l0 kq l0 l0 (l0.length : Int) bV = some r) /\ af (kq <= k) /\ ay w w')
 case atStart => exact ⟨(0), (by first | rfl | (simp; done) | (simp [*]; done)), H', ⟨Nat.le_refl _⟩, by repeat (first | exact ay.refl _ | apply ay.step)⟩
 case round =>
  clear H'
  (try clear c1)
  obtain ⟨bV, rfl, HA, yJ, ⟨m1, rfl⟩⟩ := hrel
  cases gk with
  | zero => exact absurd HA.out (by simp [aN.l0])
  | succ k1 =>
   have H := HA.out
   clear HA
   simp only [aN.l0] at H
   by_cases c2 : bV < (l0.length : Int)
   ·rw [if_pos c2] at H
    have R5 : decide (bV < (l0.length : Int)) = true := decide_eq_true c2
    clear c2
    by_cases c3 : 0 <= bV
    ·rw [if_pos c3] at H
     have sP : decide (0 <= bV) = true := decide_eq_true c3
     clear c3
     by_cases c4 : bV < (l0.length : Int)
     ·rw [if_pos c4] at H
      have rU : decide (bV < (l0.length : Int)) = true := decide_eq_true c4
      clear c4
      replace H := Option.bind_eq_some_iff.mp H
      obtain ⟨t171, NF, H⟩ := H
      replace H : (if t171 = true then (if bV > 0 then (if 0 <= (wrap64 (bV - 1)) then (if (wrap64 (bV - 1)) < (l0.length : Int) then (if ((Op.bytesLess ((bI ByteArray.empty l0 (wrap64 (bV - 1))).toList) ((bI ByteArray.empty l0 bV).toList)) = true) then (aN.l0 k1 l0 l0 (l0.length : Int) (wrap64 (bV + 1))) else (some false)) else (none)) else (none)) else (aN.l0 k1 l0 l0 (l0.length : Int) (wrap64 (bV + 1)))) else (some false)) = some r := H
      have A5 := A_ NF
      clear NF
      by_cases c6 : t171 = true
      ·subst c6
       have H1 : (if bV > 0 then (if 0 <= (wrap64 (bV - 1)) then (if (wrap64 (bV - 1)) < (l0.length : Int) then (if ((Op.bytesLess ((bI ByteArray.empty l0 (wrap64 (bV - 1))).toList) ((bI ByteArray.empty l0 bV).toList)) = true) then (aN.l0 k1 l0 l0 (l0.length : Int) (wrap64 (bV + 1))) else (some false)) else (none)) else (none)) else (aN.l0 k1 l0 l0 (l0.length : Int) (wrap64 (bV + 1)))) = some r := by rw [if_pos rfl] at H; exact H
       clear H
       have H := H1
       clear H1
       by_cases c7 : bV > 0
       ·rw [if_pos c7] at H
        have Gh : decide (0 < bV) = true := decide_eq_true c7
        clear c7
        obtain ⟨Gi, NJ⟩ : ∃ j_ : Int, (wrap64 (bV - 1)) = j_ := ⟨_, rfl⟩
        replace H : (if 0 <= (Gi) then (if (Gi) < (l0.length : Int) then (if ((Op.bytesLess ((bI ByteArray.empty l0 (Gi)).toList) ((bI ByteArray.empty l0 bV).toList)) = true) then (aN.l0 k1 l0 l0 (l0.length : Int) (wrap64 (bV + 1))) else (some false)) else (none)) else (none)) = some r := by first | (rw [NJ] at H; exact H) | (simp only [NJ] at H ⊢; exact H)
        (try rw [NJ] at A5)
        have hji8w : (IntKind.i64.wrap (bV - 1)) = Gi := (uA _).trans NJ
        by_cases c9 : 0 <= (Gi)
        ·rw [if_pos c9] at H
         have PO : decide (0 <= (Gi)) = true := decide_eq_true c9
         clear c9
         by_cases c10 : (Gi) < (l0.length : Int)
         ·rw [if_pos c10] at H
          have c10b0 : decide ((Gi) < (l0.length : Int)) = true := decide_eq_true c10
          clear c10
          by_cases c11 : ((Op.bytesLess ((bI ByteArray.empty l0 (Gi)).toList) ((bI ByteArray.empty l0 bV).toList)) = true)
          ·rw [if_pos c11] at H
           have c11b0 : (Op.bytesLess ((bI ByteArray.empty l0 (Gi)).toList) ((bI ByteArray.empty l0 bV).toList)) = true := c11
           clear c11
           have H' := A_ H
           clear H
           have vD : 0 <= (bV : Int) := of_decide_eq_true iL
           have vE : bV < (l0.length : Int) := of_decide_eq_true iL
           obtain ⟨Gj, e170, ED⟩ := Kd.bF mV.out bV vD vE
           cases e170
           replace vD := eq_true vD
           replace vE := eq_true vE
           go_wp2_with (first | ((with_reducible refine bW (f := 78) rfl ?_); refine iw (some 13) rfl rfl Try.func78 (by kernel_rfl) rfl #[.string (bI ByteArray.empty l0 bV)] rfl (BM) ?_; (with_reducible refine (gq.calls (bI ByteArray.empty l0 bV) true _ A5.out).mono ?_); rintro e w' ⟨rfl, ⟨nd, rfl⟩⟩; refine ⟨_, rfl, ?_⟩; have IM : 0 <= ((Gi) : Int) := of_decide_eq_true iL; have IP : (Gi) < (l0.length : Int) := of_decide_eq_true iL; obtain ⟨NK, R6, hx172_0⟩ := Kd.bF mV.out (Gi) IM IP; obtain rfl : Gj = NK := (by injection R6); replace IM := eq_true IM; replace IP := eq_true IP))
           go_roundg k1
           case measure => have := yJ.out; omega
           case rel => exact ⟨(wrap64 (bV + 1)), (by first | rfl | (simp; done) | (simp [*]; done)), H', ⟨by have := yJ.out; omega⟩, by repeat (first | exact ay.refl _ | apply ay.step)⟩
          ·rw [if_neg c11] at H
           have c11b0 : (Op.bytesLess ((bI ByteArray.empty l0 (Gi)).toList) ((bI ByteArray.empty l0 bV).toList)) = false := by simpa using c11
           clear c11
           obtain rfl := Option.some.inj H
           have vD : 0 <= (bV : Int) := of_decide_eq_true iL
           have vE : bV < (l0.length : Int) := of_decide_eq_true iL
           obtain ⟨Gj, e170, ED⟩ := Kd.bF mV.out bV vD vE
           cases e170
           replace vD := eq_true vD
           replace vE := eq_true vE
           go_wp2_with (first | ((with_reducible refine bW (f := 78) rfl ?_); refine iw (some 13) rfl rfl Try.func78 (by kernel_rfl) rfl #[.string (bI ByteArray.empty l0 bV)] rfl (BM) ?_; (with_reducible refine (gq.calls (bI ByteArray.empty l0 bV) true _ A5.out).mono ?_); rintro e w' ⟨rfl, ⟨nd, rfl⟩⟩; refine ⟨_, rfl, ?_⟩; have IM : 0 <= ((Gi) : Int) := of_decide_eq_true iL; have IP : (Gi) < (l0.length : Int) := of_decide_eq_true iL; obtain ⟨NK, R6, hx172_0⟩ := Kd.bF mV.out (Gi) IM IP; obtain rfl : Gj = NK := (by injection R6); replace IM := eq_true IM; replace IP := eq_true IP))
           go_ret
           exact ⟨by first | rfl | (simp only [Go.Proofs.Ytoddejmlcnbdmaa.Gen.nT, Go.Proofs.Ytoddejmlcnbdmaa.Gen.qK]; first | done | rfl | (simp; done)) | (simp; done) | (simp only [<- NJ] <;> (first | rfl | simp)) | (simp [*]; done), by repeat (first | exact ay.refl _ | apply ay.step)⟩
         ·rw [if_neg c10] at H
          exact absurd H (by simp)
        ·rw [if_neg c9] at H
         exact absurd H (by simp)
       ·rw [if_neg c7] at H
        have Gh : decide (0 < bV) = false := decide_eq_false c7
        clear c7
        have H' := A_ H
        clear H
        have vD : 0 <= (bV : Int) := of_decide_eq_true iL
        have vE : bV < (l0.length : Int) := of_decide_eq_true iL
        obtain ⟨Gj, e170, ED⟩ := Kd.bF mV.out bV vD vE
        cases e170
        replace vD := eq_true vD
        replace vE := eq_true vE
        go_wp2_with (first | ((with_reducible refine bW (f := 78) rfl ?_); refine iw (some 13) rfl rfl Try.func78 (by kernel_rfl) rfl #[.string (bI ByteArray.empty l0 bV)] rfl (BM) ?_; (with_reducible refine (gq.calls (bI ByteArray.empty l0 bV) true _ A5.out).mono ?_); rintro e w' ⟨rfl, ⟨nd, rfl⟩⟩; refine ⟨_, rfl, ?_⟩))
        go_roundg k1
        case measure => have := yJ.out; omega
        case rel => exact ⟨(wrap64 (bV + 1)), (by first | rfl | (simp; done) | (simp [*]; done)), H', ⟨by have := yJ.out; omega⟩, by repeat (first | exact ay.refl _ | apply ay.step)⟩
      ·replace c6 := Bool.eq_false_iff.mpr c6
       subst c6
       have H1 : (some false) = some r := by rw [if_neg (show ¬ (false = true) by decide)] at H; exact H
       clear H
       have H := H1
       clear H1
       obtain rfl := Option.some.inj H
       have vD : 0 <= (bV : Int) := of_decide_eq_true iL
       have vE : bV < (l0.length : Int) := of_decide_eq_true iL
       obtain ⟨Gj, e170, ED⟩ := Kd.bF mV.out bV vD vE
       cases e170
       replace vD := eq_true vD
       replace vE := eq_true vE
       go_wp2_with (first | ((with_reducible refine bW (f := 78) rfl ?_); refine iw (some 13) rfl rfl Try.func78 (by kernel_rfl) rfl #[.string (bI ByteArray.empty l0 bV)] rfl (BM) ?_; (with_reducible refine (gq.calls (bI ByteArray.empty l0 bV) false _ A5.out).mono ?_); rintro e w' ⟨rfl, ⟨nd, rfl⟩⟩; refine ⟨_, rfl, ?_⟩))
       go_ret
       exact ⟨by first | rfl | (simp only [Go.Proofs.Ytoddejmlcnbdmaa.Gen.nT, Go.Proofs.Ytoddejmlcnbdmaa.Gen.qK]; first | done | rfl | (simp; done)) | (simp; done) | (simp [*]; done), by repeat (first | exact ay.refl _ | apply ay.step)⟩
     ·rw [if_neg c4] at H
      exact absurd H (by simp)
    ·rw [if_neg c3] at H
     exact absurd H (by simp)
   ·rw [if_neg c2] at H
    have R5 : decide (bV < (l0.length : Int)) = false := decide_eq_false c2
    clear c2
    obtain rfl := Option.some.inj H
    go_wp2
    go_ret
    exact ⟨by first | rfl | (simp only [Go.Proofs.Ytoddejmlcnbdmaa.Gen.nT, Go.Proofs.Ytoddejmlcnbdmaa.Gen.qK]; first | done | rfl | (simp; done)) | (simp; done) | (simp [*]; done), by repeat (first | exact ay.refl _ | apply ay.step)⟩
def iX.f (a0 : ByteArray) : Option (Bool) := some (decide ((a0.size : Int) <= 12))
theorem iX.calls (a0 : ByteArray) (r : Bool) (w : World) (h : iX.f a0 = some r) :
  Calls Try.prog 79 #[.string a0] w fun e w' => e = .returned (.bool r) /\ ay w w' := by
 have H : (some (decide ((a0.size : Int) <= 12))) = some r := h
 clear h
 obtain rfl := Option.some.inj H
 go_enter Try.func79, Try.ntmps79
 go_wp2
 go_ret
 exact ⟨by first | rfl | (simp; done) | (simp [*]; done), by repeat (first | exact ay.refl _ | apply ay.step)⟩
def gu.f (a0 : ByteArray) : Option (Bool) := (iX.f a0).bind fun t173 => (some (!t173))
theorem gu.calls (a0 : ByteArray) (r : Bool) (w : World) (h : gu.f a0 = some r) :
  Calls Try.prog 117 #[.string a0] w fun e w' => e = .returned (.bool r) /\ ay w w' := by
 have H : ((iX.f a0).bind fun t173 => (some (!t173))) = some r := h
 clear h
 replace H := Option.bind_eq_some_iff.mp H
 obtain ⟨t173, QC, H⟩ := H
 replace H : (some (!t173)) = some r := H
 have A2 := A_ QC
 clear QC
 obtain rfl := Option.some.inj H
 go_enter Try.func117, Try.ntmps117
 go_wp2_with (first | ((with_reducible refine bW (f := 79) rfl ?_); refine iw (some 4) rfl rfl Try.func79 (by kernel_rfl) rfl #[.string a0] rfl (BM) ?_; (with_reducible refine (iX.calls a0 t173 _ A2.out).mono ?_); rintro e w' ⟨rfl, ⟨nd, rfl⟩⟩; refine ⟨_, rfl, ?_⟩))
 go_ret
 exact ⟨by first | rfl | (simp; done) | (simp [*]; done), by repeat (first | exact ay.refl _ | apply ay.step)⟩
def aA.l0 : Nat -> List ByteArray -> Int -> Int -> Option (Int)
 | 0, _, _, _ => none
 | k + 1, x0, x7, x8 => if x8 < x7 then (if 0 <= x8 then (if x8 < (x0.length : Int) then ((gu.f (bI ByteArray.empty x0 x8)).bind fun t175 => (if t175 = true then (some x8) else (aA.l0 k x0 x7 (wrap64 (x8 + 1))))) else (none)) else (none)) else (some (-1))
def aA.f (k : Nat) (l0 : List ByteArray)  : Option (Int) := aA.l0 k l0 (l0.length : Int) 0
theorem aA.r9 : ∀ k, (∀ y0 y1 y2, jY (aA.l0 k y0 y1 y2) (aA.l0 (k + 1) y0 y1 y2))
 | 0 => fun _ _ _ r h => by simp [aA.l0] at h
 | k + 1 => by
  have NG := aA.r9 k
  ·intro y0 y1 y2
   unfold aA.l0
   repeat' (with_reducible first | exact NG _ _ _ | exact jY.refl _ | exact jY.none _ | refine jY.ite ?_ ?_ | refine jY.bind ?_ (fun _ => ?_))
theorem aA.mono : ∀ a0 k, jY (aA.f k a0) (aA.f (k + 1) a0) := by
 intro a0 k
 have NG := aA.r9 k
 unfold aA.f
 repeat' (with_reducible first | exact NG _ _ _ | exact jY.refl _ | exact jY.none _ | refine jY.ite ?_ ?_ | refine jY.bind ?_ (fun _ => ?_))
theorem aA.calls (k : Nat) (A0 : Option Addr) (c0 : Nat) (l0 : List ByteArray)  (r : Int) (w : World) (hr0 : Kd.C Kd.string w A0 l0.length l0) (hc0 : l0.length <= c0) (h : aA.f k l0 = some r) :
  Calls Try.prog 134 #[.slice A0 l0.length c0, .func (.func 117) #[] #[]] w fun e w' => e = .returned (.int .i64 r) /\ ay w w' := by
 have mV := A_ hr0
 have rG := A_ hc0
 clear hr0 hc0
 have H : (aA.l0 k l0 (l0.length : Int) 0) = some r := h
 clear h
 have H' := A_ H
 clear H
 go_enter Try.func134, Try.ntmps134
 go_wp2
 go_loopg [8] k (fun kq v8 w' => ∃ (jo : Int), v8 = .int .i64 jo /\ af (aA.l0 kq l0 (l0.length : Int) jo = some r) /\ af (kq <= k) /\ ay w w')
 case atStart => exact ⟨(0), (by first | rfl | (simp; done) | (simp [*]; done)), H', ⟨Nat.le_refl _⟩, by repeat (first | exact ay.refl _ | apply ay.step)⟩
 case round =>
  clear H'
  (try clear c1); (try clear p2)
  obtain ⟨jo, rfl, HA, yJ, ⟨m1, rfl⟩⟩ := hrel
  cases gk with
  | zero => exact absurd HA.out (by simp [aA.l0])
  | succ k1 =>
   have H := HA.out
   clear HA
   simp only [aA.l0] at H
   by_cases c3 : jo < (l0.length : Int)
   ·rw [if_pos c3] at H
    have sP : decide (jo < (l0.length : Int)) = true := decide_eq_true c3
    clear c3
    by_cases c4 : 0 <= jo
    ·rw [if_pos c4] at H
     have rU : decide (0 <= jo) = true := decide_eq_true c4
     clear c4
     by_cases c5 : jo < (l0.length : Int)
     ·rw [if_pos c5] at H
      have EC : decide (jo < (l0.length : Int)) = true := decide_eq_true c5
      clear c5
      replace H := Option.bind_eq_some_iff.mp H
      obtain ⟨t175, U7, H⟩ := H
      replace H : (if t175 = true then (some jo) else (aA.l0 k1 l0 (l0.length : Int) (wrap64 (jo + 1)))) = some r := H
      have A6 := A_ U7
      clear U7
      by_cases c7 : t175 = true
      ·subst c7
       have H1 : (some jo) = some r := by rw [if_pos rfl] at H; exact H
       clear H
       have H := H1
       clear H1
       obtain rfl := Option.some.inj H
       have IQ : 0 <= (jo : Int) := of_decide_eq_true iL
       have IU : jo < (l0.length : Int) := of_decide_eq_true iL
       obtain ⟨ad174, R7, hx174_0⟩ := Kd.bF mV.out jo IQ IU
       cases R7
       replace IQ := eq_true IQ
       replace IU := eq_true IU
       go_wp2_with (first | ((with_reducible refine Go.Proofs.Ytoddejmlcnbdmaa.Gen.Qi rfl ?_); refine Go.Proofs.Ytoddejmlcnbdmaa.Gen.Mg (some 16) rfl rfl Try.func117 (by kernel_rfl) rfl #[.string (bI ByteArray.empty l0 jo)] rfl (BM) ?_; (with_reducible refine (gu.calls (bI ByteArray.empty l0 jo) true _ A6.out).mono ?_); rintro e w' ⟨rfl, ⟨nd, rfl⟩⟩; refine ⟨_, rfl, ?_⟩))
       go_ret
       exact ⟨by first | rfl | (simp; done) | (simp [*]; done), by repeat (first | exact ay.refl _ | apply ay.step)⟩
      ·replace c7 := Bool.eq_false_iff.mpr c7
       subst c7
       have H1 : (aA.l0 k1 l0 (l0.length : Int) (wrap64 (jo + 1))) = some r := by rw [if_neg (show ¬ (false = true) by decide)] at H; exact H
       clear H
       have H := H1
       clear H1
       have H' := A_ H
       clear H
       have IQ : 0 <= (jo : Int) := of_decide_eq_true iL
       have IU : jo < (l0.length : Int) := of_decide_eq_true iL
       obtain ⟨ad174, R7, hx174_0⟩ := Kd.bF mV.out jo IQ IU
       cases R7
       replace IQ := eq_true IQ
       replace IU := eq_true IU
       go_wp2_with (first | ((with_reducible refine Go.Proofs.Ytoddejmlcnbdmaa.Gen.Qi rfl ?_); refine Go.Proofs.Ytoddejmlcnbdmaa.Gen.Mg (some 16) rfl rfl Try.func117 (by kernel_rfl) rfl #[.string (bI ByteArray.empty l0 jo)] rfl (BM) ?_; (with_reducible refine (gu.calls (bI ByteArray.empty l0 jo) false _ A6.out).mono ?_); rintro e w' ⟨rfl, ⟨nd, rfl⟩⟩; refine ⟨_, rfl, ?_⟩))
       go_roundg k1
       case measure => have := yJ.out; omega
       case rel => exact ⟨(wrap64 (jo + 1)), (by first | rfl | (simp; done) | (simp [*]; done)), H', ⟨by have := yJ.out; omega⟩, by repeat (first | exact ay.refl _ | apply ay.step)⟩
     ·rw [if_neg c5] at H
      exact absurd H (by simp)
    ·rw [if_neg c4] at H
     exact absurd H (by simp)
   ·rw [if_neg c3] at H
    have sP : decide (jo < (l0.length : Int)) = false := decide_eq_false c3
    clear c3
    obtain rfl := Option.some.inj H
    go_wp2
    go_ret
    exact ⟨by first | rfl | (simp; done) | (simp [*]; done), by repeat (first | exact ay.refl _ | apply ay.step)⟩
def bg.f (k : Nat) (l0 : List ByteArray)  : Option (Bool) := (aA.f k l0).bind fun LC => (some (decide (LC ≥ 0)))
theorem bg.mono : ∀ a0 k, jY (bg.f k a0) (bg.f (k + 1) a0) := by
 intro a0 k
 unfold bg.f
 repeat' (with_reducible first | exact aA.mono _ _ | exact jY.refl _ | exact jY.none _ | refine jY.ite ?_ ?_ | refine jY.bind ?_ (fun _ => ?_))
theorem bg.calls (k : Nat) (A0 : Option Addr) (c0 : Nat) (l0 : List ByteArray)  (r : Bool) (w : World) (hr0 : Kd.C Kd.string w A0 l0.length l0) (hc0 : l0.length <= c0) (h : bg.f k l0 = some r) :
  Calls Try.prog 116 #[.slice A0 l0.length c0, .func (.func 117) #[] #[]] w fun e w' => e = .returned (.bool r) /\ ay w w' := by
 have mV := A_ hr0
 have rG := A_ hc0
 clear hr0 hc0
 have H : ((aA.f k l0).bind fun LC => (some (decide (LC ≥ 0)))) = some r := h
 clear h
 replace H := Option.bind_eq_some_iff.mp H
 obtain ⟨LC, vH, H⟩ := H
 replace H : (some (decide (LC ≥ 0))) = some r := H
 have A3 := A_ vH
 clear vH
 obtain rfl := Option.some.inj H
 go_enter Try.func116, Try.ntmps116
 go_wp2_with (first | ((with_reducible refine bW (f := 134) rfl ?_); refine iw (some 7) rfl rfl Try.func134 (by kernel_rfl) rfl #[.slice A0 l0.length c0, .func (.func 117) #[] #[]] rfl (BM) ?_; (with_reducible refine (aA.calls k _ _ l0  LC _ ?aD ?dR A3.out).mono ?_); (case aD => refine QY ?_; exact mV.out); (case dR => exact rG.out); rintro e w' ⟨rfl, ⟨nd, rfl⟩⟩; refine ⟨_, rfl, ?_⟩))
 go_ret
 exact ⟨by first | rfl | (simp; done) | (simp [*]; done), by repeat (first | exact ay.refl _ | apply ay.step)⟩
def bR.f (k : Nat) (l0 : List ByteArray) (l1 : List ByteArray) : Option (Bool) := if (l0.length : Int) <= 40 then (if (l0.length : Int) = (l1.length : Int) then ((aN.f k l0).bind fun LD => (if LD = true then ((bg.f k l1).bind fun Cm => (some (!Cm))) else (some false))) else (some false)) else (some false)
theorem bR.mono : ∀ a0 a1 k, jY (bR.f k a0 a1) (bR.f (k + 1) a0 a1) := by
 intro a0 a1 k
 unfold bR.f
 repeat' (with_reducible first | exact aN.mono _ _ | exact bg.mono _ _ | exact jY.refl _ | exact jY.none _ | refine jY.ite ?_ ?_ | refine jY.bind ?_ (fun _ => ?_))
theorem bR.calls (k : Nat) (A0 : Option Addr) (c0 : Nat) (l0 : List ByteArray) (A1 : Option Addr) (c1 : Nat) (l1 : List ByteArray) (r : Bool) (w : World) (hr0 : Kd.C Kd.string w A0 l0.length l0) (hc0 : l0.length <= c0) (hr1 : Kd.C Kd.string w A1 l1.length l1) (hc1 : l1.length <= c1) (h : bR.f k l0 l1 = some r) :
  Calls Try.prog 86 #[.slice A0 l0.length c0, .slice A1 l1.length c1] w fun e w' => e = .returned (.bool r) /\ ay w w' := by
 have mV := A_ hr0
 have rG := A_ hc0
 clear hr0 hc0
 have HR1 := A_ hr1
 have Bi := A_ hc1
 clear hr1 hc1
 have H : (if (l0.length : Int) <= 40 then (if (l0.length : Int) = (l1.length : Int) then ((aN.f k l0).bind fun LD => (if LD = true then ((bg.f k l1).bind fun Cm => (some (!Cm))) else (some false))) else (some false)) else (some false)) = some r := h
 clear h
 by_cases c3 : (l0.length : Int) <= 40
 ·rw [if_pos c3] at H
  have sP : decide ((l0.length : Int) <= 40) = true := decide_eq_true c3
  have EE := kZ (l0.length <= 40)
  clear c3
  by_cases c4 : (l0.length : Int) = (l1.length : Int)
  ·rw [if_pos c4] at H
   have rU : ((l0.length : Int) == (l1.length : Int)) = true := beq_iff_eq.mpr c4
   have NL : ((l0.length : Int) != (l1.length : Int)) = false := bne_eq_false_iff_eq.mpr c4
   have c4b2 : (l0.length == l1.length) = true := by first | simpa using c4 | (simp at c4 ⊢; omega)
   clear c4
   replace H := Option.bind_eq_some_iff.mp H
   obtain ⟨LD, NF, H⟩ := H
   replace H : (if LD = true then ((bg.f k l1).bind fun Cm => (some (!Cm))) else (some false)) = some r := H
   have A5 := A_ NF
   clear NF
   by_cases c6 : LD = true
   ·subst c6
    have H1 : ((bg.f k l1).bind fun Cm => (some (!Cm))) = some r := by rw [if_pos rfl] at H; exact H
    clear H
    have H := H1
    clear H1
    replace H := Option.bind_eq_some_iff.mp H
    obtain ⟨Cm, U6, H⟩ := H
    replace H : (some (!Cm)) = some r := H
    have A7 := A_ U6
    clear U6
    obtain rfl := Option.some.inj H
    go_enter Try.func86, Try.ntmps86
    go_wp2_with (first | (go_at_call 115; (with_reducible refine (aN.calls k _ _ l0 true _ ?aD ?dR A5.out).mono ?_); (case aD => refine QY ?_; exact mV.out); (case dR => exact rG.out); rintro e w' ⟨rfl, ⟨nd, rfl⟩⟩) | (go_at_call 116; (with_reducible refine (bg.calls k _ _ l1  Cm _ ?aD ?dR A7.out).mono ?_); (case aD => refine QY ?_; exact HR1.out); (case dR => exact Bi.out); rintro e w' ⟨rfl, ⟨nd, rfl⟩⟩))
    go_ret
    exact ⟨by first | rfl | (simp; done) | (simp [*]; done), by repeat (first | exact ay.refl _ | apply ay.step)⟩
   ·replace c6 := Bool.eq_false_iff.mpr c6
    subst c6
    have H1 : (some false) = some r := by rw [if_neg (show ¬ (false = true) by decide)] at H; exact H
    clear H
    have H := H1
    clear H1
    obtain rfl := Option.some.inj H
    go_enter Try.func86, Try.ntmps86
    go_wp2_with (first | (go_at_call 115; (with_reducible refine (aN.calls k _ _ l0 false _ ?aD ?dR A5.out).mono ?_); (case aD => refine QY ?_; exact mV.out); (case dR => exact rG.out); rintro e w' ⟨rfl, ⟨nd, rfl⟩⟩))
    go_ret
    exact ⟨by first | rfl | (simp; done) | (simp [*]; done), by repeat (first | exact ay.refl _ | apply ay.step)⟩
  ·rw [if_neg c4] at H
   have rU : ((l0.length : Int) == (l1.length : Int)) = false := beq_eq_false_iff_ne.mpr c4
   have NL : ((l0.length : Int) != (l1.length : Int)) = true := bne_iff_ne.mpr c4
   have c4b2 : (l0.length == l1.length) = false := by first | simpa using c4 | (simp at c4 ⊢; omega)
   obtain rfl := Option.some.inj H
   go_enter Try.func86, Try.ntmps86
   go_wp2
   go_ret
   exact ⟨by first | rfl | (simp; done) | (simp [*]; done), by repeat (first | exact ay.refl _ | apply ay.step)⟩
 ·rw [if_neg c3] at H
  have sP : decide ((l0.length : Int) <= 40) = false := decide_eq_false c3
  have EE := kT (l0.length <= 40)
  clear c3
  obtain rfl := Option.some.inj H
  go_enter Try.func86, Try.ntmps86
  go_wp2
  go_ret
  exact ⟨by first | rfl | (simp; done) | (simp [*]; done), by repeat (first | exact ay.refl _ | apply ay.step)⟩
end Go.Proofs.Ytoddejmlcnbdmaa.Fn
namespace Go.Proofs.Ytoddejmlcnbdmaa.Tree
open Go.Proofs.Ytoddejmlcnbdmaa.Fn
def pq (k v : ByteArray) : Bool := (cK.f k v).getD false
theorem nV (k v : ByteArray) : cK.f k v = some (pq k v) := by
 unfold pq cK.f dO.f
 simp only [Option.bind_some]
 split
 ·split <;> rfl
 ·rfl
def si : Option ByteArray -> ByteArray -> Bool
 | none, _ => true
 | some p, k => wP p k
def lG : List ByteArray -> List ByteArray -> Option ByteArray -> Bool
 | [], _, _ => true
 | k :: ks, vs, prev => pq k (vs.headD ByteArray.empty) && si prev k && lG ks (vs.drop 1) (some k)
def jw (keys : List ByteArray) : Nat -> Option ByteArray
 | 0 => none
 | j + 1 => keys[j]?
theorem DW {keys vals : List ByteArray} {i : Nat} {k v : ByteArray} {B : Bool} (h : B = lG (keys.drop i) (vals.drop i) (jw keys i)) (hk : keys[i]? = some k) (hv : vals[i]? = some v) (hp : pq k v = true) (ho : ∀ p, jw keys i = some p -> wP p k = true) :
  B = lG (keys.drop (i + 1)) (vals.drop (i + 1)) (jw keys (i + 1)) := by
 rw [dY hk, dY hv, lG, List.headD_cons, hp, List.drop_succ_cons, List.drop_zero, Bool.true_and] at h
 rw [h]
 show _ = lG _ _ (keys[i]?)
 rw [hk]
 cases hpr : jw keys i with
 | none => rfl
 | some p => simp only [si, ho p hpr, Bool.true_and]
theorem Fp {keys vals : List ByteArray} {i : Nat} {k v : ByteArray} {B : Bool} (h : B = lG (keys.drop i) (vals.drop i) (jw keys i)) (hk : keys[i]? = some k) (hv : vals[i]? = some v) (hp : pq k v = false) : B = false := by
 rw [dY hk, dY hv, lG, List.headD_cons, hp, Bool.false_and, Bool.false_and] at h
 exact h
theorem Fq {keys vals : List ByteArray} {i : Nat} {k p : ByteArray} {B : Bool} (h : B = lG (keys.drop i) (vals.drop i) (jw keys i)) (hk : keys[i]? = some k) (hpr : jw keys i = some p) (ho : wP p k = false) : B = false := by
 rw [dY hk, lG, hpr] at h
 rw [h]
 simp only [si, ho, Bool.and_false, Bool.false_and]
theorem Jt {keys vals : List ByteArray} {i : Nat} {B : Bool} (h : B = lG (keys.drop i) (vals.drop i) (jw keys i)) (hi : keys.length <= i) : B = true := by
 rw [List.drop_eq_nil_of_le hi, lG] at h
 exact h
def pz (P : List bH) : Option PT := match bX P 10 0 with
 | none => none
 | some r => if r.2 ≠ P.length then none else if lG (bB r.1) (dL r.1) none = false then none else if fP r.1 < 0 ∨ (r.1.kids.length ≠ 0 /\ r.1.keys.length = 0) ∨ 40 < (bB r.1).length then none else some r.1
def sj (k : Nat) (P : List bH) : Option (Option PT) := match bX P (P.length + 1) 0 with
 | none => some none
 | some r => if r.2 ≠ P.length then some none else if (gG r.1).2 = false then some none else (bR.f k (bB r.1) (dL r.1)).bind fun b => some (if b = true then some r.1 else none)
theorem zD {α : Type} : ∀ (cs : List (List α)) (ks : List α), (bN cs ks).length <= (cs.map List.length).sum + ks.length
 | [], ks => by simp [bN]
 | c :: cs, [] => by simp [bN]
 | c :: cs, k :: ks => by
  have := zD cs ks
  simp only [bN, List.length_append, List.length_cons, List.map_cons, List.sum_cons]
  omega
structure Fits (t : PT) (m : Nat) : Prop where
 yB : mJ t
 four : t.keys.length <= 4
 k : (bB t).length <= 4 * m
 v : (dL t).length <= 4 * m
theorem zF {rd : Nat -> Option (PT × Nat)} (hrd : ∀ a t n, rd a = some (t, n) -> a < n /\ Fits t (n - a)) : ∀ (l : List Int) (next : Nat) (acc ts : List PT) (n s : Nat),
  (∀ t ∈ acc, mJ t) -> ((acc.map bB).map List.length).sum <= 4 * s -> ((acc.map dL).map List.length).sum <= 4 * s -> dQ rd l next acc = some (ts, n) ->
  next <= n /\ ts.length = acc.length + l.length /\ (∀ t ∈ ts, mJ t) /\ ((ts.map bB).map List.length).sum <= 4 * (s + (n - next)) /\ ((ts.map dL).map List.length).sum <= 4 * (s + (n - next))
 | [], next, acc, ts, n, s, h1, h2, h3, h => by
  rw [dQ] at h
  injection h with h
  injection h with e1 e2
  subst e1; subst e2
  refine ⟨Nat.le_refl _, by simp, h1, by omega, by omega⟩
 | k :: ks, next, acc, ts, n, s, h1, h2, h3, h => by
  rw [dQ] at h
  split at h
  ·cases h
  ·cases hr : rd next with
   | none => rw [hr] at h; cases h
   | some r =>
    rw [hr] at h
    obtain ⟨t, m⟩ := r
    obtain ⟨hlt, hf⟩ := hrd next t m hr
    have hk := hf.k
    have hv := hf.v
    have := zF hrd ks m (acc ++ [t]) ts n (s + (m - next)) (fun x hx => by
     rcases List.mem_append.1 hx with hx | hx
     ·exact h1 x hx
     ·rw [List.mem_singleton.1 hx]; exact hf.yB) (by simp only [List.map_append, List.map_cons, List.map_nil, List.sum_append, List.sum_cons, List.sum_nil]; omega) (by simp only [List.map_append, List.map_cons, List.map_nil, List.sum_append, List.sum_cons, List.sum_nil]; omega) h
    obtain ⟨g1, g2, g3, g4, g5⟩ := this
    rw [List.length_append] at g2
    simp only [List.length_cons, List.length_nil] at g2 ⊢
    exact ⟨by omega, by omega, g3, by omega, by omega⟩
theorem iY {P : List bH} : ∀ (f a : Nat) (t : PT) (n : Nat), bX P f a = some (t, n) -> a < n /\ Fits t (n - a)
 | 0, a, t, n, h => by cases h
 | f + 1, a, t, n, h => by
  rw [bX] at h
  split at h
  ·cases h
  ·split at h
   ·cases h
   ·rename_i hl hb
    generalize P.getD a lF = p at h hb
    unfold fin at h
    obtain ⟨r, hr, e⟩ := Option.map_eq_some_iff.1 h
    obtain ⟨ts, m⟩ := r
    injection e with e1 e2
    have e2 : m = n := e2
    subst e2
    have := zF (fun a t n h => iY f a t n h) p.f2 (a + 1) [] ts m 0 (fun t h => by cases h) (by simp) (by simp) hr
    obtain ⟨g1, g2, g3, g4, g5⟩ := this
    have hb' : pR p = false := by cases hbb : pR p <;> simp_all
    unfold pR at hb'
    simp only [Bool.or_eq_false_iff, Bool.and_eq_false_iff, decide_eq_false_iff_not, bne_eq_false_iff_eq] at hb'
    have e1 : PT.mk p.f0 p.f1 ts = t := e1
    subst e1
    simp only [List.length_nil] at g2
    have s1 : uQ (.mk p.f0 p.f1 ts) := by
     unfold uQ
     simp only [PT.keys, PT.vals, PT.kids]
     omega
    refine ⟨by omega, mJ.mk' s1 (fun i s hs => g3 s (List.mem_of_getElem? hs)), by show p.f0.length <= 4; omega, ?_, ?_⟩
    ·rw [nU]
     have := zD (ts.map bB) p.f0
     show (bN (ts.map bB) p.f0).length <= _
     omega
    ·rw [yK]
     have := zD (ts.map dL) p.f1
     show (bN (ts.map dL) p.f1).length <= _
     omega
theorem CB {α β : Type} : ∀ (cs : List (List α)) (ds : List (List β)) (ks : List α) (vs : List β), cs.map List.length = ds.map List.length -> ks.length = vs.length -> (bN cs ks).length = (bN ds vs).length
 | [], [], ks, vs, _, h => by simpa [bN] using h
 | [], d :: ds, ks, vs, h, _ => by simp at h
 | c :: cs, [], ks, vs, h, _ => by simp at h
 | c :: cs, d :: ds, [], [], h, _ => by simp at h; simp [bN, h.1]
 | c :: cs, d :: ds, [], v :: vs, _, h => by simp at h
 | c :: cs, d :: ds, k :: ks, [], _, h => by simp at h
 | c :: cs, d :: ds, k :: ks, v :: vs, h1, h2 => by
  simp only [List.map_cons, List.cons.injEq] at h1
  have := CB cs ds ks vs h1.2 (by simpa using h2)
  simp only [bN, List.length_append, List.length_cons]
  omega
theorem CE : ∀ (n : Nat) {t : PT}, SizeOf.sizeOf t <= n -> mJ t -> (dL t).length = (bB t).length
 | 0, t, h, _ => by cases t; simp at h
 | n + 1, t, h, hs => by
  have h1 := hs.one
  unfold uQ at h1
  rw [yK, nU]
  refine CB _ _ _ _ ?_ h1.1.symm
  rw [List.map_map, List.map_map]
  refine List.map_congr_left fun s hm => ?_
  obtain ⟨i, hi⟩ := List.getElem?_of_mem hm
  have := PT.gT hi
  exact CE n (by omega) (hs.kid hi)
theorem iO {t : PT} (h : mJ t) : (dL t).length = (bB t).length := CE _ (Nat.le_refl _) h
end Go.Proofs.Ytoddejmlcnbdmaa.Tree

