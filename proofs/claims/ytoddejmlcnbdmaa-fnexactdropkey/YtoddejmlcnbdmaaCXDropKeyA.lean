/- The law FnExactDropKey holds of the given program: at every input it answers true and leaves its arguments as they were; no condition. This text: part 1 of what its proof reaches. -/
import Derived.Test.YtoddejmlcnbdmaaQWLast
import Derived.Test.YtoddejmlcnbdmaaQWMore
import Derived.Lib.SliceRun
import Derived.Deep.QuietTactic
import Derived.BigQuiet
import Derived.KernelRfl
import Derived.Test.YtoddejmlcnbdmaaQWWords
import Derived.OpenShut
import Derived.WideShapes
import Derived.Lib.Strings
import Derived.Test.YtoddejmlcnbdmaaProg
import Derived.Below
import Derived.Deep.Draws
import Derived.Deep.AppendLies
import Derived.Maps.AppendAt
import Derived.OwnWalk
import Derived.Laws.BytesArg
import Derived.Laws.MakeOwn
import Derived.Laws.OwnMore
import Derived.Deep.OwnRows
import Derived.Tactics
import Derived.Lib.ConvBytes
import Derived.Laws.Slices
import Derived.WalkKit
import Derived.RowKit3
import Derived.Deep.LoopGhost
import Derived.WideLaws
import Derived.Deep.DeepCutAuto
import Derived.Deep.CutBlock
import Derived.Deep.RegionHeld3
import Derived.Laws.Rows
import Derived.Lib.AppendStr
import Derived.ArgAppend
import Derived.Laws.IdiomCopy
import Derived.OrdersHeld
import Derived.Laws.BitsLemmas
import Derived.Laws.Cover1
import Derived.Laws.Strings
import Derived.RowKit
import Derived.Test.YtoddejmlcnbdmaaQWTab
import Derived.Test.YtoddejmlcnbdmaaQWFour
import Derived.Test.YtoddejmlcnbdmaaQWQPut
import Derived.Test.YtoddejmlcnbdmaaQWApart
import Derived.Test.YtoddejmlcnbdmaaQWArr
import Derived.Test.YtoddejmlcnbdmaaQWZeros
import Derived.Test.YtoddejmlcnbdmaaQWFoot
import Derived.Test.YtoddejmlcnbdmaaQWKept
import Derived.Test.YtoddejmlcnbdmaaQWShare
import Derived.Test.YtoddejmlcnbdmaaQWN
import Derived.Test.YtoddejmlcnbdmaaQWFootNe
import Derived.Test.YtoddejmlcnbdmaaQWAt
import Derived.Test.YtoddejmlcnbdmaaQWEqStruct
import Derived.Test.YtoddejmlcnbdmaaQWRepsOne
import Derived.Test.YtoddejmlcnbdmaaQWInv
import Derived.Test.YtoddejmlcnbdmaaQWInvWords
import Derived.Test.YtoddejmlcnbdmaaQWGuard
import Derived.Test.YtoddejmlcnbdmaaQWNEv
set_option maxHeartbeats 8000000
set_option maxRecDepth 100000
set_option linter.unusedVariables false
set_option linter.unusedSimpArgs false
open Go.RowKit Go.Proofs.YtoddejmlcnbdmaaW.PrintWords Go.Proofs.YtoddejmlcnbdmaaW.PrintLast Go.Proofs.YtoddejmlcnbdmaaW.PrintMore
namespace Go.Proofs.Ytoddejmlcnbdmaa.Gen
theorem abq {o : Option Bool} {r : Bool} (h : o = some r) (hf : o = none ∨ o = some false) (ht : r = true) : False := by
  subst ht
  rcases hf with hf | hf <;> rw [hf] at h <;> simp at h
/-! Short words for what a long walk says again and again. -/
theorem gW {p q : Prop} (h0 : p) (h : p -> q := by intro EI; (with_reducible repeat (first | refine cB ?_ _ | refine dF ?_ | refine dY ?_ _)); exact EI) : q := h h0
theorem qU {p q : Prop} (h0 : p) (h : p -> q := by intro EI; (with_reducible repeat (first | apply Kd.jR | apply Kd.jS | apply Kd.mI)); exact EI) : q := h h0
theorem rW {p q : Prop} (h0 : p) (h : p -> q := by intro EI; (with_reducible repeat (first | apply Kd.yO | apply Kd.yP | apply Kd.Dr)); exact EI) : q := h h0
theorem ko {p q : Prop} (h0 : p) (h : p -> q := by intro EI; repeat (first | (with_reducible first | exact EI | apply aK | apply ah | apply aT | (refine bL ?_ (ae.out ?_); rotate_left; assumption)) | exact EI)) : q := h h0
theorem sx_ {α : Type} : (∀ (l : List α) (i : Nat) (a : α), l.toArray.setIfInBounds i a = (l.set i a).toArray) /\ (∀ (x a : α) (l : List α), (x :: l).set 0 a = a :: l) /\ (∀ (x a : α) (l : List α) (i : Nat), (x :: l).set (i + 1) a = x :: l.set i a) :=
  ⟨fun _ _ _ => by simp, fun _ _ _ => rfl, fun _ _ _ _ => rfl⟩
theorem wx_ : (∀ n : Int, IntKind.i64.wrap n = Go.RowKit.wrap64 n) /\ (∀ n : Int, IntKind.i32.wrap n = Go.RowKit.wrap32 n) := ⟨xO, PW⟩
theorem eP {p : Prop} (h : p := by first | (with_reducible assumption) | assumption) : p := h
theorem lH {p q : Prop} (h0 : p) (h : p -> q := by intro EI; repeat (first | exact EI | (with_reducible refine Kd.ed ?_ _) | (with_reducible refine Kd.dx ?_ _) | (with_reducible refine Kd.eD ?_))) : q := h h0
theorem kb_ {p q : Prop} (h0 : p) (h : p -> q := by intro EI; repeat (first | (with_reducible first | exact EI | apply iA.abT | apply Nf | apply QW | apply Ng | (refine Su ?_ (ae.out ?_) _; rotate_left; assumption)) | exact EI)) : q := h h0
theorem mY {p : Prop} (h : p := by (try simp only [List.map_toArray, List.map_cons, List.map_nil]); first | done | rfl | (simp only [List.length_drop, List.length_take]; rfl)) : p := h
theorem jO {w w1 W W2 : World} (h0 : Below w.heap.size w w1) (hb : Below W.heap.size W W2) (h : Below w.heap.size w w1 -> Below w.heap.size w W := by intro EI; repeat (first | (with_reducible first | exact EI | apply aK | apply ah | apply aT | (refine bL ?_ (ae.out ?_); rotate_left; assumption)) | exact EI)) : Below w.heap.size w W2 := bA (h h0) hb
theorem iU {w w1 W : World} (h0 : Below w.heap.size w w1) (h : Below w.heap.size w w1 -> Below w.heap.size w W := by intro EI; repeat (first | (with_reducible first | exact EI | apply aK | apply ah | apply aT | (refine bL ?_ (ae.out ?_); rotate_left; assumption)) | exact EI)) : w.heap.size <= W.heap.size := Nh (h h0)
theorem bz_ {w0 W W' : World} {g : Nat} {o : Obj} (h0 : ae (w0.heap[g]? = some o)) (hb : Below W.heap.size W W') (h : w0.heap[g]? = some o -> W.heap[g]? = some o := by intro EI; (with_reducible repeat (first | refine cB ?_ _ | refine dF ?_ | refine dY ?_ _)); exact EI) : W'.heap[g]? = some o := av (h h0.out) hb
theorem nz_ {w0 W : World} {g g' : Nat} {o : Obj} (h0 : ae (w0.heap[g]? = some o)) (hg : g' = W.heap.size) (h : w0.heap[g]? = some o -> W.heap[g]? = some o := by intro EI; (with_reducible repeat (first | refine cB ?_ _ | refine dF ?_ | refine dY ?_ _)); exact EI) : g ≠ g' := by
  rw [hg]; exact Nat.ne_of_lt (dh (h h0.out))
theorem VA {P : Program} (w : World) (t e : TypeId) (a : Option Addr) (n c : Nat) (h : P.underlying t = some (.slice e)) :
    (binOp .eql t (.slice a n c) (.slice none 0 0)).run P w = .ok (.bool a.isNone) w := Go.Lib.run_eql_slice_nil w t e a n c 0 0 h
theorem qC (l : List UInt8) : (!l.isEmpty) = (l != []) := by cases l <;> rfl
theorem uK (a b : List UInt8) : ((!Op.bytesLess a b) && (!(a == b))) = Op.bytesLess b a := by
  induction a generalizing b with
  | nil => cases b <;> rfl
  | cons x s ih =>
    cases b with
    | nil => rfl
    | cons y t =>
      have ih := ih t
      have e : ((x :: s) == (y :: t)) = ((x == y) && (s == t)) := rfl
      simp only [Op.bytesLess, e]
      rcases Nat.lt_trichotomy x.toNat y.toNat with h | h | h
      · have h1 : x < y := UInt8.lt_iff_toNat_lt.2 h
        have h2 : ¬ y < x := fun z => by have := UInt8.lt_iff_toNat_lt.1 z; omega
        have h3 : (y == x) = false := by
          rw [beq_eq_false_iff_ne]
          intro z
          rw [z] at h
          omega
        simp only [h1, h2, h3, decide_true, decide_false, Bool.true_or, Bool.not_true, Bool.false_and, Bool.false_or]
      · have h0 : x = y := UInt8.toNat_inj.1 h
        subst h0
        have h2 : ¬ x < x := fun z => by have := UInt8.lt_iff_toNat_lt.1 z; omega
        simp only [h2, decide_false, beq_self_eq_true, Bool.true_and, Bool.false_or]
        exact ih
      · have h1 : y < x := UInt8.lt_iff_toNat_lt.2 h
        have h2 : ¬ x < y := fun z => by have := UInt8.lt_iff_toNat_lt.1 z; omega
        have h3 : (x == y) = false := by
          rw [beq_eq_false_iff_ne]
          intro z
          rw [z] at h
          omega
        simp only [h1, h2, h3, decide_true, decide_false, Bool.true_or, Bool.not_false, Bool.false_and, Bool.false_or, Bool.true_and]
section
variable {P : Program} {ops : Array Oper} {Q : Exit -> Act -> World -> Prop}
/-- The operation is a call through a slot. -/
theorem WU {rest : List Oper} {o : Oper} {a : Act} {W : World} {t : Tmp} {xa : Array Operand} {ts : Array TypeId} (_ho : o.op = .call { callee := .value (.tmp t), args := xa, argTypes := ts }) (h : wpList P ops Q (o :: rest) a W) : wpList P ops Q (o :: rest) a W := h
theorem Sv {rest : List Oper} {oi : Oper} {a : Act} {w : World} (N : Option Tmp) (hd : oi.dst = N) (hg : oi.guard = none) {f : FuncId} {fn : Func} {t : Tmp} {xa : Array Operand} {ts : Array TypeId} (hf : P.funcs[f]? = some fn) (hname : (fn.name == "runtime.NumGoroutine") = false) (hb : fn.body.isSome = true) (args : Array Value)
    (hop : oi.op = .call { callee := .value (.tmp t), args := xa, argTypes := ts }) (hargs : xa.map a.eval = args) 
    (h : Calls P f args w fun e w' => ∃ v, e = .returned v /\ wpList P ops Q rest (a.put N v) w') (hv : a.eval (.tmp t) = .func (.func f) #[] #[] := by rfl) : wpList P ops Q (oi :: rest) a w := by
  refine wpList_plain hg fun K hK => ?_
  have he := IV hf hname hb args w
  have hrun : (execOp a.eval oi).run P w = .ok (.enter f args) w := by
    unfold execOp
    simp [hop, resolve, Deferred.ofValue, invoke, hv, hargs, he]
  unfold Oper.wp
  rw [hrun, Oper.upon_enter]
  refine h.mono fun e w'' hh => ?_
  obtain ⟨v, rfl, hk⟩ := hh
  subst hd
  exact hK _ _ hk
end
end Go.Proofs.Ytoddejmlcnbdmaa.Gen
open Go.Proofs.Ytoddejmlcnbdmaa.Gen
namespace Go.Proofs.Ytoddejmlcnbdmaa.Gen
theorem A_ {p : Prop} (h : p) : ae p := ⟨h⟩
theorem dN (p : Prop) (h : p := by omega) : p = True := eq_true h
theorem mZ (p : Prop) [Decidable p] (h : ¬ p := by omega) : decide p = false := decide_eq_false h
theorem pF (p : Prop) [Decidable p] (h : p := by omega) : decide p = true := decide_eq_true h
theorem oI {α : Type} (x : α) : ∃ r, ae (r = x) := ⟨x, ⟨rfl⟩⟩
theorem eY {b n k : Nat} {w W : World} (h : ae (b <= w.heap.size)) (g : ae (Below n w W)) (e : W.heap.size = k := by with_unfolding_all rfl) : b <= k := e ▸ Nat.le_trans h.out (Below.size g.out)
section
variable {P : Program} {ops : Array Oper} {Q : Exit -> Act -> World -> Prop} {rest : List Oper} {o : Oper} {a : Act} {W : World}
theorem lY (N : Tmp) (cs : Array Value) (t : TypeId)
    (h : ∀ g, g = W.heap.size -> ∀ w1, w1.heap[g]? = some (.cells cs t (0, 0)) -> Below W.heap.size W w1 -> wpList P ops Q rest (a.put o.dst (.pointer (some ⟨g, 0, none⟩))) w1)
    (hN : o.dst = some N := by rfl) (hgd : o.guard = none := by rfl)
    (hrun : (execOp a.eval o).run P W = .ok (.value (.pointer (some ⟨W.heap.size, 0, none⟩))) (W.alloc (.cells cs t (0, 0))) := by first | (go_simp; done) | (go_simp; rfl)) : wpList P ops Q (o :: rest) a W := Gx hgd hN hrun h
end
def btl (x : Nat) : Nat -> List Bool
  | 0 => []
  | n + 1 => (x % 2 == 1) :: btl (x / 2) n
/-- The first n bits of x. -/
def bt (n x : Nat) : Array Bool := ⟨btl x n⟩
section
variable {P : Program} {ops : Array Oper} {Q : Exit -> Act -> World -> Prop} {md : Region.Mode} {S : World -> Prop} {ds : List Nat} {fuel m y : Nat} {a : Act} {w : World}
theorem aQ (i n x : Nat) {oi : Oper} {v : Value} {a' : Act} (h : bg P md ops Q S ds fuel (bt m x) a' w)
    (hi : ops[i]? = some oi := by rfl) (hN : oi.dst = some n := by rfl) (hc : Sw md ops (bt m y) (bt m x) i = true := by kernel_rfl)
    (hQ : ∀ c a w, Q (.panic c) (a.put oi.dst v) w -> Q (.panic c) a w := by exact fun _ _ _ h => h)
    (hy : Yields P ops oi v a := by refine Or.inl ⟨by rfl, ?_⟩; intro w'; go_simp; with_reducible rfl)
    (ha : a.put (some n) v = a' := by simp only [Act.put, List.setIfInBounds_toArray, List.set_cons_zero, List.set_cons_succ, xO, PW]; rfl) : bg P md ops Q S ds (fuel + 1) (bt m y) a w :=
  aaa (bt m x) hi hN hc hQ hy ha h
theorem gF (i n x : Nat) (hS : S w) {oi : Oper} {v : Value} {a' : Act} (h : bg P md ops Q S ds fuel (bt m x) a' w)
    (hi : ops[i]? = some oi := by rfl) (hN : oi.dst = some n := by rfl) (hc : takeB md ops ds (bt m y) (bt m x) i = true := by kernel_rfl)
    (hQ : ∀ c a w, Q (.panic c) (a.put oi.dst v) w -> Q (.panic c) a w := by exact fun _ _ _ h => h)
    (hy : YieldsIf P ops S oi v a := by refine Or.inl ⟨by rfl, ?_⟩; intro w' s_; (repeat (have s0_ := s_.1; replace s_ := s_.2)); go_simp; with_reducible rfl)
    (ha : a.put (some n) v = a' := by simp only [Act.put, List.setIfInBounds_toArray, List.set_cons_zero, List.set_cons_succ, xO, PW]; rfl) : bg P md ops Q S ds (fuel + 1) (bt m y) a w :=
  Gy (bt m x) hi hN hc hQ hy hS ha h
theorem jm (i : Nat) (N : Option Tmp) (x : Nat) {oi : Oper}
    (h : ∀ K : Act -> World -> Prop, Shut (∀ a' w', S w' -> (S w' -> bg P md ops Q S ds fuel (bt m x) a' w') -> K a' w') -> if Region.wanted oi (yielded ops a.tmps) = true then Oper.wp P oi a w K Q else K (a.put N undef) w)
    (hi : ops[i]? = some oi := by rfl) (hN : oi.dst = N := by rfl) (hc : (Region.ready md ops (bt m y) == [i] && (bt m y).setIfInBounds i true == bt m x) = true := by kernel_rfl) (hd : i ∉ ds := by decide) :
    bg P md ops Q S ds (fuel + 1) (bt m y) a w := IW (bt m x) hi hN hc hd h
theorem wZ (i : Nat) (N : Option Tmp) (x : Nat) {oi : Oper}
    (h : ∀ K : Act -> World -> Prop, Shut (∀ a' w', bg P md ops Q S ds fuel (bt m x) a' w' -> K a' w') -> if Region.wanted oi (yielded ops a.tmps) = true then Oper.wp P oi a w K Q else K (a.put N undef) w)
    (hi : ops[i]? = some oi := by rfl) (hN : oi.dst = N := by rfl) (hc : (Region.ready md ops (bt m y) == [i] && (bt m y).setIfInBounds i true == bt m x) = true := by kernel_rfl) (hd : i ∈ ds := by decide) :
    bg P md ops Q S ds (fuel + 1) (bt m y) a w := aab (bt m x) hi hN hc hd h
theorem fw (n : Nat) {a0 a' : Act} {v : Value} {l : Array Bool} (h : bg P md ops Q S ds fuel l a' w) (ha : Act.put a0 (some n) v = a' := by simp only [Act.put, List.setIfInBounds_toArray, List.set_cons_zero, List.set_cons_succ, xO, PW]; rfl) : bg P md ops Q S ds fuel l (Act.put a0 (some n) v) w := Cg ha h
theorem CL {a0 a' : Act} {l : Array Bool} (h : bg P md ops Q S ds fuel l a' w) (e : a0 = a' := by simp only [sU, Act.put, List.setIfInBounds_toArray, List.set_cons_zero, List.set_cons_succ]) : bg P md ops Q S ds fuel l a0 w := Cg e h
theorem IX (i j : Nat) (Ni Nj : Option Tmp) (x z : Nat) {oi oj : Oper}
    (h1 : ∀ K : Act -> World -> Prop, Shut (∀ a' w', S w' -> (S w' -> bg P md ops Q S ds fuel (bt m x) a' w') -> K a' w') -> if Region.wanted oi (yielded ops a.tmps) = true then Oper.wp P oi a w K Q else K (a.put Ni undef) w)
    (h2 : ∀ K : Act -> World -> Prop, Shut (∀ a' w', S w' -> (S w' -> bg P md ops Q S ds fuel (bt m z) a' w') -> K a' w') -> if Region.wanted oj (yielded ops a.tmps) = true then Oper.wp P oj a w K Q else K (a.put Nj undef) w)
    (hi : ops[i]? = some oi := by rfl) (hj : ops[j]? = some oj := by rfl) (hNi : oi.dst = Ni := by rfl) (hNj : oj.dst = Nj := by rfl)
    (hc : (Region.ready md ops (bt m y) == [i, j] && (bt m y).setIfInBounds i true == bt m x && (bt m y).setIfInBounds j true == bt m z) = true := by kernel_rfl) (hdi : i ∉ ds := by decide) (hdj : j ∉ ds := by decide) :
    bg P md ops Q S ds (fuel + 1) (bt m y) a w := abU _ _ hi hj hNi hNj hc hdi hdj h1 h2
theorem wm {oi : Oper} {N : Option Tmp} {K : Act -> World -> Prop} {f : FuncId} {fn : Func} {ar : Array Operand} {ts : Array TypeId} (hf : P.funcs[f]? = some fn) (args : Array Value)
    (h : Calls P f args w fun e w' => ∃ v, e = .returned v /\ K (a.put N v) w')
    (hname : (fn.name == "runtime.NumGoroutine") = false := by kernel_rfl) (hb : fn.body.isSome = true := by rfl)
    (hw : Region.wanted oi (yielded ops a.tmps) = true := by rfl) (hN : oi.dst = N := by rfl) (hop : oi.op = .call { callee := .value (.func f), args := ar, argTypes := ts } := by rfl)
    (hargs : ar.map a.eval = args := by simp only [List.map_toArray, List.map_cons, List.map_nil]; rfl) : if Region.wanted oi (yielded ops a.tmps) = true then Oper.wp P oi a w K Q else K (a.put N undef) w :=
  KL hf hname hb args hw hN hop hargs h
end
end Go.Proofs.Ytoddejmlcnbdmaa.Gen
open Go.Proofs.Ytoddejmlcnbdmaa.Gen
namespace Go.Proofs.Ytoddejmlcnbdmaa.Pure
theorem jD {n : Int} (h0 : -9223372036854775808 <= n) (h1 : n <= 9223372036854775807) : wrap64 n = n := IntWalk.wrap64_in n ⟨h0, h1⟩
theorem eT {i : Nat} (h : i <= 9223372036854775806) : wrap64 ((i : Int) + 1) = ((i + 1 : Nat) : Int) := by
 rw [jD (by omega) (by omega)]; omega
theorem Dt (i : Nat) : (0 : Int) <= (i : Int) := by omega
section
variable {α : Type} {l t : List α} {i : Nat} {x z : α}
theorem drop_nil (h : l.drop i = []) : ¬ ((i : Int) < (l.length : Int)) := by
 have := List.drop_eq_nil_iff.1 h
 omega
theorem drop_cons (h : l.drop i = x :: t) : ((i : Int) < (l.length : Int)) /\ l[i]? = some x /\ l.drop (i + 1) = t := by
 have hlt : i < l.length := by
  rcases Nat.lt_or_ge i l.length with h1 | h1
  ·exact h1
  ·rw [List.drop_eq_nil_of_le h1] at h; cases h
 rw [List.drop_eq_getElem_cons hlt] at h
 injection h with h1 h2
 exact ⟨by omega, by rw [List.getElem?_eq_getElem hlt, h1], h2⟩
theorem KM (h : l.drop i = t) (hi : i <= l.length) : i + t.length = l.length := by
 rw [<- h, List.length_drop]; omega
theorem getD_at (h : l[i]? = some x) : l.getD ((i : Nat) : Int).toNat z = x := by
 rw [Int.toNat_natCast, List.getD_eq_getElem?_getD, h]; rfl
theorem FZ {n : Nat} {y : α} (h : l.drop i = x :: t) : (l.take i ++ List.replicate (n + 1) z).set i y = l.take i ++ [y] ++ List.replicate n z := by
 have hlt : i < l.length := by have := (drop_cons h).1; omega
 have h0 : i = (l.take i).length := by rw [List.length_take]; omega
 rw [List.set_append_right _ _ (by omega)]
 have h1 : i - (l.take i).length = 0 := by omega
 rw [h1, List.replicate_succ]
 simp
theorem QX (h : l.drop i = x :: t) : l.take (i + 1) = l.take i ++ [x] := by
 have hlt : i < l.length := by have := (drop_cons h).1; omega
 rw [List.take_succ_eq_append_getElem hlt]
 have := (drop_cons h).2.1
 rw [List.getElem?_eq_getElem hlt] at this
 injection this with this
 rw [this]
theorem Sy (h : l.drop i = []) : l.take i = l := List.take_of_length_le (List.drop_eq_nil_iff.1 h)
end
theorem WV {l : List Int} {i : Nat} {x : Int} (h : l[i]? = some x) : rd l (i : Int) = x := getD_at h
theorem iB {α : Type} {l : List α} {i : Nat} {x z : α} (h : l[i]? = some x) : cK z l (i : Int) = x := getD_at h
theorem IY (n : Nat) (P : Nat -> Prop) (hn : P n) (hs : ∀ i, i < n -> P (i + 1) -> P i) : P 0 := by
 have : ∀ d, d <= n -> P (n - d) := by
  intro d
  induction d with
  | zero => intro _; simpa using hn
  | succ d ih =>
   intro hd
   refine hs _ (by omega) ?_
   have e : n - (d + 1) + 1 = n - d := by omega
   rw [e]
   exact ih (by omega)
 have := this n (Nat.le_refl _)
 simpa using this
theorem Ev.all {α : Type} {g : Nat -> Option α} {r : α} (h : ∀ k, g k = some r) : Ev g r := ⟨0, fun k _ => h k⟩
theorem Ev.next {α : Type} {g f : Nat -> Option α} {r : α} {K : Nat} (h : ∀ k, K <= k -> g (k + 1) = f k) (hf : Ev f r) : Ev g r := by
 obtain ⟨K', hf⟩ := hf
 refine ⟨max K K' + 1, fun k hk => ?_⟩
 obtain ⟨m, rfl⟩ : ∃ m, k = m + 1 := ⟨k - 1, by omega⟩
 rw [h m (by omega)]
 exact hf m (by omega)
theorem Ev.same {α : Type} {g f : Nat -> Option α} {r : α} {K : Nat} (h : ∀ k, K <= k -> g k = f k) (hf : Ev f r) : Ev g r := by
 obtain ⟨K', hf⟩ := hf
 exact ⟨max K K', fun k hk => (h k (by omega)).trans (hf k (by omega))⟩
theorem PX {α β : Type} (L : Nat -> List β -> Int -> Option (List β)) (f : α -> β) (z : β) (l : List α)
  (hend : ∀ k x3, L (k + 1) x3 (l.length : Int) = some x3)
  (hstep : ∀ (i : Nat) (x : α), l[i]? = some x -> ∃ K, ∀ k (x3 : List β), K <= k -> x3.length = l.length -> L (k + 1) x3 (i : Int) = L k (x3.set i (f x)) ((i + 1 : Nat) : Int)) :
  Ev (fun k => L k (List.replicate l.length z) 0) (l.map f) := by
 have := IY l.length (fun i => Ev (fun k => L k ((l.take i).map f ++ List.replicate (l.length - i) z) (i : Int)) (l.map f)) ?_ ?_
 ·simpa using this
 ·refine ⟨1, fun k hk => ?_⟩
  obtain ⟨m, rfl⟩ : ∃ m, k = m + 1 := ⟨k - 1, by omega⟩
  dsimp only
  rw [hend]
  simp
 ·intro i hi ih
  have hx : l[i]? = some l[i] := List.getElem?_eq_getElem hi
  obtain ⟨K, hK⟩ := hstep i _ hx
  refine Ev.next (K := K) (fun k hk => ?_) ih
  rw [hK k _ hk (by simp; omega)]
  congr 1
  have h0 : i = ((l.take i).map f).length := by simp; omega
  rw [List.set_append_right _ _ (by omega)]
  have h1 : i - ((l.take i).map f).length = 0 := by omega
  have h2 : l.length - i = (l.length - (i + 1)) + 1 := by omega
  rw [h1, h2, List.replicate_succ, List.set_cons_zero, List.take_succ_eq_append_getElem hi, List.map_append]
  simp
theorem Sz {ρ : Type} (L : Nat -> Int -> Option ρ) (n : Nat) (r : ρ) (hend : ∀ k, L (k + 1) (n : Int) = some r)
  (hstep : ∀ (i : Nat), i < n -> ∃ K, ∀ k, K <= k -> L (k + 1) (i : Int) = L k ((i + 1 : Nat) : Int)) : Ev (fun k => L k 0) r := by
 have := IY n (fun i => Ev (fun k => L k (i : Int)) r) ⟨1, fun k hk => by obtain ⟨m, rfl⟩ : ∃ m, k = m + 1 := ⟨k - 1, by omega⟩; exact hend m⟩ (fun i hi ih => by
  obtain ⟨K, hK⟩ := hstep i hi
  exact Ev.next hK ih)
 simpa using this
theorem bS {p : Prop} (h : p := by first | omega | assumption | rfl | (simp only [List.length_map, List.length_replicate, List.length_take, List.length_drop, List.length_append, List.length_cons, List.length_nil, List.length_set]; omega) | (simp <;> fail)) : p := h
section
variable {α β γ δ : Type}
theorem Ev.up {g : Nat -> Option α} {r : α} (h : Ev (fun k => g (k + 1)) r) : Ev g r := Ev.next (K := 0) (fun _ _ => rfl) h
theorem Ev.kU {c : Prop} {dc : Decidable c} {A B : Nat -> Option α} {r : α} (hc : c) (h : Ev A r) : Ev (fun k => if c then A k else B k) r :=
 Ev.same (K := 0) (fun k _ => by rw [if_pos hc]) h
theorem Ev.lF {c : Prop} {dc : Decidable c} {A B : Nat -> Option α} {r : α} (hc : ¬ c) (h : Ev B r) : Ev (fun k => if c then A k else B k) r :=
 Ev.same (K := 0) (fun k _ => by rw [if_neg hc]) h
theorem Ev.val {a r : α} (h : a = r) : Ev (fun _ => some a) r := Ev.all fun _ => by rw [h]
theorem Ev.dw {a : α} {f : Nat -> α -> Option β} {r : β} (h : Ev (fun k => f k a) r) : Ev (fun k => (some a).bind (f k)) r := Ev.bind (Ev.val rfl) h
variable {R : α -> β -> Prop} {A A1 A2 : Nat -> Option α} {B B1 B2 : Nat -> Option β}
end
theorem qd {p : Prop} [Decidable p] : (decide p = true) = p := decide_eq_true_eq
end Go.Proofs.Ytoddejmlcnbdmaa.Pure
namespace Go.Proofs.Ytoddejmlcnbdmaa.Fn
def aac : Option Int -> Value
  | none => .nilIface
  | some c => .iface 0 (.int .i64 c)
theorem mQ : aac none = .nilIface := rfl
theorem mR (c : Int) : aac (some c) = .iface 0 (.int .i64 c) := rfl
theorem vE {p : Prop} (h : p := by first | rfl | (simp [mQ, mR] <;> rfl) | (simp [*, mQ, mR] <;> rfl)) : p := h
theorem info3 : (Try.prog.info? 3).map (fun i => (i.zero, i.size, i.bytes)) = some (some (.int .i64 0), 1, 8) := by kernel_rfl
theorem eU : (Try.prog.info? 9).map (fun i => (i.zero, i.size, i.bytes)) = some (some (.string ⟨#[]⟩), 1, 16) := by kernel_rfl
theorem IZ : (Try.prog.info? 110).map (fun i => (i.zero, i.size, i.bytes)) = some (some (.agg #[(.slice none 0 0), (.slice none 0 0), (.slice none 0 0)]), 3, 72) := by kernel_rfl
structure mJ where
  f0 : (List ByteArray)
  f1 : (List ByteArray)
  f2 : (List Int)
def VB : mJ := ⟨([] : List ByteArray), ([] : List ByteArray), ([] : List Int)⟩
def KN : Kd mJ := Kd.iso (Kd.pair (Kd.slice 9 Kd.string) (Kd.pair (Kd.slice 9 Kd.string) (Kd.slice 3 (Kd.int .i64)))) (fun x : mJ => (x.f0, x.f1, x.f2))
theorem QY {w : World} {x : mJ} {cs : List Value} (h : KN.K w x cs) : ∃ A0 c0 A1 c1 A2 c2, cs = [.slice A0 x.f0.length c0, .slice A1 x.f1.length c1, .slice A2 x.f2.length c2] /\ x.f0.length <= c0 /\ Kd.string.C w A0 x.f0.length x.f0 /\ x.f1.length <= c1 /\ Kd.string.C w A1 x.f1.length x.f1 /\ x.f2.length <= c2 /\ (Kd.int .i64).C w A2 x.f2.length x.f2 := by
  obtain ⟨_, _, rfl, ⟨A0, c0, rfl, l0, g0⟩, ⟨_, _, rfl, ⟨A1, c1, rfl, l1, g1⟩, ⟨A2, c2, rfl, l2, g2⟩⟩⟩ := h
  exact ⟨A0, c0, A1, c1, A2, c2, rfl, l0, g0, l1, g1, l2, g2⟩
def dE (xs : List mJ) (i : Int) : mJ := xs.getD i.toNat VB
theorem I1 {w : World} {A : Option Addr} {n : Nat} {xs : List mJ} (h : Kd.C KN w A n xs) (i : Int) (h0 : 0 <= i) (h1 : i < n) : ∃ ad A0 c0 A1 c1 A2 c2, A = some ad /\ w.cell? (ad.add (i.toNat * 3)) = some (.slice A0 (dE xs i).f0.length c0) /\ w.cell? ⟨(ad.add (i.toNat * 3)).block, (ad.add (i.toNat * 3)).off + 1, none⟩ = some (.slice A1 (dE xs i).f1.length c1) /\ w.cell? ⟨(ad.add (i.toNat * 3)).block, (ad.add (i.toNat * 3)).off + 2, none⟩ = some (.slice A2 (dE xs i).f2.length c2) /\ (dE xs i).f0.length <= c0 /\ Kd.string.C w A0 (dE xs i).f0.length (dE xs i).f0 /\ (dE xs i).f1.length <= c1 /\ Kd.string.C w A1 (dE xs i).f1.length (dE xs i).f1 /\ (dE xs i).f2.length <= c2 /\ (Kd.int .i64).C w A2 (dE xs i).f2.length (dE xs i).f2 := by
  obtain ⟨ad, c, e, _, hK, hc0⟩ := Kd.WW h VB i h0 h1
  have hc : ∀ j u, c[j]? = some u -> w.cell? (ad.add (i.toNat * 3 + j)) = some u := hc0
  obtain ⟨A0, c0, A1, c1, A2, c2, rfl, l0, g0, l1, g1, l2, g2⟩ := QY hK
  exact ⟨ad, A0, c0, A1, c1, A2, c2, e, hc 0 _ rfl, by rw [<- xc _ _ 1 (by omega)]; exact hc 1 _ rfl, by rw [<- xc _ _ 2 (by omega)]; exact hc 2 _ rfl, l0, g0, l1, g1, l2, g2⟩
structure bE where
  f0 : (List ByteArray)
  f1 : (List ByteArray)
  f2 : (List Int)
def jG : bE := ⟨([] : List ByteArray), ([] : List ByteArray), ([] : List Int)⟩
def oP : Kd bE := Kd.iso (Kd.pair (Kd.slice 9 Kd.string) (Kd.pair (Kd.slice 9 Kd.string) (Kd.slice 3 (Kd.int .i64)))) (fun x : bE => (x.f0, x.f1, x.f2))
theorem QZ {w : World} {x : bE} {cs : List Value} (h : oP.K w x cs) : ∃ A0 c0 A1 c1 A2 c2, cs = [.slice A0 x.f0.length c0, .slice A1 x.f1.length c1, .slice A2 x.f2.length c2] /\ x.f0.length <= c0 /\ Kd.string.C w A0 x.f0.length x.f0 /\ x.f1.length <= c1 /\ Kd.string.C w A1 x.f1.length x.f1 /\ x.f2.length <= c2 /\ (Kd.int .i64).C w A2 x.f2.length x.f2 := by
  obtain ⟨_, _, rfl, ⟨A0, c0, rfl, l0, g0⟩, ⟨_, _, rfl, ⟨A1, c1, rfl, l1, g1⟩, ⟨A2, c2, rfl, l2, g2⟩⟩⟩ := h
  exact ⟨A0, c0, A1, c1, A2, c2, rfl, l0, g0, l1, g1, l2, g2⟩
theorem SA (w : World) (base : Nat) (ok : Nat -> Prop) (x : bE) {v0 : Value} (g0 : Kd.string.R 9 w base ok v0 x.f0) {v1 : Value} (g1 : Kd.string.R 9 w base ok v1 x.f1) {v2 : Value} (g2 : (Kd.int .i64).R 3 w base ok v2 x.f2) : oP.M w base ok x [v0, v1, v2] := ⟨[v0], [v1, v2], rfl, ⟨v0, rfl, g0⟩, ⟨[v1], [v2], rfl, ⟨v1, rfl, g1⟩, ⟨v2, rfl, g2⟩⟩⟩
def aJ (xs : List bE) (i : Int) : bE := xs.getD i.toNat jG
theorem jT {w : World} {A : Option Addr} {n : Nat} {xs : List bE} (h : Kd.C oP w A n xs) (i : Int) (h0 : 0 <= i) (h1 : i < n) : ∃ ad A0 c0 A1 c1 A2 c2, A = some ad /\ w.cell? (ad.add (i.toNat * 3)) = some (.slice A0 (aJ xs i).f0.length c0) /\ w.cell? ⟨(ad.add (i.toNat * 3)).block, (ad.add (i.toNat * 3)).off + 1, none⟩ = some (.slice A1 (aJ xs i).f1.length c1) /\ w.cell? ⟨(ad.add (i.toNat * 3)).block, (ad.add (i.toNat * 3)).off + 2, none⟩ = some (.slice A2 (aJ xs i).f2.length c2) /\ (aJ xs i).f0.length <= c0 /\ Kd.string.C w A0 (aJ xs i).f0.length (aJ xs i).f0 /\ (aJ xs i).f1.length <= c1 /\ Kd.string.C w A1 (aJ xs i).f1.length (aJ xs i).f1 /\ (aJ xs i).f2.length <= c2 /\ (Kd.int .i64).C w A2 (aJ xs i).f2.length (aJ xs i).f2 := by
  obtain ⟨ad, c, e, _, hK, hc0⟩ := Kd.WW h jG i h0 h1
  have hc : ∀ j u, c[j]? = some u -> w.cell? (ad.add (i.toNat * 3 + j)) = some u := hc0
  obtain ⟨A0, c0, A1, c1, A2, c2, rfl, l0, g0, l1, g1, l2, g2⟩ := QZ hK
  exact ⟨ad, A0, c0, A1, c1, A2, c2, e, hc 0 _ rfl, by rw [<- xc _ _ 1 (by omega)]; exact hc 1 _ rfl, by rw [<- xc _ _ 2 (by omega)]; exact hc 2 _ rfl, l0, g0, l1, g1, l2, g2⟩
theorem Nk {p0 q : Prop} (h0 : p0) (h : p0 -> q := by intro Dl; repeat (first | (with_reducible first | exact Dl | apply Kept.alloc | apply Kept.drewN | apply Kept.drew) | exact Dl)) : q := h h0
def bK.l0 : Nat -> List Int -> Int -> Int -> Option (Int × List Int)
 | 0, _, _, _ => none
 | k + 1, x0, x1, x5 => if x5 < (x0.length : Int) then (if 0 <= x5 then (bK.l0 k (x0.set (x5 : Int).toNat x1) (wrap64 (x1 + 1)) (wrap64 (x5 + 1))) else (none)) else (some (x1, x0))
def bK.f (k : Nat) (l0 : List Int) (a1 : Int) : Option (Int × List Int) := bK.l0 k l0 a1 0
theorem bK.calls (k : Nat) (FT : Nat -> Prop) (rR : Value) (l0 : List Int) (a1 : Int) (r1 : Int) (r2 : List Int) (w0 w : World) (hB : Below w0.heap.size w0 w) (ho0 : Kd.R (Kd.int .i64) 3 w w0.heap.size FT rR l0) (h : bK.f k l0 a1 = some (r1, r2)) :
  Calls Try.prog 102 #[rR, .int .i64 a1] w fun e w' => e = .returned (.int .i64 r1) /\ Kd.R (Kd.int .i64) 3 w' w0.heap.size (fun k_ => (FT k_ ∨ w.heap.size <= k_)) rR r2 /\ Below w0.heap.size w0 w' /\ Kept w w' (fun k_ => FT k_) := by
 have HO0 := A_ (show Kd.R (Kd.int .i64) 3 w w0.heap.size (fun k_ => (FT k_ ∨ w.heap.size <= k_)) rR l0 from Kd.dG ho0 (fun k_ hk => (.inl hk)))
 have HK := A_ (Kept.refl w (fun k_ => FT k_))
 have HW0 := A_ hB.size
 have HB := A_ hB
 clear hB
 have H : (bK.l0 k l0 a1 0) = some (r1, r2) := h
 clear h
 have H' := A_ H
 clear H
 go_enter Try.func102, Try.ntmps102
 go_wp2
 go_loopg [1, 5] k (fun kq v1 v5 w' => ∃ (lN : List Int) (fC : Int) (ay : Int), v1 = .int .i64 fC /\ v5 = .int .i64 ay /\ ae (bK.l0 kq lN fC ay = some (r1, r2)) /\ ae (kq <= k) /\ ae (Kd.R (Kd.int .i64) 3 w' w0.heap.size (fun k_ => (FT k_ ∨ w.heap.size <= k_)) rR lN) /\ ae (Kept w w' (fun k_ => FT k_)) /\ ae (Below w0.heap.size w0 w'))
 case atStart => exact ⟨(l0), (a1), (0), (by first | rfl | (simp; done) | (simp [*]; done)), (by first | rfl | (simp; done) | (simp [*]; done)), H', ⟨Nat.le_refl _⟩, ⟨qU HO0.out⟩, ⟨Nk HK.out⟩, ⟨ko HB.out⟩⟩
 case round =>
  clear H'
  (try clear c1); (try clear p2)
  obtain ⟨lN, fC, ay, rfl, rfl, HA, ni, qI, HK, HB⟩ := hrel
  cases gk with
  | zero => exact absurd HA.out (by simp [bK.l0])
  | succ k1 =>
   have H := HA.out
   clear HA
   simp only [bK.l0] at H
   by_cases c3 : ay < (lN.length : Int)
   ·rw [if_pos c3] at H
    have jv : decide (ay < (lN.length : Int)) = true := decide_eq_true c3
    clear c3
    by_cases c4 : 0 <= ay
    ·rw [if_pos c4] at H
     have mq : decide (0 <= ay) = true := decide_eq_true c4
     clear c4
     obtain ⟨Yj, LW⟩ : ∃ y_ : List Int, y_ = (lN.set (ay : Int).toNat fC) := ⟨_, rfl⟩
     replace H : (bK.l0 k1 Yj (wrap64 (fC + 1)) (wrap64 (ay + 1))) = some (r1, r2) := by first | (rw [LW]; with_reducible exact H) | (have iE := (Option.bind_some _ _).symm.trans H; rw [LW]; with_reducible exact iE) | (have iE := (Option.bind_some _ _).symm.trans H; with_reducible exact iE) | with_reducible exact H | (rw [LW]; exact H) | exact H
     have Ny209 := A_ LW
     clear LW
     have H' := A_ H
     clear H
     obtain ⟨Ao6, co6, eo6⟩ := Kd.au qI.out
     subst eo6
     have p5 : 0 <= (ay : Int) := of_decide_eq_true eP
     have q5 : (ay : Int) < ((lN.length : Int) : Int) := of_decide_eq_true eP
     obtain ⟨ZX, co5, eo5, gb5, gl5, cl5, HG5⟩ := Kd.uL qI.out (by omega)
     (first | cases eo5 | (injection eo5 with Dm Wq Ws; (first | subst Dm | (injection Dm with Dm; subst Dm)); subst Ws; clear Wq))
     have GB5 := A_ gb5
     have GG5 := A_ HG5
     clear gb5 gl5 HG5
     have HMgo5 := A_ (show (FT ZX ∨ w.heap.size <= ZX) from (qI.out.1 _ rfl))
     obtain ⟨hx5_0, hf5_0⟩ := Kd.yQ 0 qI.out (ay : Int) p5 q5
     replace p5 := eq_true p5
     replace q5 := eq_true q5
     have HP7 := Kd.I4 qI.out (ay : Int) fC
     go_wp2_with (first | ((with_reducible refine rf (t := 3) (p := 15) rfl ?_); refine pG (t := 3) (p := 15) (v := ?vo_w8) (w1 := (wr.setCell ⟨ZX, (ay : Int).toNat, none⟩ (.int .i64 fC))) ?hg ?ho ?hn ?hr ?_; (case ho => rfl); (case hg => rfl); (case hn => rfl); (case hr => first | (go_simp; done) | (go_simp; rfl)); intro w8 hw; have hg : wr.grownBy w8 (some ZX) := (by rw [hw]; exact HP7.2); have QC : Kd.R (Kd.int .i64) 3 w8 w0.heap.size (fun k_ => (FT k_ ∨ w.heap.size <= k_)) (.slice (some ⟨ZX, 0, none⟩) lN.length co6) Yj := (by rw [hw, Ny209.out]; exact HP7.1); clear HP7; replace HB := A_ ((by rw [hw]; exact bL (HB.out) GB5.out : Below w0.heap.size w0 w8)); replace HK := A_ (Kept.tT (S := (fun k_ => FT k_)) hg (Nk HK.out) (fun k_ e_ => (qI.out.1 k_ e_))); replace qI := A_ (QC); clear hg hw QC))
     go_roundg k1
     case measure => have := ni.out; omega
     case rel => exact ⟨(Yj), (wrap64 (fC + 1)), (wrap64 (ay + 1)), (by first | rfl | (simp; done) | (simp [*]; done)), (by first | rfl | (simp; done) | (simp [*]; done)), H', ⟨by have := ni.out; omega⟩, ⟨qU qI.out⟩, ⟨Nk HK.out⟩, ⟨ko HB.out⟩⟩
    ·rw [if_neg c4] at H
     exact absurd H (by simp)
   ·rw [if_neg c3] at H
    have jv : decide (ay < (lN.length : Int)) = false := decide_eq_false c3
    clear c3
    simp only [Option.some.injEq, Prod.mk.injEq] at H
    obtain ⟨rfl, rfl⟩ := H
    obtain ⟨Ao9, co9, Yk⟩ := Kd.au qI.out
    subst Yk
    go_wp2
    go_ret
    exact ⟨vE, by (with_reducible repeat (first | apply Kd.jR | apply Kd.jS | apply Kd.mI)); exact qI.out, by repeat (first | (with_reducible first | exact HB.out | apply aK | apply ah | apply aT) | exact HB.out), by repeat (first | (with_reducible first | exact HK.out | apply Kept.alloc | apply Kept.drewN | apply Kept.drew) | exact HK.out)⟩
def bP.l0 : Nat -> Int -> ByteArray -> Option (ByteArray)
 | 0, _, _ => none
 | k + 1, x0, x3 => if x0 > 0 then ((some (([(wrap64 (48 + (Int.tmod x0 10))) % 256] : List Int) : List Int)).bind fun JN => (if (strOfNums JN).size + x3.size <= 9223372036854775807 then (bP.l0 k (wrap64 (Int.tdiv x0 10)) ((strOfNums JN) ++ x3)) else (none))) else (if 1 + x3.size <= 9223372036854775807 then (some ((⟨#[109]⟩ : ByteArray) ++ x3)) else (none))
def bP.f (k : Nat) (a0 : Int) : Option (ByteArray) := if a0 <= 0 then (some (⟨#[109, 48]⟩ : ByteArray)) else (bP.l0 k a0 (⟨#[]⟩ : ByteArray))
theorem bP.calls (k : Nat) (a0 : Int) (r : ByteArray) (w : World) (h : bP.f k a0 = some r) :
  Calls Try.prog 68 #[.int .i64 a0] w fun e w' => e = .returned (.string r) /\ Below w.heap.size w w' := by
 have HB := A_ (Below.refl w.heap.size w)
 have H : (if a0 <= 0 then (some (⟨#[109, 48]⟩ : ByteArray)) else (bP.l0 k a0 (⟨#[]⟩ : ByteArray))) = some r := h
 clear h
 by_cases c2 : a0 <= 0
 ·rw [if_pos c2] at H
  have Gg : decide (a0 <= 0) = true := decide_eq_true c2
  clear c2
  obtain rfl := Option.some.inj H
  go_enter Try.func68, Try.ntmps68
  go_wp2
  go_ret
  exact ⟨vE, by repeat (first | (with_reducible first | exact HB.out | apply aK | apply ah | apply aT) | exact HB.out)⟩
 ·rw [if_neg c2] at H
  have Gg : decide (a0 <= 0) = false := decide_eq_false c2
  clear c2
  have H' := A_ H
  clear H
  go_enter Try.func68, Try.ntmps68
  go_wp2
  go_loopg [0, 3] k (fun kq v0 v3 w' => ∃ (lN : Int) (iZ : ByteArray), v0 = .int .i64 lN /\ v3 = .string iZ /\ ae (bP.l0 kq lN iZ = some r) /\ ae (kq <= k) /\ ae (Below w.heap.size w w'))
  case atStart => exact ⟨(a0), ((⟨#[]⟩ : ByteArray)), (by first | rfl | (simp; done) | (simp [*]; done)), (by first | rfl | (simp; done) | (simp [*]; done)), H', ⟨Nat.le_refl _⟩, ⟨ko HB.out⟩⟩
  case round =>
   clear H'
   (try clear c2); (try clear Gg); (try clear p2)
   obtain ⟨lN, iZ, rfl, rfl, HA, ni, HB⟩ := hrel
   cases gk with
   | zero => exact absurd HA.out (by simp [bP.l0])
   | succ k1 =>
    have H := HA.out
    clear HA
    simp only [bP.l0] at H
    by_cases c3 : lN > 0
    ·rw [if_pos c3] at H
     have jv : decide (0 < lN) = true := decide_eq_true c3
     clear c3
     obtain ⟨JN, LX⟩ : ∃ y_ : List Int, y_ = (([(wrap64 (48 + (Int.tmod lN 10))) % 256] : List Int)) := ⟨_, rfl⟩
     replace H : (if (strOfNums JN).size + iZ.size <= 9223372036854775807 then (bP.l0 k1 (wrap64 (Int.tdiv lN 10)) ((strOfNums JN) ++ iZ)) else (none)) = some r := by first | (rw [LX]; with_reducible exact H) | (have iE := (Option.bind_some _ _).symm.trans H; rw [LX]; with_reducible exact iE) | (have iE := (Option.bind_some _ _).symm.trans H; with_reducible exact iE) | with_reducible exact H | (rw [LX]; exact H) | exact H
     have Ny204 := A_ LX
     clear LX
     by_cases c4 : (strOfNums JN).size + iZ.size <= 9223372036854775807
     ·rw [if_pos c4] at H
      have mq := eq_true c4
      have RL : decide ((strOfNums JN).size + iZ.size <= 9223372036854775807) = true := decide_eq_true c4
      try have c4b2 : (9223372036854775807 < (strOfNums JN).size + iZ.size) = False := eq_false (Nat.not_lt.2 c4)
      have H' := A_ H
      clear H
      go_wp2_with (first | ((with_reducible refine kV (N := 12) rfl ?_); refine Kd.Ch (Kd.int .u8) _ 5 ?hg (N := 12) ?hd (xs := ([(wrap64 (48 + (Int.tmod lN 10))) % 256] : List Int)) (inner := [.int .u8 ((wrap64 (48 + (Int.tmod lN 10))) % 256)]) (ok := fun _ => True) (okp := fun _ => True) ?hr ?hp (fun _ hk => hk) trivial (Below.refl _ _) (Nat.le_refl _) (by simp) ?_; (case hd => rfl); (case hg => rfl); (case hr => first | (go_simp; done) | (go_simp; rfl)); (case hp => exact (gP.one (show Kd.M (Kd.int .u8) _ _ _ ((wrap64 (48 + (Int.tmod lN 10))) % 256) [.int .u8 ((wrap64 (48 + (Int.tmod lN 10))) % 256)] from rfl) (gP.none _ _))); intro v205 w5 ho6 hb LY pW; clear LY pW; (first | rw [<- Ny204.out] at ho6 | (simp only [Int.reduceToNat] at ho6; rw [<- Ny204.out] at ho6)); have HO206 := A_ (Kd.iC ho6 (iU HB.out)); replace HB := A_ (jO HB.out hb); clear hb ho6; have hcv7 := Nl (P := Try.prog) Try.underlying56 Try.underlying5 Try.underlying9 (Kd.tV HO206.out)))
      go_roundg k1
      case measure => have := ni.out; omega
      case rel => exact ⟨(wrap64 (Int.tdiv lN 10)), ((strOfNums JN) ++ iZ), (by first | rfl | (simp; done) | (simp [*]; done)), (by first | rfl | (simp; done) | (simp [*]; done)), H', ⟨by have := ni.out; omega⟩, ⟨ko HB.out⟩⟩
     ·rw [if_neg c4] at H
      exact absurd H (by simp)
    ·rw [if_neg c3] at H
     have jv : decide (0 < lN) = false := decide_eq_false c3
     clear c3
     by_cases c8 : 1 + iZ.size <= 9223372036854775807
     ·rw [if_pos c8] at H
      have LZ := eq_true c8
      have c8b1 : decide (1 + iZ.size <= 9223372036854775807) = true := decide_eq_true c8
      try have c8b2 : (9223372036854775807 < 1 + iZ.size) = False := eq_false (Nat.not_lt.2 c8)
      obtain rfl := Option.some.inj H
      go_wp2
      go_ret
      exact ⟨vE, by repeat (first | (with_reducible first | exact HB.out | apply aK | apply ah | apply aT) | exact HB.out)⟩
     ·rw [if_neg c8] at H
      exact absurd H (by simp)
theorem PY {p0 q : Prop} (h0 : p0) (h : p0 -> q := by intro Dl; repeat (first | (with_reducible first | exact Dl | apply Kept.alloc | apply Kept.drewN | apply Kept.drew) | exact Dl)) : q := h h0
def aY.l0 : Nat -> List ByteArray -> Int -> Int -> Option (Int × List ByteArray)
 | 0, _, _, _ => none
 | k + 1, x0, x1, x5 => if x5 < (x0.length : Int) then ((bP.f k x1).bind fun Om => (if 0 <= x5 then (aY.l0 k (x0.set (x5 : Int).toNat Om) (wrap64 (x1 + 1)) (wrap64 (x5 + 1))) else (none))) else (some (x1, x0))
def aY.f (k : Nat) (l0 : List ByteArray) (a1 : Int) : Option (Int × List ByteArray) := aY.l0 k l0 a1 0
theorem aY.calls (k : Nat) (FT : Nat -> Prop) (rR : Value) (l0 : List ByteArray) (a1 : Int) (r1 : Int) (r2 : List ByteArray) (w0 w : World) (hB : Below w0.heap.size w0 w) (ho0 : Kd.R Kd.string 9 w w0.heap.size FT rR l0) (h : aY.f k l0 a1 = some (r1, r2)) :
  Calls Try.prog 28 #[rR, .int .i64 a1] w fun e w' => e = .returned (.int .i64 r1) /\ Kd.R Kd.string 9 w' w0.heap.size (fun k_ => (FT k_ ∨ w.heap.size <= k_)) rR r2 /\ Below w0.heap.size w0 w' /\ Kept w w' (fun k_ => FT k_) := by
 have HO0 := A_ (show Kd.R Kd.string 9 w w0.heap.size (fun k_ => (FT k_ ∨ w.heap.size <= k_)) rR l0 from Kd.dG ho0 (fun k_ hk => (.inl hk)))
 have HK := A_ (Kept.refl w (fun k_ => FT k_))
 have HW0 := A_ hB.size
 have HB := A_ hB
 clear hB
 have H : (aY.l0 k l0 a1 0) = some (r1, r2) := h
 clear h
 have H' := A_ H
 clear H
 go_enter Try.func28, Try.ntmps28
 go_wp2
 go_loopg [1, 5] k (fun kq v1 v5 w' => ∃ (lN : List ByteArray) (fC : Int) (ay : Int), v1 = .int .i64 fC /\ v5 = .int .i64 ay /\ ae (aY.l0 kq lN fC ay = some (r1, r2)) /\ ae (kq <= k) /\ ae (Kd.R Kd.string 9 w' w0.heap.size (fun k_ => (FT k_ ∨ w.heap.size <= k_)) rR lN) /\ ae (Kept w w' (fun k_ => FT k_)) /\ ae (Below w0.heap.size w0 w'))
 case atStart => exact ⟨(l0), (a1), (0), (by first | rfl | (simp; done) | (simp [*]; done)), (by first | rfl | (simp; done) | (simp [*]; done)), H', ⟨Nat.le_refl _⟩, ⟨qU HO0.out⟩, ⟨PY HK.out⟩, ⟨ko HB.out⟩⟩
 case round =>
  clear H'
  (try clear c2); (try clear p2)
  obtain ⟨lN, fC, ay, rfl, rfl, HA, ni, qI, HK, HB⟩ := hrel
  cases gk with
  | zero => exact absurd HA.out (by simp [aY.l0])
  | succ k1 =>
   have H := HA.out
   clear HA
   simp only [aY.l0] at H
   by_cases c3 : ay < (lN.length : Int)
   ·rw [if_pos c3] at H
    have jv : decide (ay < (lN.length : Int)) = true := decide_eq_true c3
    clear c3
    replace H := Option.bind_eq_some_iff.mp H
    obtain ⟨Om, RN, H⟩ := H
    replace H : (if 0 <= ay then (aY.l0 k1 (lN.set (ay : Int).toNat Om) (wrap64 (fC + 1)) (wrap64 (ay + 1))) else (none)) = some (r1, r2) := H
    have A4 := A_ RN
    clear RN
    by_cases c5 : 0 <= ay
    ·rw [if_pos c5] at H
     have CS : decide (0 <= ay) = true := decide_eq_true c5
     clear c5
     obtain ⟨Yl, L6⟩ : ∃ y_ : List ByteArray, y_ = (lN.set (ay : Int).toNat Om) := ⟨_, rfl⟩
     replace H : (aY.l0 k1 Yl (wrap64 (fC + 1)) (wrap64 (ay + 1))) = some (r1, r2) := by first | (rw [L6]; with_reducible exact H) | (have iE := (Option.bind_some _ _).symm.trans H; rw [L6]; with_reducible exact iE) | (have iE := (Option.bind_some _ _).symm.trans H; with_reducible exact iE) | with_reducible exact H | (rw [L6]; exact H) | exact H
     have Ny208 := A_ L6
     clear L6
     have H' := A_ H
     clear H
     obtain ⟨Ao7, co7, eo7⟩ := Kd.au qI.out
     subst eo7
     go_wp2_with (first | ((with_reducible refine aI (f := 68) rfl ?_); refine bV (some 15) rfl rfl Try.func68 (by kernel_rfl) rfl #[.int .i64 fC] rfl (mY) ?_; (with_reducible refine (bP.calls k1 fC Om _ A4.out).mono ?_); rintro e w8 ⟨rfl, hb⟩; refine ⟨_, rfl, ?_⟩; replace qI := A_ (Kd.uM (qU qI.out) hb); replace HK := A_ (Kept.below (S := (fun k_ => FT k_)) (PY HK.out) hb); replace HB := A_ (jO HB.out hb); (try clear hb); (try clear hb2); (try clear hk); (try clear hi); have p6 : 0 <= (ay : Int) := of_decide_eq_true eP; have q6 : (ay : Int) < ((lN.length : Int) : Int) := of_decide_eq_true eP; obtain ⟨go6, co6, eo6, gb6, gl6, cl6, HG6⟩ := Kd.uL qI.out (by omega); (first | cases eo6 | (injection eo6 with Dm Wq Ws; (first | subst Dm | (injection Dm with Dm; subst Dm)); subst Ws; clear Wq)); have GB6 := A_ gb6; have GG6 := A_ HG6; clear gb6 gl6 HG6; have HMgo6 := A_ (show (FT go6 ∨ w.heap.size <= go6) from (qI.out.1 _ rfl)); obtain ⟨hx6_0, hf6_0⟩ := Kd.yQ (⟨#[]⟩ : ByteArray) qI.out (ay : Int) p6 q6; replace p6 := eq_true p6; replace q6 := eq_true q6; obtain ⟨hy9_, hz9_⟩ := Kd.yQ (⟨#[]⟩ : ByteArray) qI.out (ay : Int) (of_decide_eq_true eP) (of_decide_eq_true eP); have HP9 := Kd.I4 qI.out (ay : Int) Om) | ((with_reducible refine rf (t := 9) (p := 16) rfl ?_); refine pG (t := 9) (p := 16) (v := ?vo_w10) (w1 := (w8.setCell ⟨go6, (ay : Int).toNat, none⟩ (.string Om))) ?hg ?ho ?hn ?hr ?_; (case ho => rfl); (case hg => rfl); (case hn => rfl); (case hr => first | (go_simp; done) | (go_simp; rfl)); intro vN hw; have hg : w8.grownBy vN (some go6) := (by rw [hw]; exact HP9.2); have QC : Kd.R Kd.string 9 vN w0.heap.size (fun k_ => (FT k_ ∨ w.heap.size <= k_)) (.slice (some ⟨go6, 0, none⟩) lN.length co7) Yl := (by rw [hw, Ny208.out]; exact HP9.1); clear HP9; replace HB := A_ ((by rw [hw]; exact bL (HB.out) GB6.out : Below w0.heap.size w0 vN)); replace HK := A_ (Kept.tT (S := (fun k_ => FT k_)) hg (PY HK.out) (fun k_ e_ => (qI.out.1 k_ e_))); replace qI := A_ (QC); clear hg hw QC))
     go_roundg k1
     case measure => have := ni.out; omega
     case rel => exact ⟨(Yl), (wrap64 (fC + 1)), (wrap64 (ay + 1)), (by first | rfl | (simp; done) | (simp [*]; done)), (by first | rfl | (simp; done) | (simp [*]; done)), H', ⟨by have := ni.out; omega⟩, ⟨qU qI.out⟩, ⟨PY HK.out⟩, ⟨ko HB.out⟩⟩
    ·rw [if_neg c5] at H
     exact absurd H (by simp)
   ·rw [if_neg c3] at H
    have jv : decide (ay < (lN.length : Int)) = false := decide_eq_false c3
    clear c3
    simp only [Option.some.injEq, Prod.mk.injEq] at H
    obtain ⟨rfl, rfl⟩ := H
    obtain ⟨Ao11, co11, eo11⟩ := Kd.au qI.out
    subst eo11
    go_wp2
    go_ret
    exact ⟨vE, by (with_reducible repeat (first | apply Kd.jR | apply Kd.jS | apply Kd.mI)); exact qI.out, by repeat (first | (with_reducible first | exact HB.out | apply aK | apply ah | apply aT) | exact HB.out), by repeat (first | (with_reducible first | exact HK.out | apply Kept.alloc | apply Kept.drewN | apply Kept.drew) | exact HK.out)⟩
def bf.l0 : Nat -> List ByteArray -> Int -> Int -> Option (Int)
 | 0, _, _, _ => none
 | k + 1, x0, x1, x5 => if x5 < (x0.length : Int) then (if 0 <= x5 then ((bP.f k x1).bind fun t213 => (if (cK ByteArray.empty x0 x5).toList = t213.toList then (bf.l0 k x0 (wrap64 (x1 + 1)) (wrap64 (x5 + 1))) else (some (-1)))) else (none)) else (some x1)
def bf.f (k : Nat) (l0 : List ByteArray) (a1 : Int) : Option (Int) := bf.l0 k l0 a1 0
theorem bf.calls (k : Nat) (A0 : Option Addr) (c0 : Nat) (l0 : List ByteArray) (a1 : Int) (r : Int) (w : World) (hr0 : Kd.C Kd.string w A0 l0.length l0) (hc0 : l0.length <= c0) (h : bf.f k l0 a1 = some r) :
  Calls Try.prog 29 #[.slice A0 l0.length c0, .int .i64 a1] w fun e w' => e = .returned (.int .i64 r) /\ Below w.heap.size w w' := by
 have jf := A_ hr0
 have nQ := A_ hc0
 clear hr0 hc0
 have HB := A_ (Below.refl w.heap.size w)
 have H : (bf.l0 k l0 a1 0) = some r := h
 clear h
 have H' := A_ H
 clear H
 go_enter Try.func29, Try.ntmps29
 go_wp2
 go_loopg [1, 5] k (fun kq v1 v5 w' => ∃ (fC : Int) (ay : Int), v1 = .int .i64 fC /\ v5 = .int .i64 ay /\ ae (bf.l0 kq l0 fC ay = some r) /\ ae (kq <= k) /\ ae (Below w.heap.size w w'))
 case atStart => exact ⟨(a1), (0), (by first | rfl | (simp; done) | (simp [*]; done)), (by first | rfl | (simp; done) | (simp [*]; done)), H', ⟨Nat.le_refl _⟩, ⟨ko HB.out⟩⟩
 case round =>
  clear H'
  (try clear c2); (try clear p2)
  obtain ⟨fC, ay, rfl, rfl, HA, ni, HB⟩ := hrel
  cases gk with
  | zero => exact absurd HA.out (by simp [bf.l0])
  | succ k1 =>
   have H := HA.out
   clear HA
   simp only [bf.l0] at H
   by_cases c3 : ay < (l0.length : Int)
   ·rw [if_pos c3] at H
    have jv : decide (ay < (l0.length : Int)) = true := decide_eq_true c3
    clear c3
    by_cases c4 : 0 <= ay
    ·rw [if_pos c4] at H
     have mq : decide (0 <= ay) = true := decide_eq_true c4
     clear c4
     replace H := Option.bind_eq_some_iff.mp H
     obtain ⟨t213, IB, H⟩ := H
     replace H : (if (cK ByteArray.empty l0 ay).toList = t213.toList then (bf.l0 k1 l0 (wrap64 (fC + 1)) (wrap64 (ay + 1))) else (some (-1))) = some r := H
     have A5 := A_ IB
     clear IB
     by_cases c6 : (cK ByteArray.empty l0 ay).toList = t213.toList
     ·rw [if_pos c6] at H
      have yD : ((cK ByteArray.empty l0 ay).toList == t213.toList) = true := beq_iff_eq.mpr c6
      have c6b1 : ((cK ByteArray.empty l0 ay).toList != t213.toList) = false := bne_eq_false_iff_eq.mpr c6
      clear c6
      have H' := A_ H
      clear H
      try go_wp2
      replace HB := A_ (aT HB.out)
      have Oo : 0 <= (ay : Int) := of_decide_eq_true eP
      have Oq : ay < (l0.length : Int) := of_decide_eq_true eP
      obtain ⟨TU, e212, nR⟩ := Kd.cO jf.out ay Oo Oq
      have qJ := nR
      cases e212
      replace nR := (HB.out.cell (World.block_lt_of_cell? w _ nR)).trans nR
      replace Oo := eq_true Oo
      replace Oq := eq_true Oq
      refine dL (n := 7) (S := fun w' => w'.cell? (TU.add (ay).toNat) = some (.string (cK ByteArray.empty l0 ay))) (ds := []) (bt 7 0) (by kernel_rfl) rfl rfl (((HB.out.cell (World.block_lt_of_cell? w _ qJ)).trans qJ)) (fun hHeld => ?_)
      generalize wr.drew = w7 at HB nR hHeld ⊢
      refine aQ 0 12 1 ?_
      refine aQ 1 13 3 ?_
      refine aQ 2 14 7 ?_
      refine aQ 4 16 23 ?_
      refine Gy (i := 3) (N := some 15) (v := ?_) (a' := ?_) (bt 7 31) rfl rfl (by kernel_rfl) (fun _ _ _ h => h) (Or.inl ⟨by rfl, ?_⟩) hHeld ?_ ?_
      rotate_left
      ·intro w' s0
       go_simp
       with_reducible rfl
      rotate_left
      ·simp only [Act.put, sx_, wx_]
       rfl
      refine jm 5 (some 17) 63 (fun K hK => ?_)
      refine KL Try.func68 (by kernel_rfl) rfl #[.int .i64 fC] (by rfl) rfl rfl (mY) ?_
      with_reducible refine (bP.calls k1 fC t213 _ A5.out).mono ?_
      rintro e w8 ⟨rfl, hb⟩
      refine ⟨_, rfl, ?_⟩
      replace HB := A_ (jO HB.out hb)
      (try clear hb)
      (try clear hb2)
      (try clear hk)
      (try clear hi)
      refine hK.out _ _ (((HB.out.cell (World.block_lt_of_cell? w _ qJ)).trans qJ)) (fun hHeld => ?_)
      clear hK K
      refine fw 17 ?_
      refine aQ 6 18 127 ?_
      refine fA (by kernel_rfl) ?_
      try go_wp2
      go_roundg k1
      case measure => have := ni.out; omega
      case rel => exact ⟨(wrap64 (fC + 1)), (wrap64 (ay + 1)), (by first | rfl | (simp; done) | (simp [*]; done)), (by first | rfl | (simp; done) | (simp [*]; done)), H', ⟨by have := ni.out; omega⟩, ⟨ko HB.out⟩⟩
     ·rw [if_neg c6] at H
      have yD : ((cK ByteArray.empty l0 ay).toList == t213.toList) = false := beq_eq_false_iff_ne.mpr c6
      have c6b1 : ((cK ByteArray.empty l0 ay).toList != t213.toList) = true := bne_iff_ne.mpr c6
      obtain rfl := Option.some.inj H
      try go_wp2
      replace HB := A_ (aT HB.out)
      have Oo : 0 <= (ay : Int) := of_decide_eq_true eP
      have Oq : ay < (l0.length : Int) := of_decide_eq_true eP
      obtain ⟨TU, e212, nR⟩ := Kd.cO jf.out ay Oo Oq
      have qJ := nR
      cases e212
      replace nR := (HB.out.cell (World.block_lt_of_cell? w _ nR)).trans nR
      replace Oo := eq_true Oo
      replace Oq := eq_true Oq
      refine dL (n := 7) (S := fun w' => w'.cell? (TU.add (ay).toNat) = some (.string (cK ByteArray.empty l0 ay))) (ds := []) (bt 7 0) (by kernel_rfl) rfl rfl (((HB.out.cell (World.block_lt_of_cell? w _ qJ)).trans qJ)) (fun hHeld => ?_)
      generalize wr.drew = w9 at HB nR hHeld ⊢
      refine aQ 0 12 1 ?_
      refine aQ 1 13 3 ?_
      refine aQ 2 14 7 ?_
      refine aQ 4 16 23 ?_
      refine Gy (i := 3) (N := some 15) (v := ?_) (a' := ?_) (bt 7 31) rfl rfl (by kernel_rfl) (fun _ _ _ h => h) (Or.inl ⟨by rfl, ?_⟩) hHeld ?_ ?_
      rotate_left
      ·intro w' s0
       go_simp
       with_reducible rfl
      rotate_left
      ·simp only [Act.put, sx_, wx_]
       rfl
      refine jm 5 (some 17) 63 (fun K hK => ?_)
      refine KL Try.func68 (by kernel_rfl) rfl #[.int .i64 fC] (by rfl) rfl rfl (mY) ?_
      with_reducible refine (bP.calls k1 fC t213 _ A5.out).mono ?_
      rintro e vN ⟨rfl, hb⟩
      refine ⟨_, rfl, ?_⟩
      replace HB := A_ (jO HB.out hb)
      (try clear hb)
      (try clear hb2)
      (try clear hk)
      (try clear hi)
      refine hK.out _ _ (((HB.out.cell (World.block_lt_of_cell? w _ qJ)).trans qJ)) (fun hHeld => ?_)
      clear hK K
      refine fw 17 ?_
      refine aQ 6 18 127 ?_
      refine fA (by kernel_rfl) ?_
      try go_wp2
      go_ret
      exact ⟨vE, by repeat (first | (with_reducible first | exact HB.out | apply aK | apply ah | apply aT) | exact HB.out)⟩
    ·rw [if_neg c4] at H
     exact absurd H (by simp)
   ·rw [if_neg c3] at H
    have jv : decide (ay < (l0.length : Int)) = false := decide_eq_false c3
    clear c3
    obtain rfl := Option.some.inj H
    go_wp2
    go_ret
    exact ⟨vE, by repeat (first | (with_reducible first | exact HB.out | apply aK | apply ah | apply aT) | exact HB.out)⟩
def bW.l0 : Nat -> List Int -> Int -> Int -> Option (Int)
 | 0, _, _, _ => none
 | k + 1, x0, x1, x5 => if x5 < (x0.length : Int) then (if 0 <= x5 then (if (rd x0 x5) = x1 then (bW.l0 k x0 (wrap64 (x1 + 1)) (wrap64 (x5 + 1))) else (some (-1))) else (none)) else (some x1)
def bW.f (k : Nat) (l0 : List Int) (a1 : Int) : Option (Int) := bW.l0 k l0 a1 0
theorem bW.calls (k : Nat) (A0 : Option Addr) (c0 : Nat) (l0 : List Int) (a1 : Int) (r : Int) (w : World) (hr0 : Kd.C (Kd.int .i64) w A0 l0.length l0) (hc0 : l0.length <= c0) (h : bW.f k l0 a1 = some r) :
  Calls Try.prog 111 #[.slice A0 l0.length c0, .int .i64 a1] w fun e w' => e = .returned (.int .i64 r) /\ ak w w' := by
 have jf := A_ hr0
 have nQ := A_ hc0
 clear hr0 hc0
 have H : (bW.l0 k l0 a1 0) = some r := h
 clear h
 have H' := A_ H
 clear H
 go_enter Try.func111, Try.ntmps111
 go_wp2
 go_loopg [1, 5] k (fun kq v1 v5 w' => ∃ (fC : Int) (ay : Int), v1 = .int .i64 fC /\ v5 = .int .i64 ay /\ ae (bW.l0 kq l0 fC ay = some r) /\ ae (kq <= k) /\ ak w w')
 case atStart => exact ⟨(a1), (0), (by first | rfl | (simp; done) | (simp [*]; done)), (by first | rfl | (simp; done) | (simp [*]; done)), H', ⟨Nat.le_refl _⟩, by repeat (first | exact ak.refl _ | apply ak.step)⟩
 case round =>
  clear H'
  (try clear c1); (try clear p2)
  obtain ⟨fC, ay, rfl, rfl, HA, ni, ⟨m1, rfl⟩⟩ := hrel
  cases gk with
  | zero => exact absurd HA.out (by simp [bW.l0])
  | succ k1 =>
   have H := HA.out
   clear HA
   simp only [bW.l0] at H
   by_cases c3 : ay < (l0.length : Int)
   ·rw [if_pos c3] at H
    have jv : decide (ay < (l0.length : Int)) = true := decide_eq_true c3
    clear c3
    by_cases c4 : 0 <= ay
    ·rw [if_pos c4] at H
     have mq : decide (0 <= ay) = true := decide_eq_true c4
     clear c4
     by_cases c5 : (rd l0 ay) = fC
     ·rw [if_pos c5] at H
      have CS : ((rd l0 ay) == fC) = true := beq_iff_eq.mpr c5
      have Ym : ((rd l0 ay) != fC) = false := bne_eq_false_iff_eq.mpr c5
      clear c5
      have H' := A_ H
      clear H
      have Ot : 0 <= (ay : Int) := of_decide_eq_true eP
      have Ou : ay < (l0.length : Int) := of_decide_eq_true eP
      obtain ⟨ad214, e214, hx214_0⟩ := Kd.rq jf.out ay Ot Ou
      cases e214
      replace Ot := eq_true Ot
      replace Ou := eq_true Ou
      go_wp2
      go_roundg k1
      case measure => have := ni.out; omega
      case rel => exact ⟨(wrap64 (fC + 1)), (wrap64 (ay + 1)), (by first | rfl | (simp; done) | (simp [*]; done)), (by first | rfl | (simp; done) | (simp [*]; done)), H', ⟨by have := ni.out; omega⟩, by repeat (first | exact ak.refl _ | apply ak.step)⟩
     ·rw [if_neg c5] at H
      have CS : ((rd l0 ay) == fC) = false := beq_eq_false_iff_ne.mpr c5
      have Ym : ((rd l0 ay) != fC) = true := bne_iff_ne.mpr c5
      obtain rfl := Option.some.inj H
      have Ot : 0 <= (ay : Int) := of_decide_eq_true eP
      have Ou : ay < (l0.length : Int) := of_decide_eq_true eP
      obtain ⟨ad214, e214, hx214_0⟩ := Kd.rq jf.out ay Ot Ou
      cases e214
      replace Ot := eq_true Ot
      replace Ou := eq_true Ou
      go_wp2
      go_ret
      exact ⟨by first | rfl | (simp; done) | (simp [*]; done), by repeat (first | exact ak.refl _ | apply ak.step)⟩
    ·rw [if_neg c4] at H
     exact absurd H (by simp)
   ·rw [if_neg c3] at H
    have jv : decide (ay < (l0.length : Int)) = false := decide_eq_false c3
    clear c3
    obtain rfl := Option.some.inj H
    go_wp2
    go_ret
    exact ⟨by first | rfl | (simp; done) | (simp [*]; done), by repeat (first | exact ak.refl _ | apply ak.step)⟩
def bT.l0 : Nat -> List (bE) -> Int -> Int -> Option (Int)
 | 0, _, _, _ => none
 | k + 1, x0, x1, x5 => if x5 < (x0.length : Int) then (if 0 <= x5 then ((bf.f k ((aJ x0 x5).f0) x1).bind fun vU => (if vU < 0 then (some (-1)) else ((bf.f k ((aJ x0 x5).f1) vU).bind fun t218 => (if t218 < 0 then (some (-1)) else ((bW.f k ((aJ x0 x5).f2) t218).bind fun wN => (if wN < 0 then (some (-1)) else (bT.l0 k x0 wN (wrap64 (x5 + 1))))))))) else (none)) else (some x1)
def bT.f (k : Nat) (l0 : List (bE)) (a1 : Int) : Option (Int) := bT.l0 k l0 a1 0
theorem bT.calls (k : Nat) (A0 : Option Addr) (c0 : Nat) (l0 : List (bE)) (a1 : Int) (r : Int) (w : World) (hr0 : Kd.C oP w A0 l0.length l0) (hc0 : l0.length <= c0) (h : bT.f k l0 a1 = some r) :
  Calls Try.prog 82 #[.slice A0 l0.length c0, .int .i64 a1] w fun e w' => e = .returned (.int .i64 r) /\ Below w.heap.size w w' := by
 have jf := A_ hr0
 have nQ := A_ hc0
 clear hr0 hc0
 have HB := A_ (Below.refl w.heap.size w)
 have H : (bT.l0 k l0 a1 0) = some r := h
 clear h
 have H' := A_ H
 clear H
 go_enter Try.func82, Try.ntmps82
 go_wp2
 go_loopg [1, 5] k (fun kq v1 v5 w' => ∃ (fC : Int) (ay : Int), v1 = .int .i64 fC /\ v5 = .int .i64 ay /\ ae (bT.l0 kq l0 fC ay = some r) /\ ae (kq <= k) /\ ae (Below w.heap.size w w'))
 case atStart => exact ⟨(a1), (0), (by first | rfl | (simp; done) | (simp [*]; done)), (by first | rfl | (simp; done) | (simp [*]; done)), H', ⟨Nat.le_refl _⟩, ⟨ko HB.out⟩⟩
 case round =>
  clear H'
  (try clear p2)
  obtain ⟨fC, ay, rfl, rfl, HA, ni, HB⟩ := hrel
  cases gk with
  | zero => exact absurd HA.out (by simp [bT.l0])
  | succ k1 =>
   have H := HA.out
   clear HA
   simp only [bT.l0] at H
   by_cases c3 : ay < (l0.length : Int)
   ·rw [if_pos c3] at H
    have jv : decide (ay < (l0.length : Int)) = true := decide_eq_true c3
    clear c3
    by_cases c4 : 0 <= ay
    ·rw [if_pos c4] at H
     have mq : decide (0 <= ay) = true := decide_eq_true c4
     clear c4
     replace H := Option.bind_eq_some_iff.mp H
     obtain ⟨vU, IB, H⟩ := H
     replace H : (if vU < 0 then (some (-1)) else ((bf.f k1 ((aJ l0 ay).f1) vU).bind fun t218 => (if t218 < 0 then (some (-1)) else ((bW.f k1 ((aJ l0 ay).f2) t218).bind fun wN => (if wN < 0 then (some (-1)) else (bT.l0 k1 l0 wN (wrap64 (ay + 1)))))))) = some r := H
     have A5 := A_ IB
     clear IB
     by_cases c6 : vU < 0
     ·rw [if_pos c6] at H
      have yD : decide (vU < 0) = true := decide_eq_true c6
      clear c6
      obtain rfl := Option.some.inj H
      have yE : 0 <= (ay : Int) := of_decide_eq_true eP
      have yF : ay < (l0.length : Int) := of_decide_eq_true eP
      obtain ⟨Cx, yG, yH, Ov, Ow, Ox, Oy, e215, j5, j6, kg, nS, nT, nU, nV, nW, nX⟩ := jT jf.out ay yE yF
      cases e215
      replace j5 := (HB.out.cell (World.block_lt_of_cell? w _ j5)).trans j5
      replace j6 := (HB.out.cell (World.block_lt_of_cell? w _ j6)).trans j6
      replace kg := (HB.out.cell (World.block_lt_of_cell? w _ kg)).trans kg
      have ve := A_ nT
      have vg := A_ nS
      clear nT nS
      have JO := A_ nV
      have JP := A_ nU
      clear nV nU
      have JQ := A_ nX
      have JR := A_ nW
      clear nX nW
      replace yE := eq_true yE
      replace yF := eq_true yF
      go_wp2_with (first | ((with_reducible refine aI (f := 29) rfl ?_); refine bV (some 18) rfl rfl Try.func29 (by kernel_rfl) rfl #[.slice yG ((aJ l0 ay).f0).length yH, .int .i64 fC] rfl (mY) ?_; (with_reducible refine (bf.calls k1 _ _ ((aJ l0 ay).f0) fC vU _ ?aj ?aU A5.out).mono ?_); (case aj => refine lH ?_; exact (Kd.aA ve.out HB.out)); (case aU => exact vg.out); rintro e w7 ⟨rfl, hb⟩; refine ⟨_, rfl, ?_⟩; replace HB := A_ (jO HB.out hb); (try clear hb); (try clear hb2); (try clear hk); (try clear hi)))
      go_ret
      exact ⟨vE, by repeat (first | (with_reducible first | exact HB.out | apply aK | apply ah | apply aT) | exact HB.out)⟩
     ·rw [if_neg c6] at H
      have yD : decide (vU < 0) = false := decide_eq_false c6
      clear c6
      replace H := Option.bind_eq_some_iff.mp H
      obtain ⟨t218, A80, H⟩ := H
      replace H : (if t218 < 0 then (some (-1)) else ((bW.f k1 ((aJ l0 ay).f2) t218).bind fun wN => (if wN < 0 then (some (-1)) else (bT.l0 k1 l0 wN (wrap64 (ay + 1)))))) = some r := H
      have A8 := A_ A80
      clear A80
      by_cases c9 : t218 < 0
      ·rw [if_pos c9] at H
       have Oz : decide (t218 < 0) = true := decide_eq_true c9
       clear c9
       obtain rfl := Option.some.inj H
       have yE : 0 <= (ay : Int) := of_decide_eq_true eP
       have yF : ay < (l0.length : Int) := of_decide_eq_true eP
       obtain ⟨Cx, yG, yH, Ov, Ow, Ox, Oy, e215, j5, j6, kg, nS, nT, nU, nV, nW, nX⟩ := jT jf.out ay yE yF
       cases e215
       replace j5 := (HB.out.cell (World.block_lt_of_cell? w _ j5)).trans j5
       replace j6 := (HB.out.cell (World.block_lt_of_cell? w _ j6)).trans j6
       replace kg := (HB.out.cell (World.block_lt_of_cell? w _ kg)).trans kg
       have ve := A_ nT
       have vg := A_ nS
       clear nT nS
       have JO := A_ nV
       have JP := A_ nU
       clear nV nU
       have JQ := A_ nX
       have JR := A_ nW
       clear nX nW
       replace yE := eq_true yE
       replace yF := eq_true yF
       go_wp2_with (first | ((with_reducible refine aI (f := 29) rfl ?_); refine bV (some 18) rfl rfl Try.func29 (by kernel_rfl) rfl #[.slice yG ((aJ l0 ay).f0).length yH, .int .i64 fC] rfl (mY) ?_; (with_reducible refine (bf.calls k1 _ _ ((aJ l0 ay).f0) fC vU _ ?aj ?aU A5.out).mono ?_); (case aj => refine lH ?_; exact (Kd.aA ve.out HB.out)); (case aU => exact vg.out); rintro e vN ⟨rfl, hb⟩; refine ⟨_, rfl, ?_⟩; replace HB := A_ (jO HB.out hb); (try clear hb); (try clear hb2); (try clear hk); (try clear hi); have EJ : 0 <= (ay : Int) := of_decide_eq_true eP; have EK : ay < (l0.length : Int) := of_decide_eq_true eP; obtain ⟨L8, A217_0, c217_0, EL, EM, A217_2, c217_2, e217, nY, nZ, oh, sI, sJ, sK, sM, sN, sO⟩ := jT jf.out ay EJ EK; obtain rfl : Cx = L8 := (by injection e217); replace nY := (HB.out.cell (World.block_lt_of_cell? w _ nY)).trans nY; replace nZ := (HB.out.cell (World.block_lt_of_cell? w _ nZ)).trans nZ; replace oh := (HB.out.cell (World.block_lt_of_cell? w _ oh)).trans oh; have HR217_0 := A_ sJ; have HC217_0 := A_ sI; clear sJ sI; have zM := A_ sM; have zN := A_ sK; clear sM sK; have HR217_2 := A_ sO; have HC217_2 := A_ sN; clear sO sN; replace EJ := eq_true EJ; replace EK := eq_true EK) | ((with_reducible refine aI (f := 29) rfl ?_); refine bV (some 27) rfl rfl Try.func29 (by kernel_rfl) rfl #[.slice EL ((aJ l0 ay).f1).length EM, .int .i64 vU] rfl (mY) ?_; (with_reducible refine (bf.calls k1 _ _ ((aJ l0 ay).f1) vU t218 _ ?aj ?aU A8.out).mono ?_); (case aj => refine lH ?_; exact (Kd.aA zM.out HB.out)); (case aU => exact zN.out); rintro e sP ⟨rfl, hb⟩; refine ⟨_, rfl, ?_⟩; replace HB := A_ (jO HB.out hb); (try clear hb); (try clear hb2); (try clear hk); (try clear hi)))
       go_ret
       exact ⟨vE, by repeat (first | (with_reducible first | exact HB.out | apply aK | apply ah | apply aT) | exact HB.out)⟩
      ·rw [if_neg c9] at H
       have Oz : decide (t218 < 0) = false := decide_eq_false c9
       clear c9
       replace H := Option.bind_eq_some_iff.mp H
       obtain ⟨wN, A120, H⟩ := H
       replace H : (if wN < 0 then (some (-1)) else (bT.l0 k1 l0 wN (wrap64 (ay + 1)))) = some r := H
       have A12 := A_ A120
       clear A120
       by_cases c13 : wN < 0
       ·rw [if_pos c13] at H
        have c13b0 : decide (wN < 0) = true := decide_eq_true c13
        clear c13
        obtain rfl := Option.some.inj H
        have yE : 0 <= (ay : Int) := of_decide_eq_true eP
        have yF : ay < (l0.length : Int) := of_decide_eq_true eP
        obtain ⟨Cx, yG, yH, Ov, Ow, Ox, Oy, e215, j5, j6, kg, nS, nT, nU, nV, nW, nX⟩ := jT jf.out ay yE yF
        cases e215
        replace j5 := (HB.out.cell (World.block_lt_of_cell? w _ j5)).trans j5
        replace j6 := (HB.out.cell (World.block_lt_of_cell? w _ j6)).trans j6
        replace kg := (HB.out.cell (World.block_lt_of_cell? w _ kg)).trans kg
        have ve := A_ nT
        have vg := A_ nS
        clear nT nS
        have JO := A_ nV
        have JP := A_ nU
        clear nV nU
        have JQ := A_ nX
        have JR := A_ nW
        clear nX nW
        replace yE := eq_true yE
        replace yF := eq_true yF
        go_wp2_with (first | ((with_reducible refine aI (f := 29) rfl ?_); refine bV (some 18) rfl rfl Try.func29 (by kernel_rfl) rfl #[.slice yG ((aJ l0 ay).f0).length yH, .int .i64 fC] rfl (mY) ?_; (with_reducible refine (bf.calls k1 _ _ ((aJ l0 ay).f0) fC vU _ ?aj ?aU A5.out).mono ?_); (case aj => refine lH ?_; exact (Kd.aA ve.out HB.out)); (case aU => exact vg.out); rintro e IC ⟨rfl, hb⟩; refine ⟨_, rfl, ?_⟩; replace HB := A_ (jO HB.out hb); (try clear hb); (try clear hb2); (try clear hk); (try clear hi); have EJ : 0 <= (ay : Int) := of_decide_eq_true eP; have EK : ay < (l0.length : Int) := of_decide_eq_true eP; obtain ⟨L8, A217_0, c217_0, EL, EM, A217_2, c217_2, e217, nY, nZ, oh, sI, sJ, sK, sM, sN, sO⟩ := jT jf.out ay EJ EK; obtain rfl : Cx = L8 := (by injection e217); replace nY := (HB.out.cell (World.block_lt_of_cell? w _ nY)).trans nY; replace nZ := (HB.out.cell (World.block_lt_of_cell? w _ nZ)).trans nZ; replace oh := (HB.out.cell (World.block_lt_of_cell? w _ oh)).trans oh; have HR217_0 := A_ sJ; have HC217_0 := A_ sI; clear sJ sI; have zM := A_ sM; have zN := A_ sK; clear sM sK; have HR217_2 := A_ sO; have HC217_2 := A_ sN; clear sO sN; replace EJ := eq_true EJ; replace EK := eq_true EK) | ((with_reducible refine aI (f := 29) rfl ?_); refine bV (some 27) rfl rfl Try.func29 (by kernel_rfl) rfl #[.slice EL ((aJ l0 ay).f1).length EM, .int .i64 vU] rfl (mY) ?_; (with_reducible refine (bf.calls k1 _ _ ((aJ l0 ay).f1) vU t218 _ ?aj ?aU A8.out).mono ?_); (case aj => refine lH ?_; exact (Kd.aA zM.out HB.out)); (case aU => exact zN.out); rintro e EN ⟨rfl, hb⟩; refine ⟨_, rfl, ?_⟩; replace HB := A_ (jO HB.out hb); (try clear hb); (try clear hb2); (try clear hk); (try clear hi); have OA : 0 <= (ay : Int) := of_decide_eq_true eP; have OB : ay < (l0.length : Int) := of_decide_eq_true eP; obtain ⟨TV, A219_0, c219_0, A219_1, c219_1, OC, OD, e219, vk, vw, vz, zO, zP, zQ, zR, zS, zT⟩ := jT jf.out ay OA OB; obtain rfl : Cx = TV := (by injection e219); replace vk := (HB.out.cell (World.block_lt_of_cell? w _ vk)).trans vk; replace vw := (HB.out.cell (World.block_lt_of_cell? w _ vw)).trans vw; replace vz := (HB.out.cell (World.block_lt_of_cell? w _ vz)).trans vz; have HR219_0 := A_ zP; have HC219_0 := A_ zO; clear zP zO; have HR219_1 := A_ zR; have HC219_1 := A_ zQ; clear zR zQ; have JS := A_ zT; have JU := A_ zS; clear zT zS; replace OA := eq_true OA; replace OB := eq_true OB) | ((with_reducible refine aI (f := 111) rfl ?_); refine bV (some 36) rfl rfl Try.func111 (by kernel_rfl) rfl #[.slice OC ((aJ l0 ay).f2).length OD, .int .i64 t218] rfl (mY) ?_; (with_reducible refine (bW.calls k1 _ _ ((aJ l0 ay).f2) t218 wN _ ?aj ?aU A12.out).mono ?_); (case aj => refine lH ?_; exact (Kd.aA JS.out HB.out)); (case aU => exact JU.out); rintro e w' ⟨rfl, ⟨nd, rfl⟩⟩; refine ⟨_, rfl, ?_⟩))
        go_ret
        exact ⟨vE, by repeat (first | (with_reducible first | exact HB.out | apply aK | apply ah | apply aT) | exact HB.out)⟩
       ·rw [if_neg c13] at H
        have c13b0 : decide (wN < 0) = false := decide_eq_false c13
        clear c13
        have H' := A_ H
        clear H
        have yE : 0 <= (ay : Int) := of_decide_eq_true eP
        have yF : ay < (l0.length : Int) := of_decide_eq_true eP
        obtain ⟨Cx, yG, yH, Ov, Ow, Ox, Oy, e215, j5, j6, kg, nS, nT, nU, nV, nW, nX⟩ := jT jf.out ay yE yF
        cases e215
        replace j5 := (HB.out.cell (World.block_lt_of_cell? w _ j5)).trans j5
        replace j6 := (HB.out.cell (World.block_lt_of_cell? w _ j6)).trans j6
        replace kg := (HB.out.cell (World.block_lt_of_cell? w _ kg)).trans kg
        have ve := A_ nT
        have vg := A_ nS
        clear nT nS
        have JO := A_ nV
        have JP := A_ nU
        clear nV nU
        have JQ := A_ nX
        have JR := A_ nW
        clear nX nW
        replace yE := eq_true yE
        replace yF := eq_true yF
        go_wp2_with (first | ((with_reducible refine aI (f := 29) rfl ?_); refine bV (some 18) rfl rfl Try.func29 (by kernel_rfl) rfl #[.slice yG ((aJ l0 ay).f0).length yH, .int .i64 fC] rfl (mY) ?_; (with_reducible refine (bf.calls k1 _ _ ((aJ l0 ay).f0) fC vU _ ?aj ?aU A5.out).mono ?_); (case aj => refine lH ?_; exact (Kd.aA ve.out HB.out)); (case aU => exact vg.out); rintro e w16 ⟨rfl, hb⟩; refine ⟨_, rfl, ?_⟩; replace HB := A_ (jO HB.out hb); (try clear hb); (try clear hb2); (try clear hk); (try clear hi); have EJ : 0 <= (ay : Int) := of_decide_eq_true eP; have EK : ay < (l0.length : Int) := of_decide_eq_true eP; obtain ⟨L8, A217_0, c217_0, EL, EM, A217_2, c217_2, e217, nY, nZ, oh, sI, sJ, sK, sM, sN, sO⟩ := jT jf.out ay EJ EK; obtain rfl : Cx = L8 := (by injection e217); replace nY := (HB.out.cell (World.block_lt_of_cell? w _ nY)).trans nY; replace nZ := (HB.out.cell (World.block_lt_of_cell? w _ nZ)).trans nZ; replace oh := (HB.out.cell (World.block_lt_of_cell? w _ oh)).trans oh; have HR217_0 := A_ sJ; have HC217_0 := A_ sI; clear sJ sI; have zM := A_ sM; have zN := A_ sK; clear sM sK; have HR217_2 := A_ sO; have HC217_2 := A_ sN; clear sO sN; replace EJ := eq_true EJ; replace EK := eq_true EK) | ((with_reducible refine aI (f := 29) rfl ?_); refine bV (some 27) rfl rfl Try.func29 (by kernel_rfl) rfl #[.slice EL ((aJ l0 ay).f1).length EM, .int .i64 vU] rfl (mY) ?_; (with_reducible refine (bf.calls k1 _ _ ((aJ l0 ay).f1) vU t218 _ ?aj ?aU A8.out).mono ?_); (case aj => refine lH ?_; exact (Kd.aA zM.out HB.out)); (case aU => exact zN.out); rintro e ZY ⟨rfl, hb⟩; refine ⟨_, rfl, ?_⟩; replace HB := A_ (jO HB.out hb); (try clear hb); (try clear hb2); (try clear hk); (try clear hi); have OA : 0 <= (ay : Int) := of_decide_eq_true eP; have OB : ay < (l0.length : Int) := of_decide_eq_true eP; obtain ⟨TV, A219_0, c219_0, A219_1, c219_1, OC, OD, e219, vk, vw, vz, zO, zP, zQ, zR, zS, zT⟩ := jT jf.out ay OA OB; obtain rfl : Cx = TV := (by injection e219); replace vk := (HB.out.cell (World.block_lt_of_cell? w _ vk)).trans vk; replace vw := (HB.out.cell (World.block_lt_of_cell? w _ vw)).trans vw; replace vz := (HB.out.cell (World.block_lt_of_cell? w _ vz)).trans vz; have HR219_0 := A_ zP; have HC219_0 := A_ zO; clear zP zO; have HR219_1 := A_ zR; have HC219_1 := A_ zQ; clear zR zQ; have JS := A_ zT; have JU := A_ zS; clear zT zS; replace OA := eq_true OA; replace OB := eq_true OB) | ((with_reducible refine aI (f := 111) rfl ?_); refine bV (some 36) rfl rfl Try.func111 (by kernel_rfl) rfl #[.slice OC ((aJ l0 ay).f2).length OD, .int .i64 t218] rfl (mY) ?_; (with_reducible refine (bW.calls k1 _ _ ((aJ l0 ay).f2) t218 wN _ ?aj ?aU A12.out).mono ?_); (case aj => refine lH ?_; exact (Kd.aA JS.out HB.out)); (case aU => exact JU.out); rintro e w' ⟨rfl, ⟨nd, rfl⟩⟩; refine ⟨_, rfl, ?_⟩))
        go_roundg k1
        case measure => have := ni.out; omega
        case rel => exact ⟨(wN), (wrap64 (ay + 1)), (by first | rfl | (simp; done) | (simp [*]; done)), (by first | rfl | (simp; done) | (simp [*]; done)), H', ⟨by have := ni.out; omega⟩, ⟨ko HB.out⟩⟩
    ·rw [if_neg c4] at H
     exact absurd H (by simp)
   ·rw [if_neg c3] at H
    have jv : decide (ay < (l0.length : Int)) = false := decide_eq_false c3
    clear c3
    obtain rfl := Option.some.inj H
    go_wp2
    go_ret
    exact ⟨vE, by repeat (first | (with_reducible first | exact HB.out | apply aK | apply ah | apply aT) | exact HB.out)⟩
def iV : Kd bE where
  sz := oP.sz
  E := oP.E
  K := oP.K
  M := fun w base ok x cs => ∃ (f : Nat -> Nat) (v0 v1 v2 : Value), cs = [v0, v1, v2] /\ Kd.string.R 9 w base (fun k => ok k /\ f k = 0) v0 x.f0 /\ Kd.string.R 9 w base (fun k => ok k /\ f k = 1) v1 x.f1 /\ (Kd.int .i64).R 3 w base (fun k => ok k /\ f k = 2) v2 x.f2
  jy := fun h => oP.jy h
  jd := fun h => oP.jd h
  fV := fun hb h => oP.fV hb h
  eQ := by
    rintro w base ok x cs ⟨f, v0, v1, v2, rfl, h0, h1, h2⟩
    exact oP.eQ (SA w base ok x (Kd.dG h0 (fun _ h => h.1)) (Kd.dG h1 (fun _ h => h.1)) (Kd.dG h2 (fun _ h => h.1)))
  dH := by
    rintro w base ok ok' x cs hok ⟨f, v0, v1, v2, rfl, h0, h1, h2⟩
    exact ⟨f, v0, v1, v2, rfl, Kd.dG h0 (fun k h => ⟨hok k h.1, h.2⟩), Kd.dG h1 (fun k h => ⟨hok k h.1, h.2⟩), Kd.dG h2 (fun k h => ⟨hok k h.1, h.2⟩)⟩
  eG := by
    rintro w base ok x cs ⟨f, v0, v1, v2, rfl, h0, h1, h2⟩
    have hE : oP.E = [9, 9, 3] := rfl
    refine ⟨f, v0, v1, v2, rfl, Kd.dG (Kd.mD h0) ?_, Kd.dG (Kd.mD h1) ?_, Kd.dG (Kd.mD h2) ?_⟩
    all_goals
      rintro k ⟨⟨a, b⟩, c, d, q, hq, hc⟩
      refine ⟨⟨a, c, d, q, ?_, hc⟩, b⟩
      rw [hE]
      first
        | (have : q = 9 := by simpa [Kd.string, Kd.int, Kd.scalar] using hq
           subst this
           simp)
        | (have : q = 3 := by simpa [Kd.string, Kd.int, Kd.scalar] using hq
           subst this
           simp)
  fQ := by
    rintro w w1 base ok x cs hm ⟨f, v0, v1, v2, rfl, h0, h1, h2⟩
    exact ⟨f, v0, v1, v2, rfl, Kd.wu h0 (fun k h => hm k h.1), Kd.wu h1 (fun k h => hm k h.1), Kd.wu h2 (fun k h => hm k h.1)⟩
  gD := by
    rintro w base base' ok x cs hb ⟨f, v0, v1, v2, rfl, h0, h1, h2⟩
    exact ⟨f, v0, v1, v2, rfl, Kd.iC h0 hb, Kd.iC h1 hb, Kd.iC h2 hb⟩
theorem Ci {w : World} {base : Nat} {ok : Nat -> Prop} {x : bE} {cs : List Value} (h : iV.M w base ok x cs) : ∃ v0 v1 v2, cs = [v0, v1, v2] /\ Kd.string.R 9 w base ok v0 x.f0 /\ Kd.string.R 9 w base ok v1 x.f1 /\ (Kd.int .i64).R 3 w base ok v2 x.f2 := by
  obtain ⟨f, v0, v1, v2, rfl, h0, h1, h2⟩ := h
  exact ⟨v0, v1, v2, rfl, Kd.dG h0 (fun _ h => h.1), Kd.dG h1 (fun _ h => h.1), Kd.dG h2 (fun _ h => h.1)⟩
theorem Nn (w : World) (base : Nat) (ok : Nat -> Prop) : iV.M w base ok jG [.slice none 0 0, .slice none 0 0, .slice none 0 0] := ⟨fun _ => 0, _, _, _, rfl, Kd.yR _ _ _ _ _, Kd.yR _ _ _ _ _, Kd.yR _ _ _ _ _⟩
theorem Gz (w : World) (base : Nat) (ok : Nat -> Prop) (x : bE) {v0 v1 v2 : Value} (g0 : Kd.string.R 9 w base ok v0 x.f0) (g1 : Kd.string.R 9 w base ok v1 x.f1) (g2 : (Kd.int .i64).R 3 w base ok v2 x.f2) (hne : ∀ k, v0.ownBlock = some k -> some k ≠ v1.ownBlock) : iV.M w base ok x [v0, v1, v2] := by
  have ty : ∀ {u : Value} {y : List ByteArray}, Kd.string.R 9 w base ok u y -> ∀ k, u.ownBlock = some k -> some k ≠ v2.ownBlock := fun g k hk h2 => by
    obtain ⟨c1, e1⟩ := Kd.I5 g k hk
    obtain ⟨c2, e2⟩ := Kd.I5 g2 k h2.symm
    rw [e1] at e2
    injection e2 with e2
    injection e2 with _ e2
    cases e2
  refine ⟨fun k => if some k = v1.ownBlock then 1 else if some k = v2.ownBlock then 2 else 0, v0, v1, v2, rfl, Kd.dG (Kd.Du rfl g0) (fun k h => ⟨h.2, ?_⟩), Kd.dG (Kd.Du rfl g1) (fun k h => ⟨h.2, if_pos h.1⟩), Kd.dG (Kd.Du rfl g2) (fun k h => ⟨h.2, ?_⟩)⟩
  · show (if some k = v1.ownBlock then 1 else if some k = v2.ownBlock then 2 else 0) = 0
    rw [if_neg (hne k h.1.symm), if_neg (ty g0 k h.1.symm)]
  · show (if some k = v1.ownBlock then 1 else if some k = v2.ownBlock then 2 else 0) = 2
    rw [if_neg (fun e => ty g1 k e.symm h.1), if_pos h.1]
def bJ.l0 : Nat -> List (bE) -> Int -> Int -> Option (Int × List (bE))
  | 0, _, _, _ => none
  | k + 1, x0, x1, x5 => if x5 < (x0.length : Int) then (if 0 <= x5 then ((aY.f k (aJ x0 x5).f0 x1).bind fun a => (aY.f k (aJ x0 x5).f1 a.1).bind fun b => (bK.f k (aJ x0 x5).f2 b.1).bind fun c => bJ.l0 k (x0.set (x5 : Int).toNat ⟨a.2, b.2, c.2⟩) c.1 (wrap64 (x5 + 1))) else (none)) else (some (x1, x0))
def bJ.f (k : Nat) (l0 : List (bE)) (a1 : Int) : Option (Int × List (bE)) := bJ.l0 k l0 a1 0
theorem bJ.calls (k : Nat) (ok : Nat -> Prop) (v : Value) (l0 : List (bE)) (a1 : Int) (r1 : Int) (r2 : List (bE)) (w0 w : World) (hB : Below w0.heap.size w0 w) (ho : Kd.S iV 110 w w0.heap.size ok v l0) (h : bJ.f k l0 a1 = some (r1, r2)) :
    Calls Try.prog 67 #[v, .int .i64 a1] w fun e w' => e = .returned (.int .i64 r1) /\ Kd.S iV 110 w' w0.heap.size ok v r2 /\ Below w0.heap.size w0 w' /\ Kept w w' ok := by
  have QD := Try.underlying110
  have HO := ae.mk ho
  have HK := ae.mk (Kept.refl w ok)
  have HB := ae.mk hB
  have H' := ae.mk (show bJ.l0 k l0 a1 0 = some (r1, r2) from h)
  clear hB ho h
  go_enter Try.func67, Try.ntmps67
  go_wp2
  go_loopg [1, 5] k (fun kq v1 v5 w' => ∃ (x0 : List (bE)) (x1 : Int) (x5 : Int), v1 = .int .i64 x1 /\ v5 = .int .i64 x5 /\ ae (bJ.l0 kq x0 x1 x5 = some (r1, r2)) /\ ae (kq <= k) /\ ae (Kd.S iV 110 w' w0.heap.size ok v x0) /\ ae (Kept w w' ok) /\ ae (Below w0.heap.size w0 w'))
  case atStart => exact ⟨l0, a1, 0, by first | rfl | (simp; done), by first | rfl | (simp; done), H', ⟨Nat.le_refl _⟩, HO, HK, HB⟩
  case round =>
    clear H' HO HK HB
    obtain ⟨x0, x1, x5, rfl, rfl, HA, ni, HO, HK, HB⟩ := hrel
    cases gk with
    | zero => exact absurd HA.out (by simp [bJ.l0])
    | succ k1 =>
      have H := HA.out
      clear HA
      simp only [bJ.l0] at H
      by_cases c3 : x5 < (x0.length : Int)
      · rw [if_pos c3] at H
        have c3b : decide (x5 < (x0.length : Int)) = true := decide_eq_true c3
        by_cases c4 : 0 <= x5
        · rw [if_pos c4] at H
          have c4b : decide (0 <= x5) = true := decide_eq_true c4
          obtain ⟨a, ha, H⟩ := Option.bind_eq_some_iff.mp H
          obtain ⟨b, hb, H⟩ := Option.bind_eq_some_iff.mp H
          obtain ⟨c, hc, H⟩ := Option.bind_eq_some_iff.mp H
          have HMa := ae.mk ha
          have HMb := ae.mk hb
          have HMc := ae.mk hc
          have H' := ae.mk H
          clear ha hb hc H
          obtain ⟨ZX, co5, eo5, gb5, gl5, cl5, HG5⟩ := Kd.uL (Kd.ZU HO.out) (by omega)
          subst eo5
          clear gb5 gl5 HG5
          obtain ⟨vO, cc, hcl, hM, hcc, hfr, Wt, hH⟩ := Kd.Np HO.out ⟨[], [], []⟩ x5 c4 c3
          have erd : x0.getD x5.toNat ⟨[], [], []⟩ = aJ x0 x5 := rfl
          rw [erd] at hM
          generalize aJ x0 x5 = p at hM HMa HMb HMc
          obtain ⟨f, v0, v1, v2, rfl, hR0, hR1, hR2⟩ := hM
          have z0 := hcc 0 _ rfl
          have z1 := hcc 1 _ rfl
          have z2 := hcc 2 _ rfl
          rw [show iV.sz = 3 from rfl] at z0 z1 z2
          rw [Nat.add_zero] at z0
          have HH := ae.mk hH
          have jf := ae.mk hR0
          have HR1 := ae.mk hR1
          have HR2 := ae.mk hR2
          have HT0 := ae.mk (fun k_ (e_ : v0.ownBlock = some k_) => hR0.1 k_ e_)
          have HT1 := ae.mk (fun k_ (e_ : v1.ownBlock = some k_) => hR1.1 k_ e_)
          have HT2 := ae.mk (fun k_ (e_ : v2.ownBlock = some k_) => hR2.1 k_ e_)
          have HI := ae.mk Wt
          clear hH hR0 hR1 hR2 hcc hcl hfr Wt erd HO
          go_wp2_with (go_at_call 28; (with_reducible refine (aY.calls k1 (fun k_ => vO k_ /\ f k_ = 0) v0 p.f0 x1 a.1 a.2 w0 _ ?aj ?aU HMa.out).mono ?_); (case aj => exact HB.out); (case aU => exact jf.out); rintro e w2 ⟨rfl, hr2, hb2, hk2⟩; have ZZ := ae.mk (Kd.Nq HH.out hk2 (fun _ _ Bg uI => Bg uI.1)); have HQ0 := ae.mk (Kd.dG (Kd.r9 rfl hr2) (fun k_ Yn => HT0.out k_ Yn.symm)); have HQ1 := ae.mk (Kd.Bi HR1.out hk2 (fun k_ Bg uI => by have Yo := Bg.2; have e2_ := uI.2; omega)); have HQ2 := ae.mk (Kd.Bi HR2.out hk2 (fun k_ Bg uI => by have Yo := Bg.2; have e2_ := uI.2; omega)); have HB2 := ae.mk hb2; have Vi := ae.mk (HK.out.yS hk2 (fun k_ h_ => .inl (HI.out k_ h_.1).1)); have y1 := cell_kept z1 hk2 (fun h_ => (HI.out _ h_.1).2 rfl); have y2 := cell_kept z2 hk2 (fun h_ => (HI.out _ h_.1).2 rfl); clear hr2 hb2 hk2 HH jf HR1 HR2 HB HK z0 z1 z2)
          go_wp2_with (go_at_call 28; (with_reducible refine (aY.calls k1 (fun k_ => vO k_ /\ f k_ = 1) v1 p.f1 a.1 b.1 b.2 w0 _ ?aj ?aU HMb.out).mono ?_); (case aj => exact HB2.out); (case aU => exact HQ1.out); rintro e w3 ⟨rfl, hr2, hb2, hk2⟩; have HH3 := ae.mk (Kd.Nq ZZ.out hk2 (fun _ _ Bg uI => Bg uI.1)); have HU1 := ae.mk (Kd.dG (Kd.r9 rfl hr2) (fun k_ Yn => HT1.out k_ Yn.symm)); have HU0 := ae.mk (Kd.Bi HQ0.out hk2 (fun k_ Bg uI => by have Yo := Bg.2; have e2_ := uI.2; omega)); have HU2 := ae.mk (Kd.Bi HQ2.out hk2 (fun k_ Bg uI => by have Yo := Bg.2; have e2_ := uI.2; omega)); have HB3 := ae.mk hb2; have HK3 := ae.mk (Vi.out.yS hk2 (fun k_ h_ => .inl (HI.out k_ h_.1).1)); have x2_ := cell_kept y2 hk2 (fun h_ => (HI.out _ h_.1).2 rfl); clear hr2 hb2 hk2 ZZ HQ0 HQ1 HQ2 HB2 Vi y1 y2)
          go_wp2_with (go_at_call 102; (with_reducible refine (bK.calls k1 (fun k_ => vO k_ /\ f k_ = 2) v2 p.f2 b.1 c.1 c.2 w0 _ ?aj ?aU HMc.out).mono ?_); (case aj => exact HB3.out); (case aU => exact HU2.out); rintro e w4 ⟨rfl, hr2, hb2, hk2⟩; have HH4 := ae.mk (Kd.Nq HH3.out hk2 (fun _ _ Bg uI => Bg uI.1)); have HV2 := ae.mk (Kd.dG (Kd.r9 rfl hr2) (fun k_ Yn => HT2.out k_ Yn.symm)); have pX := ae.mk (Kd.Bi HU0.out hk2 (fun k_ Bg uI => by have Yo := Bg.2; have e2_ := uI.2; omega)); have HV1 := ae.mk (Kd.Bi HU1.out hk2 (fun k_ Bg uI => by have Yo := Bg.2; have e2_ := uI.2; omega)); have HB4 := ae.mk hb2; have HK4 := ae.mk (HK3.out.yS hk2 (fun k_ h_ => .inl (HI.out k_ h_.1).1)); clear hr2 hb2 hk2 HH3 HU0 HU1 HU2 HB3 HK3 x2_)
          go_roundg k1
          case measure => have := ni.out; omega
          case rel => exact ⟨x0.set x5.toNat ⟨a.2, b.2, c.2⟩, c.1, wrap64 (x5 + 1), by first | rfl | (simp; done), by first | rfl | (simp; done), H', ⟨by have := ni.out; omega⟩, ⟨Kd.SB HH4.out (show iV.M _ _ vO ⟨a.2, b.2, c.2⟩ _ from ⟨f, v0, v1, v2, rfl, pX.out, HV1.out, HV2.out⟩) (fun _ h_ => h_)⟩, HK4, HB4⟩
        · rw [if_neg c4] at H
          exact absurd H (by simp)
      · rw [if_neg c3] at H
        have c3b : decide (x5 < (x0.length : Int)) = false := decide_eq_false c3
        clear c3
        simp only [Option.some.injEq, Prod.mk.injEq] at H
        obtain ⟨rfl, rfl⟩ := H
        obtain ⟨Ao, co, eo⟩ := Kd.pq HO.out
        subst eo
        go_wp2
        go_ret
        exact ⟨by first | rfl | (simp; done), HO.out, HB.out, HK.out⟩
theorem xP.calls (k : Nat) (ok : Nat -> Prop) (v : Value) (l0 : List (bE)) (a1 : Int) (r1 : Int) (r2 : List (bE)) (w0 w : World) (hB : Below w0.heap.size w0 w) (ho : Kd.S iV 110 w w0.heap.size ok v l0) (h : bJ.f k l0 a1 = some (r1, r2)) :
    Calls Try.prog 27 #[.agg #[v], .int .i64 a1] w fun e w' => e = .returned (.int .i64 r1) /\ Kd.S iV 110 w' w0.heap.size ok v r2 /\ Below w0.heap.size w0 w' /\ Kept w w' ok := by
  have Wu := Try.underlying29
  obtain ⟨Ao, co, rfl⟩ := Kd.pq ho
  have HO := ae.mk ho
  have HB := ae.mk hB
  have HK := ae.mk (Kept.refl w ok)
  have E := ae.mk h
  clear ho hB h
  go_enter Try.func27, Try.ntmps27
  go_wp2_with (first | ((with_reducible refine kV (N := 2) rfl ?_); refine Gx ?hg (N := 2) ?hd (cs := #[.slice Ao l0.length co]) (t := 29) ?hr ?_; (case hd => rfl); (case hg => rfl); (case hr => first | (go_simp; done) | (go_simp; rfl)); intro gb hg w5 aM hb; have Vj := ae.mk (bA (by repeat (first | (with_reducible first | exact HB.out | apply aK | apply ah | apply aT) | exact HB.out)) hb); have HO5 := ae.mk (Kd.df (by (with_reducible repeat (first | apply Kd.yO | apply Kd.yP | apply Kd.Dr)); exact HO.out) hb); have HK5 := ae.mk (Kept.below HK.out hb); have L9 := (af aM 0).trans rfl; have Ma := ax aM 0; clear aM hb hg) | (go_at_call 67; (with_reducible refine (bJ.calls k ok _ l0 a1 r1 r2 w0 _ ?aj ?aU E.out).mono ?_); (case aj => exact Vj.out); (case aU => exact HO5.out); rintro e w6 ⟨rfl, hr6, hb6, hk6⟩; have HO6 := ae.mk hr6; have HB6 := ae.mk hb6; have HK6 := ae.mk (HK5.out.yS hk6 (fun _ h_ => .inl h_)); clear hr6 hb6 hk6))
  go_ret
  exact ⟨by first | rfl | (simp; done), HO6.out, HB6.out, HK6.out⟩
def bM.l0 : Nat -> List ByteArray -> List ByteArray -> Int -> Option (List ByteArray)
 | 0, _, _, _ => none
 | k + 1, x0, x3, x4 => if x4 < (x0.length : Int) then (if 0 <= x4 then (if x4 < (x3.length : Int) then (bM.l0 k x0 (x3.set (x4 : Int).toNat (cK ByteArray.empty x0 x4)) (wrap64 (x4 + 1))) else (none)) else (none)) else (some x3)
def bM.f (k : Nat) (l0 : List ByteArray) : Option (List ByteArray) := if 0 <= (l0.length : Int) then (if ((l0.length : Int) : Int).toNat <= 17592186044416 then (bM.l0 k l0 (List.replicate ((l0.length : Int) : Int).toNat (⟨#[]⟩ : ByteArray)) 0) else (none)) else (none)
theorem bM.calls (k : Nat) (A0 : Option Addr) (c0 : Nat) (l0 : List ByteArray) (r : List ByteArray) (w : World) (hr0 : Kd.C Kd.string w A0 l0.length l0) (hc0 : l0.length <= c0) (h : bM.f k l0 = some r) :
  Calls Try.prog 43 #[.slice A0 l0.length c0] w fun e w' => ∃ kI : Value, e = .returned (kI) /\ Kd.R Kd.string 9 w' w.heap.size (fun _ => True) kI r /\ Below w.heap.size w w' := by
 have jf := A_ hr0
 have nQ := A_ hc0
 clear hr0 hc0
 have HB := A_ (Below.refl w.heap.size w)
 have H : (if 0 <= (l0.length : Int) then (if ((l0.length : Int) : Int).toNat <= 17592186044416 then (bM.l0 k l0 (List.replicate ((l0.length : Int) : Int).toNat (⟨#[]⟩ : ByteArray)) 0) else (none)) else (none)) = some r := h
 clear h
 by_cases c2 : 0 <= (l0.length : Int)
 ·rw [if_pos c2] at H
  have Gg := eq_true c2
  have TW : decide (0 <= (l0.length : Int)) = true := decide_eq_true c2
  clear c2
  by_cases c3 : ((l0.length : Int) : Int).toNat <= 17592186044416
  ·rw [if_pos c3] at H
   have jv := eq_true c3
   have vV : decide (((l0.length : Int) : Int).toNat <= 17592186044416) = true := decide_eq_true c3
   clear c3
   obtain ⟨y110, Mc⟩ : ∃ y_ : List ByteArray, y_ = (List.replicate ((l0.length : Int) : Int).toNat (⟨#[]⟩ : ByteArray)) := ⟨_, rfl⟩
   replace H : (bM.l0 k l0 y110 0) = some r := by first | (rw [Mc]; with_reducible exact H) | (have iE := (Option.bind_some _ _).symm.trans H; rw [Mc]; with_reducible exact iE) | (have iE := (Option.bind_some _ _).symm.trans H; with_reducible exact iE) | with_reducible exact H | (rw [Mc]; exact H) | exact H
   have Ny110 := A_ Mc
   clear Mc
   have H' := A_ H
   clear H
   go_enter Try.func43, Try.ntmps43
   go_wp2_with (first | ((with_reducible refine kV (N := 7) rfl ?_); refine Kd.Nr Kd.string _ 9 rfl (N := 7) rfl 38 _ _ rfl (l0.length : Int) rfl rfl Try.underlying38 (.string ⟨#[]⟩) 16 eU rfl (by decide) (by omega) (⟨#[]⟩ : ByteArray) (ok := fun _ => True) (okp := fun _ => True) rfl (fun _ hk => hk) trivial (of_decide_eq_true eP) (Nat.le_trans (Nat.mul_le_mul_right _ (of_decide_eq_true eP : (l0.length : Int).toNat <= 17592186044416)) (by omega)) (Below.refl _ _) (Nat.le_refl _) ?_; intro v111 w4 Md hb LY pW; clear LY pW; (first | rw [<- Ny110.out] at Md | (simp only [Int.reduceToNat] at Md; rw [<- Ny110.out] at Md)); have HO112 := A_ (Kd.iC Md (iU HB.out)); replace HB := A_ (jO HB.out hb); clear hb Md))
   go_loopg [4] k (fun kq v4 w' => ∃ (iZ : List ByteArray) (dK : Int), v4 = .int .i64 dK /\ ae (bM.l0 kq l0 iZ dK = some r) /\ ae (kq <= k) /\ ae (Kd.R Kd.string 9 w' w.heap.size (fun _ => True) v111 iZ) /\ ae (Below w.heap.size w w'))
   case atStart => exact ⟨(y110), (0), (by first | rfl | (simp; done) | (simp [*]; done)), H', ⟨Nat.le_refl _⟩, ⟨qU HO112.out⟩, ⟨ko HB.out⟩⟩
   case round =>
    clear H'
    (try clear c2); (try clear Gg); (try clear TW); (try clear p2); (try clear c3); (try clear jv); (try clear vV); (try clear c4)
    obtain ⟨iZ, dK, rfl, HA, ni, lQ, HB⟩ := hrel
    cases gk with
    | zero => exact absurd HA.out (by simp [bM.l0])
    | succ k1 =>
     have H := HA.out
     clear HA
     simp only [bM.l0] at H
     by_cases c6 : dK < (l0.length : Int)
     ·rw [if_pos c6] at H
      have yD : decide (dK < (l0.length : Int)) = true := decide_eq_true c6
      clear c6
      by_cases c7 : 0 <= dK
      ·rw [if_pos c7] at H
       have CU : decide (0 <= dK) = true := decide_eq_true c7
       clear c7
       by_cases c8 : dK < (iZ.length : Int)
       ·rw [if_pos c8] at H
        have LZ : decide (dK < (iZ.length : Int)) = true := decide_eq_true c8
        clear c8
        obtain ⟨y114, hy114⟩ : ∃ y_ : List ByteArray, y_ = (iZ.set (dK : Int).toNat (cK ByteArray.empty l0 dK)) := ⟨_, rfl⟩
        replace H : (bM.l0 k1 l0 y114 (wrap64 (dK + 1))) = some r := by first | (rw [hy114]; with_reducible exact H) | (have iE := (Option.bind_some _ _).symm.trans H; rw [hy114]; with_reducible exact iE) | (have iE := (Option.bind_some _ _).symm.trans H; with_reducible exact iE) | with_reducible exact H | (rw [hy114]; exact H) | exact H
        have Ny114 := A_ hy114
        clear hy114
        have H' := A_ H
        clear H
        have Yp : 0 <= (dK : Int) := of_decide_eq_true eP
        have Yq : dK < (l0.length : Int) := of_decide_eq_true eP
        obtain ⟨ad113, e113, JV⟩ := Kd.cO jf.out dK Yp Yq
        cases e113
        replace JV := (HB.out.cell (World.block_lt_of_cell? w _ JV)).trans JV
        replace Yp := eq_true Yp
        replace Yq := eq_true Yq
        have p9 : 0 <= (dK : Int) := of_decide_eq_true eP
        have q9 : (dK : Int) < ((iZ.length : Int) : Int) := of_decide_eq_true eP
        obtain ⟨Yr, co9, Yk, gb9, gl9, cl9, HG9⟩ := Kd.uL lQ.out (by omega)
        (first | cases Yk | (injection Yk with Dm Wq Ws; (first | subst Dm | (injection Dm with Dm; subst Dm)); subst Ws; clear Wq))
        have GB9 := A_ gb9
        have GG9 := A_ HG9
        clear gb9 gl9 HG9
        obtain ⟨hx9_0, hf9_0⟩ := Kd.yQ (⟨#[]⟩ : ByteArray) lQ.out (dK : Int) p9 q9
        replace p9 := eq_true p9
        replace q9 := eq_true q9
        have OE := Kd.I4 lQ.out (dK : Int) (cK ByteArray.empty l0 dK)
        go_wp2_with (first | ((with_reducible refine rf (t := 9) (p := 20) rfl ?_); refine pG (t := 9) (p := 20) (v := ?vo_w11) (w1 := (wr.setCell ⟨Yr, (dK : Int).toNat, none⟩ (.string (cK ByteArray.empty l0 dK)))) ?hg ?ho ?hn ?hr ?_; (case ho => rfl); (case hg => rfl); (case hn => rfl); (case hr => first | (go_simp; done) | (go_simp; rfl)); intro sP hw; have hg : wr.grownBy sP (some Yr) := (by rw [hw]; exact OE.2); have QC : Kd.R Kd.string 9 sP w.heap.size (fun _ => True) (.slice (some ⟨Yr, 0, none⟩) iZ.length co9) y114 := (by rw [hw, Ny114.out]; exact OE.1); clear OE; replace lQ := A_ (QC); replace HB := A_ ((by rw [hw]; exact bL (HB.out) GB9.out : Below w.heap.size w sP)); clear hg hw QC))
        go_roundg k1
        case measure => have := ni.out; omega
        case rel => exact ⟨(y114), (wrap64 (dK + 1)), (by first | rfl | (simp; done) | (simp [*]; done)), H', ⟨by have := ni.out; omega⟩, ⟨qU lQ.out⟩, ⟨ko HB.out⟩⟩
       ·rw [if_neg c8] at H
        exact absurd H (by simp)
      ·rw [if_neg c7] at H
       exact absurd H (by simp)
     ·rw [if_neg c6] at H
      have yD : decide (dK < (l0.length : Int)) = false := decide_eq_false c6
      clear c6
      obtain rfl := Option.some.inj H
      go_wp2
      go_ret
      exact ⟨_, vE, by (with_reducible repeat (first | apply Kd.jR | apply Kd.jS | apply Kd.mI)); exact lQ.out, by repeat (first | (with_reducible first | exact HB.out | apply aK | apply ah | apply aT) | exact HB.out)⟩
  ·rw [if_neg c3] at H
   exact absurd H (by simp)
 ·rw [if_neg c2] at H
  exact absurd H (by simp)
def dC.l0 : Nat -> List Int -> List Int -> Int -> Option (List Int)
 | 0, _, _, _ => none
 | k + 1, x0, x3, x4 => if x4 < (x0.length : Int) then (if 0 <= x4 then (if x4 < (x3.length : Int) then (dC.l0 k x0 (x3.set (x4 : Int).toNat (rd x0 x4)) (wrap64 (x4 + 1))) else (none)) else (none)) else (some x3)
def dC.f (k : Nat) (l0 : List Int) : Option (List Int) := if 0 <= (l0.length : Int) then (if ((l0.length : Int) : Int).toNat <= 35184372088832 then (dC.l0 k l0 (List.replicate ((l0.length : Int) : Int).toNat 0) 0) else (none)) else (none)
theorem dC.calls (k : Nat) (A0 : Option Addr) (c0 : Nat) (l0 : List Int) (r : List Int) (w : World) (hr0 : Kd.C (Kd.int .i64) w A0 l0.length l0) (hc0 : l0.length <= c0) (h : dC.f k l0 = some r) :
  Calls Try.prog 120 #[.slice A0 l0.length c0] w fun e w' => ∃ kI : Value, e = .returned (kI) /\ Kd.R (Kd.int .i64) 3 w' w.heap.size (fun _ => True) kI r /\ Below w.heap.size w w' := by
 have jf := A_ hr0
 have nQ := A_ hc0
 clear hr0 hc0
 have HB := A_ (Below.refl w.heap.size w)
 have H : (if 0 <= (l0.length : Int) then (if ((l0.length : Int) : Int).toNat <= 35184372088832 then (dC.l0 k l0 (List.replicate ((l0.length : Int) : Int).toNat 0) 0) else (none)) else (none)) = some r := h
 clear h
 by_cases c2 : 0 <= (l0.length : Int)
 ·rw [if_pos c2] at H
  have Gg := eq_true c2
  have TW : decide (0 <= (l0.length : Int)) = true := decide_eq_true c2
  clear c2
  by_cases c3 : ((l0.length : Int) : Int).toNat <= 35184372088832
  ·rw [if_pos c3] at H
   have jv := eq_true c3
   have vV : decide (((l0.length : Int) : Int).toNat <= 35184372088832) = true := decide_eq_true c3
   clear c3
   obtain ⟨y115, hy115⟩ : ∃ y_ : List Int, y_ = (List.replicate ((l0.length : Int) : Int).toNat 0) := ⟨_, rfl⟩
   replace H : (dC.l0 k l0 y115 0) = some r := by first | (rw [hy115]; with_reducible exact H) | (have iE := (Option.bind_some _ _).symm.trans H; rw [hy115]; with_reducible exact iE) | (have iE := (Option.bind_some _ _).symm.trans H; with_reducible exact iE) | with_reducible exact H | (rw [hy115]; exact H) | exact H
   have Ny115 := A_ hy115
   clear hy115
   have H' := A_ H
   clear H
   go_enter Try.func120, Try.ntmps120
   go_wp2_with (first | ((with_reducible refine kV (N := 7) rfl ?_); refine Kd.Nr (Kd.int .i64) _ 3 rfl (N := 7) rfl 108 _ _ rfl (l0.length : Int) rfl rfl Try.underlying108 (.int .i64 0) 8 info3 rfl (by decide) (by omega) 0 (ok := fun _ => True) (okp := fun _ => True) rfl (fun _ hk => hk) trivial (of_decide_eq_true eP) (Nat.le_trans (Nat.mul_le_mul_right _ (of_decide_eq_true eP : (l0.length : Int).toNat <= 35184372088832)) (by omega)) (Below.refl _ _) (Nat.le_refl _) ?_; intro v116 w4 Md hb LY pW; clear LY pW; (first | rw [<- Ny115.out] at Md | (simp only [Int.reduceToNat] at Md; rw [<- Ny115.out] at Md)); have HO117 := A_ (Kd.iC Md (iU HB.out)); replace HB := A_ (jO HB.out hb); clear hb Md))
   go_loopg [4] k (fun kq v4 w' => ∃ (iZ : List Int) (dK : Int), v4 = .int .i64 dK /\ ae (dC.l0 kq l0 iZ dK = some r) /\ ae (kq <= k) /\ ae (Kd.R (Kd.int .i64) 3 w' w.heap.size (fun _ => True) v116 iZ) /\ ae (Below w.heap.size w w'))
   case atStart => exact ⟨(y115), (0), (by first | rfl | (simp; done) | (simp [*]; done)), H', ⟨Nat.le_refl _⟩, ⟨qU HO117.out⟩, ⟨ko HB.out⟩⟩
   case round =>
    clear H'
    (try clear c1); (try clear c2); (try clear Gg); (try clear TW); (try clear p2); (try clear c3); (try clear jv); (try clear vV)
    obtain ⟨iZ, dK, rfl, HA, ni, lQ, HB⟩ := hrel
    cases gk with
    | zero => exact absurd HA.out (by simp [dC.l0])
    | succ k1 =>
     have H := HA.out
     clear HA
     simp only [dC.l0] at H
     by_cases c6 : dK < (l0.length : Int)
     ·rw [if_pos c6] at H
      have yD : decide (dK < (l0.length : Int)) = true := decide_eq_true c6
      clear c6
      by_cases c7 : 0 <= dK
      ·rw [if_pos c7] at H
       have CU : decide (0 <= dK) = true := decide_eq_true c7
       clear c7
       by_cases c8 : dK < (iZ.length : Int)
       ·rw [if_pos c8] at H
        have LZ : decide (dK < (iZ.length : Int)) = true := decide_eq_true c8
        clear c8
        obtain ⟨Yt, Me⟩ : ∃ y_ : List Int, y_ = (iZ.set (dK : Int).toNat (rd l0 dK)) := ⟨_, rfl⟩
        replace H : (dC.l0 k1 l0 Yt (wrap64 (dK + 1))) = some r := by first | (rw [Me]; with_reducible exact H) | (have iE := (Option.bind_some _ _).symm.trans H; rw [Me]; with_reducible exact iE) | (have iE := (Option.bind_some _ _).symm.trans H; with_reducible exact iE) | with_reducible exact H | (rw [Me]; exact H) | exact H
        have Ny119 := A_ Me
        clear Me
        have H' := A_ H
        clear H
        have Yu : 0 <= (dK : Int) := of_decide_eq_true eP
        have Yv : dK < (l0.length : Int) := of_decide_eq_true eP
        obtain ⟨ad118, e118, JW⟩ := Kd.rq jf.out dK Yu Yv
        cases e118
        replace JW := (HB.out.cell (World.block_lt_of_cell? w _ JW)).trans JW
        replace Yu := eq_true Yu
        replace Yv := eq_true Yv
        have p9 : 0 <= (dK : Int) := of_decide_eq_true eP
        have q9 : (dK : Int) < ((iZ.length : Int) : Int) := of_decide_eq_true eP
        obtain ⟨Yr, co9, Yk, gb9, gl9, cl9, HG9⟩ := Kd.uL lQ.out (by omega)
        (first | cases Yk | (injection Yk with Dm Wq Ws; (first | subst Dm | (injection Dm with Dm; subst Dm)); subst Ws; clear Wq))
        have GB9 := A_ gb9
        have GG9 := A_ HG9
        clear gb9 gl9 HG9
        obtain ⟨hx9_0, hf9_0⟩ := Kd.yQ 0 lQ.out (dK : Int) p9 q9
        replace p9 := eq_true p9
        replace q9 := eq_true q9
        have OE := Kd.I4 lQ.out (dK : Int) (rd l0 dK)
        go_wp2_with (first | ((with_reducible refine rf (t := 3) (p := 20) rfl ?_); refine pG (t := 3) (p := 20) (v := ?vo_w11) (w1 := (wr.setCell ⟨Yr, (dK : Int).toNat, none⟩ (.int .i64 (rd l0 dK)))) ?hg ?ho ?hn ?hr ?_; (case ho => rfl); (case hg => rfl); (case hn => rfl); (case hr => first | (go_simp; done) | (go_simp; rfl)); intro sP hw; have hg : wr.grownBy sP (some Yr) := (by rw [hw]; exact OE.2); have QC : Kd.R (Kd.int .i64) 3 sP w.heap.size (fun _ => True) (.slice (some ⟨Yr, 0, none⟩) iZ.length co9) Yt := (by rw [hw, Ny119.out]; exact OE.1); clear OE; replace lQ := A_ (QC); replace HB := A_ ((by rw [hw]; exact bL (HB.out) GB9.out : Below w.heap.size w sP)); clear hg hw QC))
        go_roundg k1
        case measure => have := ni.out; omega
        case rel => exact ⟨(Yt), (wrap64 (dK + 1)), (by first | rfl | (simp; done) | (simp [*]; done)), H', ⟨by have := ni.out; omega⟩, ⟨qU lQ.out⟩, ⟨ko HB.out⟩⟩
       ·rw [if_neg c8] at H
        exact absurd H (by simp)
      ·rw [if_neg c7] at H
       exact absurd H (by simp)
     ·rw [if_neg c6] at H
      have yD : decide (dK < (l0.length : Int)) = false := decide_eq_false c6
      clear c6
      obtain rfl := Option.some.inj H
      go_wp2
      go_ret
      exact ⟨_, vE, by (with_reducible repeat (first | apply Kd.jR | apply Kd.jS | apply Kd.mI)); exact lQ.out, by repeat (first | (with_reducible first | exact HB.out | apply aK | apply ah | apply aT) | exact HB.out)⟩
  ·rw [if_neg c3] at H
   exact absurd H (by simp)
 ·rw [if_neg c2] at H
  exact absurd H (by simp)
def pI.f (k : Nat) (aX : List ByteArray) (dR : List ByteArray) (dS : List Int) : Option (List ByteArray × List ByteArray × List Int) := (bM.f k aX).bind fun t123 => ((bM.f k dR).bind fun t126 => ((dC.f k dS).bind fun t129 => (some (t123, t126, t129))))
theorem pI.calls (k : Nat) (bR : Option Addr) (bQ : Nat) (aX : List ByteArray) (gG : Option Addr) (gH : Nat) (dR : List ByteArray) (gM : Option Addr) (gN : Nat) (dS : List Int) (r1 : List ByteArray) (r2 : List ByteArray) (r3 : List Int) (w : World) (jB : Kd.C Kd.string w bR aX.length aX) (jQ : aX.length <= bQ) (Cy : Kd.C Kd.string w gG dR.length dR) (Cz : dR.length <= gH) (CB : Kd.C (Kd.int .i64) w gM dS.length dS) (CE : dS.length <= gN) (h : pI.f k aX dR dS = some (r1, r2, r3)) :
  Calls Try.prog 96 #[.agg #[.slice bR aX.length bQ, .slice gG dR.length gH, .slice gM dS.length gN]] w fun e w' => ∃ kI v1_ v2_ : Value, e = .returned (.agg #[kI, v1_, v2_]) /\ Kd.R Kd.string 9 w' w.heap.size (fun k_ => some k_ ≠ (v1_ : Value).ownBlock) kI r1 /\ Kd.R Kd.string 9 w' w.heap.size (fun k_ => some k_ ≠ (kI : Value).ownBlock) v1_ r2 /\ Kd.R (Kd.int .i64) 3 w' w.heap.size (fun _ => True) v2_ r3 /\ Below w.heap.size w w' := by
 have TY := Try.underlying115
 have QD := Try.underlying110
 have lU := A_ jB
 have lV := A_ jQ
 clear jB jQ
 have zU := A_ Cy
 have zV := A_ Cz
 clear Cy Cz
 have EO := A_ CB
 have EP := A_ CE
 clear CB CE
 have HB := A_ (Below.refl w.heap.size w)
 have H : ((bM.f k aX).bind fun t123 => ((bM.f k dR).bind fun t126 => ((dC.f k dS).bind fun t129 => (some (t123, t126, t129))))) = some (r1, r2, r3) := h
 clear h
 replace H := Option.bind_eq_some_iff.mp H
 obtain ⟨t123, zW, H⟩ := H
 replace H : ((bM.f k dR).bind fun t126 => ((dC.f k dS).bind fun t129 => (some (t123, t126, t129)))) = some (r1, r2, r3) := H
 have A2 := A_ zW
 clear zW
 replace H := Option.bind_eq_some_iff.mp H
 obtain ⟨t126, tN, H⟩ := H
 replace H : ((dC.f k dS).bind fun t129 => (some (t123, t126, t129))) = some (r1, r2, r3) := H
 have A3 := A_ tN
 clear tN
 replace H := Option.bind_eq_some_iff.mp H
 obtain ⟨t129, RN, H⟩ := H
 replace H : (some (t123, t126, t129)) = some (r1, r2, r3) := H
 have A4 := A_ RN
 clear RN
 simp only [Option.some.injEq, Prod.mk.injEq] at H
 obtain ⟨rfl, rfl, rfl⟩ := H
 go_enter Try.func96, Try.ntmps96
 go_wp2_with (first | (refine lY 1 #[.slice bR aX.length bQ, .slice gG dR.length gH, .slice gM dS.length gN] 115 ?_; intro kQ hg w5 aM hb; have iJ := A_ (aM); have GW120 := A_ ((by rw [hg]; exact (iU HB.out) : w.heap.size <= kQ)); have GE120 := A_ ((by rw [hg]; exact (iU HB.out) : w.heap.size <= kQ)); replace HB := A_ (jO HB.out hb); clear hb aM hg) | (refine lY 2 #[.slice none 0 0, .slice none 0 0, .slice none 0 0] 110 ?_; intro kC hg w6 aM hb; have mX := A_ (aM); have GW121 := A_ ((by rw [hg]; exact (iU HB.out) : w.heap.size <= kC)); have GE121 := A_ ((by rw [hg]; exact (iU HB.out) : w.heap.size <= kC)); replace HB := A_ (jO HB.out hb); have NB120_121 := A_ ((by rw [hg]; exact Nat.ne_of_lt (dh (g := kQ) (o := .cells #[.slice bR aX.length bQ, .slice gG dR.length gH, .slice gM dS.length gN] 115 (0, 0)) (gW iJ.out)) : kQ ≠ kC)); have NB121_120 := A_ ((by rw [hg]; exact Nat.ne_of_gt (dh (g := kQ) (o := .cells #[.slice bR aX.length bQ, .slice gG dR.length gH, .slice gM dS.length gN] 115 (0, 0)) (gW iJ.out)) : kC ≠ kQ)); replace iJ := A_ (av (g := kQ) (o := .cells #[.slice bR aX.length bQ, .slice gG dR.length gH, .slice gM dS.length gN] 115 (0, 0)) (gW iJ.out) hb); clear hb aM hg) | (refine lY 3 #[.slice none 0 0, .slice none 0 0, .slice none 0 0] 110 ?_; intro kD hg w7 aM hb; have iQ := A_ (aM); have GW122 := A_ ((by rw [hg]; exact (iU HB.out) : w.heap.size <= kD)); have GE122 := A_ ((by rw [hg]; exact (iU HB.out) : w.heap.size <= kD)); replace HB := A_ (jO HB.out hb); have BP := A_ ((by rw [hg]; exact Nat.ne_of_lt (dh (g := kQ) (o := .cells #[.slice bR aX.length bQ, .slice gG dR.length gH, .slice gM dS.length gN] 115 (0, 0)) (gW iJ.out)) : kQ ≠ kD)); have NB122_120 := A_ ((by rw [hg]; exact Nat.ne_of_gt (dh (g := kQ) (o := .cells #[.slice bR aX.length bQ, .slice gG dR.length gH, .slice gM dS.length gN] 115 (0, 0)) (gW iJ.out)) : kD ≠ kQ)); replace iJ := A_ (av (g := kQ) (o := .cells #[.slice bR aX.length bQ, .slice gG dR.length gH, .slice gM dS.length gN] 115 (0, 0)) (gW iJ.out) hb); have xG := A_ ((by rw [hg]; exact Nat.ne_of_lt (dh (g := kC) (o := .cells #[.slice none 0 0, .slice none 0 0, .slice none 0 0] 110 (0, 0)) (gW mX.out)) : kC ≠ kD)); have NB122_121 := A_ ((by rw [hg]; exact Nat.ne_of_gt (dh (g := kC) (o := .cells #[.slice none 0 0, .slice none 0 0, .slice none 0 0] 110 (0, 0)) (gW mX.out)) : kD ≠ kC)); replace mX := A_ (av (g := kC) (o := .cells #[.slice none 0 0, .slice none 0 0, .slice none 0 0] 110 (0, 0)) (gW mX.out) hb); clear hb aM hg; have hnb8 := NB120_121.out; have hnc8 := NB121_120.out; have hnb9 := BP.out; have hnc9 := NB122_120.out; have hcz10_0 : w7.cell? ⟨kQ, 0, none⟩ = some (.slice bR aX.length bQ) := (af iJ.out 0).trans rfl; have hcz10_1 : w7.cell? ⟨kQ, 1, none⟩ = some (.slice gG dR.length gH) := (af iJ.out 1).trans rfl; have hcz10_2 : w7.cell? ⟨kQ, 2, none⟩ = some (.slice gM dS.length gN) := (af iJ.out 2).trans rfl; have hfz10_0 := ax iJ.out 0; have hfz10_1 := ax iJ.out 1; have hfz10_2 := ax iJ.out 2) | ((with_reducible refine aI (f := 43) rfl ?_); refine bV (some 6) rfl rfl Try.func43 (by kernel_rfl) rfl #[.slice bR aX.length bQ] rfl (mY) ?_; (with_reducible refine (bM.calls k _ _ aX t123 _ ?aj ?aU A2.out).mono ?_); (case aj => refine lH ?_; exact (Kd.aA lU.out HB.out)); (case aU => exact lV.out); rintro e sP ⟨v124, rfl, ho0, hb⟩; refine ⟨_, rfl, ?_⟩; have ER := A_ (Kd.iC ho0 (iU HB.out)); replace iJ := A_ (av (g := kQ) (o := .cells #[.slice bR aX.length bQ, .slice gG dR.length gH, .slice gM dS.length gN] 115 (0, 0)) (gW iJ.out) hb); replace mX := A_ (av (g := kC) (o := .cells #[.slice none 0 0, .slice none 0 0, .slice none 0 0] 110 (0, 0)) (gW mX.out) hb); replace iQ := A_ (av (g := kD) (o := .cells #[.slice none 0 0, .slice none 0 0, .slice none 0 0] 110 (0, 0)) (gW iQ.out) hb); replace HB := A_ (jO HB.out hb); (try clear hb); (try clear hb2); (try clear hk); (try clear hi); (try clear ho0); obtain ⟨BQ, BR, eo12⟩ := Kd.au ER.out; subst eo12; have hnb13 := NB122_121.out; have hnc13 := xG.out; have hcz14_0 : sP.cell? ⟨kD, 0, none⟩ = some (.slice none 0 0) := (af iQ.out 0).trans rfl; have hcz14_1 : sP.cell? ⟨kD, 1, none⟩ = some (.slice none 0 0) := (af iQ.out 1).trans rfl; have hcz14_2 : sP.cell? ⟨kD, 2, none⟩ = some (.slice none 0 0) := (af iQ.out 2).trans rfl; have hfz14_0 := ax iQ.out 0; have hfz14_1 := ax iQ.out 1; have hfz14_2 := ax iQ.out 2; have hcz15_0 : sP.cell? ⟨kQ, 0, none⟩ = some (.slice bR aX.length bQ) := (af iJ.out 0).trans rfl; have hcz15_1 : sP.cell? ⟨kQ, 1, none⟩ = some (.slice gG dR.length gH) := (af iJ.out 1).trans rfl; have hcz15_2 : sP.cell? ⟨kQ, 2, none⟩ = some (.slice gM dS.length gN) := (af iJ.out 2).trans rfl; have hfz15_0 := ax iJ.out 0; have hfz15_1 := ax iJ.out 1; have hfz15_2 := ax iJ.out 2) | ((with_reducible refine aI (f := 43) rfl ?_); refine bV (some 10) rfl rfl Try.func43 (by kernel_rfl) rfl #[.slice gG dR.length gH] rfl (mY) ?_; (with_reducible refine (bM.calls k _ _ dR t126 _ ?aj ?aU A3.out).mono ?_); (case aj => exact Kd.aA zU.out (ko HB.out)); (case aU => exact zV.out); rintro e w16 ⟨v127, rfl, ho0, hb⟩; refine ⟨_, rfl, ?_⟩; have QE := A_ (Kd.iC (Kd.XC ho0 (Kd.abW (by (with_reducible repeat (first | apply Kd.jR | apply Kd.jS | apply Kd.mI)); exact (Kd.dG (Kd.qz (p := ⟨kD, 0, none⟩) (Kd.nA ER.out iQ.out (by decide)) (fun _ hk => hk.2) (.slice BQ t123.length BR)) (fun _ h_ => h_.1))))) (iU HB.out)); replace ER := A_ (Kd.SC (by (with_reducible repeat (first | apply Kd.jR | apply Kd.jS | apply Kd.mI)); exact (Kd.dG (Kd.qz (p := ⟨kD, 0, none⟩) (Kd.nA ER.out iQ.out (by decide)) (fun _ hk => hk.2) (.slice BQ t123.length BR)) (fun _ h_ => h_.1))) (Kd.I6 ho0) hb); replace iJ := A_ (av (g := kQ) (o := .cells #[.slice bR aX.length bQ, .slice gG dR.length gH, .slice gM dS.length gN] 115 (0, 0)) (by (with_reducible repeat (first | refine cB ?_ _ | refine dF ?_ | refine dY ?_ _)); refine mE ?_ BP.out _; (with_reducible repeat (first | refine cB ?_ _ | refine dF ?_ | refine dY ?_ _)); exact iJ.out) hb); replace mX := A_ (av (g := kC) (o := .cells #[.slice none 0 0, .slice none 0 0, .slice none 0 0] 110 (0, 0)) (by (with_reducible repeat (first | refine cB ?_ _ | refine dF ?_ | refine dY ?_ _)); refine mE ?_ xG.out _; (with_reducible repeat (first | refine cB ?_ _ | refine dF ?_ | refine dY ?_ _)); exact mX.out) hb); replace iQ := A_ (av (g := kD) (o := .cells #[.slice BQ t123.length BR, .slice none 0 0, .slice none 0 0] 110 (0, 0)) (by (with_reducible repeat (first | refine cB ?_ _ | refine dF ?_ | refine dY ?_ _)); refine gY (cs := #[.slice none 0 0, .slice none 0 0, .slice none 0 0]) ?_ 0 _ rfl; (with_reducible repeat (first | refine cB ?_ _ | refine dF ?_ | refine dY ?_ _)); exact iQ.out) hb); replace HB := A_ (jO HB.out hb); (try clear hb); (try clear hb2); (try clear hk); (try clear hi); (try clear ho0); obtain ⟨JX, JY, eo17⟩ := Kd.au QE.out; subst eo17; have hcz18_0 : w16.cell? ⟨kD, 0, none⟩ = some (.slice BQ t123.length BR) := (af iQ.out 0).trans rfl; have hcz18_1 : w16.cell? ⟨kD, 1, none⟩ = some (.slice none 0 0) := (af iQ.out 1).trans rfl; have hcz18_2 : w16.cell? ⟨kD, 2, none⟩ = some (.slice none 0 0) := (af iQ.out 2).trans rfl; have hfz18_0 := ax iQ.out 0; have hfz18_1 := ax iQ.out 1; have hfz18_2 := ax iQ.out 2; have hcz19_0 : w16.cell? ⟨kQ, 0, none⟩ = some (.slice bR aX.length bQ) := (af iJ.out 0).trans rfl; have hcz19_1 : w16.cell? ⟨kQ, 1, none⟩ = some (.slice gG dR.length gH) := (af iJ.out 1).trans rfl; have hcz19_2 : w16.cell? ⟨kQ, 2, none⟩ = some (.slice gM dS.length gN) := (af iJ.out 2).trans rfl; have hfz19_0 := ax iJ.out 0; have hfz19_1 := ax iJ.out 1; have hfz19_2 := ax iJ.out 2) | ((with_reducible refine aI (f := 120) rfl ?_); refine bV (some 14) rfl rfl Try.func120 (by kernel_rfl) rfl #[.slice gM dS.length gN] rfl (mY) ?_; (with_reducible refine (dC.calls k _ _ dS t129 _ ?aj ?aU A4.out).mono ?_); (case aj => exact Kd.aA EO.out (ko HB.out)); (case aU => exact EP.out); rintro e M9 ⟨v130, rfl, ho0, hb⟩; refine ⟨_, rfl, ?_⟩; replace ER := A_ (Kd.uM (by refine qU ?_; exact (Kd.dG (Kd.qz (p := ⟨kD, 1, none⟩) (Kd.nA ER.out iQ.out (by decide)) (fun _ hk => hk.2) (.slice JX t126.length JY)) (fun _ h_ => h_.1))) hb); replace QE := A_ (Kd.uM (by refine qU ?_; exact (Kd.dG (Kd.qz (p := ⟨kD, 1, none⟩) (Kd.nA QE.out iQ.out (by decide)) (fun _ hk => hk.2) (.slice JX t126.length JY)) (fun _ h_ => h_.1))) hb); have HO131 := A_ (Kd.iC ho0 (iU HB.out)); replace iJ := A_ (av (g := kQ) (o := .cells #[.slice bR aX.length bQ, .slice gG dR.length gH, .slice gM dS.length gN] 115 (0, 0)) (by (with_reducible repeat (first | refine cB ?_ _ | refine dF ?_ | refine dY ?_ _)); refine mE ?_ BP.out _; (with_reducible repeat (first | refine cB ?_ _ | refine dF ?_ | refine dY ?_ _)); exact iJ.out) hb); replace mX := A_ (av (g := kC) (o := .cells #[.slice none 0 0, .slice none 0 0, .slice none 0 0] 110 (0, 0)) (by (with_reducible repeat (first | refine cB ?_ _ | refine dF ?_ | refine dY ?_ _)); refine mE ?_ xG.out _; (with_reducible repeat (first | refine cB ?_ _ | refine dF ?_ | refine dY ?_ _)); exact mX.out) hb); replace iQ := A_ (av (g := kD) (o := .cells #[.slice BQ t123.length BR, .slice JX t126.length JY, .slice none 0 0] 110 (0, 0)) (by (with_reducible repeat (first | refine cB ?_ _ | refine dF ?_ | refine dY ?_ _)); refine gY (cs := #[.slice BQ t123.length BR, .slice none 0 0, .slice none 0 0]) ?_ 1 _ rfl; (with_reducible repeat (first | refine cB ?_ _ | refine dF ?_ | refine dY ?_ _)); exact iQ.out) hb); replace HB := A_ (jO HB.out hb); (try clear hb); (try clear hb2); (try clear hk); (try clear hi); (try clear ho0); obtain ⟨OG, OH, eo21⟩ := Kd.au HO131.out; subst eo21; have hcz22_0 : M9.cell? ⟨kD, 0, none⟩ = some (.slice BQ t123.length BR) := (af iQ.out 0).trans rfl; have hcz22_1 : M9.cell? ⟨kD, 1, none⟩ = some (.slice JX t126.length JY) := (af iQ.out 1).trans rfl; have hcz22_2 : M9.cell? ⟨kD, 2, none⟩ = some (.slice none 0 0) := (af iQ.out 2).trans rfl; have hfz22_0 := ax iQ.out 0; have hfz22_1 := ax iQ.out 1; have hfz22_2 := ax iQ.out 2; have hcz23_0 : M9.cell? ⟨kC, 0, none⟩ = some (.slice none 0 0) := (af mX.out 0).trans rfl; have hcz23_1 : M9.cell? ⟨kC, 1, none⟩ = some (.slice none 0 0) := (af mX.out 1).trans rfl; have hcz23_2 : M9.cell? ⟨kC, 2, none⟩ = some (.slice none 0 0) := (af mX.out 2).trans rfl; have hfz23_0 := ax mX.out 0; have hfz23_1 := ax mX.out 1; have hfz23_2 := ax mX.out 2))
 refine bodyPost_ret (results_cell_row rfl _ _ kC 110 #[.slice BQ t123.length BR, .slice JX t126.length JY, .slice OG t129.length OH] (0, 0) _ rfl (by (with_reducible repeat (first | refine cB ?_ _ | refine dF ?_ | refine dY ?_ _)); refine gY (cs := #[.slice BQ t123.length BR, .slice JX t126.length JY, .slice none 0 0]) ?_ 2 _ rfl; (with_reducible repeat (first | refine cB ?_ _ | refine dF ?_ | refine dY ?_ _)); refine gY (cs := #[.slice BQ t123.length BR, .slice none 0 0, .slice none 0 0]) ?_ 1 _ rfl; (with_reducible repeat (first | refine cB ?_ _ | refine dF ?_ | refine dY ?_ _)); refine gY (cs := #[.slice none 0 0, .slice none 0 0, .slice none 0 0]) ?_ 0 _ rfl; (with_reducible repeat (first | refine cB ?_ _ | refine dF ?_ | refine dY ?_ _)); refine mE ?_ xG.out _; (with_reducible repeat (first | refine cB ?_ _ | refine dF ?_ | refine dY ?_ _)); exact mX.out) Try.underlying110 rfl (by kernel_rfl)) rfl ?_
 exact ⟨_, _, _, vE, by (with_reducible repeat (first | apply Kd.jR | apply Kd.jS | apply Kd.mI)); exact Kd.dG (Kd.qz (p := ⟨kC, 2, none⟩) (Kd.qz (p := ⟨kC, 1, none⟩) (Kd.qz (p := ⟨kC, 0, none⟩) (Kd.qz (p := ⟨kD, 2, none⟩) (Kd.nA (Kd.nA ER.out iQ.out (by decide)) mX.out (by decide)) (fun _ hk => hk.1.2) (.slice OG t129.length OH)) (fun _ hk => hk.2) (.slice BQ t123.length BR)) (fun _ hk => hk.2) (.slice JX t126.length JY)) (fun _ hk => hk.2) (.slice OG t129.length OH)) (fun _ hk => hk.1.1.2), by (with_reducible repeat (first | apply Kd.jR | apply Kd.jS | apply Kd.mI)); exact Kd.dG (Kd.qz (p := ⟨kC, 2, none⟩) (Kd.qz (p := ⟨kC, 1, none⟩) (Kd.qz (p := ⟨kC, 0, none⟩) (Kd.qz (p := ⟨kD, 2, none⟩) (Kd.nA (Kd.nA QE.out iQ.out (by decide)) mX.out (by decide)) (fun _ hk => hk.1.2) (.slice OG t129.length OH)) (fun _ hk => hk.2) (.slice BQ t123.length BR)) (fun _ hk => hk.2) (.slice JX t126.length JY)) (fun _ hk => hk.2) (.slice OG t129.length OH)) (fun _ hk => hk.1.1.2), by (with_reducible repeat (first | apply Kd.jR | apply Kd.jS | apply Kd.mI)); exact Kd.dG (Kd.qz (p := ⟨kC, 2, none⟩) (Kd.qz (p := ⟨kC, 1, none⟩) (Kd.qz (p := ⟨kC, 0, none⟩) (Kd.qz (p := ⟨kD, 2, none⟩) (Kd.nA (Kd.nA HO131.out iQ.out (by decide)) mX.out (by decide)) (fun _ hk => hk.1.2) (.slice OG t129.length OH)) (fun _ hk => hk.2) (.slice BQ t123.length BR)) (fun _ hk => hk.2) (.slice JX t126.length JY)) (fun _ hk => hk.2) (.slice OG t129.length OH)) (fun _ hk => trivial), by repeat (first | (with_reducible first | exact HB.out | apply aK | apply ah | apply aT | refine bL ?_ GE120.out | refine bL ?_ GE121.out | refine bL ?_ GE122.out) | exact HB.out)⟩
def dz.l0 : Nat -> List (mJ) -> List (bE) -> Int -> Option ((List (bE)))
 | 0, _, _, _ => none
 | k + 1, x0, x3, x4 => if x4 < (x0.length : Int) then (if 0 <= x4 then ((pI.f k ((dE x0 x4).f0) ((dE x0 x4).f1) ((dE x0 x4).f2)).bind fun TZ => (if x4 < (x3.length : Int) then (dz.l0 k x0 (x3.set (x4 : Int).toNat (⟨TZ.1, TZ.2.1, TZ.2.2⟩ : bE)) (wrap64 (x4 + 1))) else (none))) else (none)) else (some x3)
def dz.f (k : Nat) (l0 : List (mJ)) : Option ((List (bE))) := if 0 <= (l0.length : Int) then (if ((l0.length : Int) : Int).toNat <= 3909374676536 then (dz.l0 k l0 (List.replicate ((l0.length : Int) : Int).toNat jG) 0) else (none)) else (none)
def iF.f (k : Nat) (aX : List (mJ)) : Option ((List (bE))) := (dz.f k aX).bind fun t149 => (some t149)
theorem dz.Bj (k : Nat) (A0 : Option Addr) (c0 : Nat) (l0 : List (mJ)) (r : List (bE)) (w : World) (hr0 : Kd.C KN w A0 l0.length l0) (hc0 : l0.length <= c0) (h : dz.f k l0 = some r) :
  Calls Try.prog 58 #[.slice A0 l0.length c0] w fun e w' => ∃ kI : Value, e = .returned (kI) /\ Kd.S iV 110 w' w.heap.size (fun _ => True) kI r /\ Below w.heap.size w w' := by
 have TY := Try.underlying115
 have QD := Try.underlying110
 have jf := A_ hr0
 have nQ := A_ hc0
 clear hr0 hc0
 have HB := A_ (Below.refl w.heap.size w)
 have H : (if 0 <= (l0.length : Int) then (if ((l0.length : Int) : Int).toNat <= 3909374676536 then (dz.l0 k l0 (List.replicate ((l0.length : Int) : Int).toNat jG) 0) else (none)) else (none)) = some r := h
 clear h
 by_cases c2 : 0 <= (l0.length : Int)
 ·rw [if_pos c2] at H
  have Gg := eq_true c2
  have TW : decide (0 <= (l0.length : Int)) = true := decide_eq_true c2
  clear c2
  by_cases c3 : ((l0.length : Int) : Int).toNat <= 3909374676536
  ·rw [if_pos c3] at H
   have jv := eq_true c3
   have vV : decide (((l0.length : Int) : Int).toNat <= 3909374676536) = true := decide_eq_true c3
   clear c3
   obtain ⟨y132, Mf⟩ : ∃ y_ : List (bE), y_ = (List.replicate ((l0.length : Int) : Int).toNat jG) := ⟨_, rfl⟩
   replace H : (dz.l0 k l0 y132 0) = some r := by first | (rw [Mf]; with_reducible exact H) | (have iE := (Option.bind_some _ _).symm.trans H; rw [Mf]; with_reducible exact iE) | (have iE := (Option.bind_some _ _).symm.trans H; with_reducible exact iE) | with_reducible exact H | (rw [Mf]; exact H) | exact H
   have Ny132 := A_ Mf
   clear Mf
   have H' := A_ H
   clear H
   go_enter Try.func58, Try.ntmps58
   go_wp2_with (first | ((with_reducible refine kV (N := 7) rfl ?_); refine Kd.XD iV _ 110 rfl (N := 7) rfl 27 _ _ rfl (l0.length : Int) rfl rfl Try.underlying27 (.agg #[(.slice none 0 0), (.slice none 0 0), (.slice none 0 0)]) 72 IZ rfl (by decide) (by omega) jG (ok := fun _ => True) (okp := fun _ => True) (Nn _ _ _) (fun _ hk => hk) trivial (of_decide_eq_true eP) (Nat.le_trans (Nat.mul_le_mul_right _ (of_decide_eq_true eP : (l0.length : Int).toNat <= 3909374676536)) (by omega)) (Below.refl _ _) (Nat.le_refl _) ?_; intro v133 w4 Md hb LY pW; clear LY pW; (first | rw [<- Ny132.out] at Md | (simp only [Int.reduceToNat] at Md; rw [<- Ny132.out] at Md)); have HO134 := A_ (Kd.I7 Md (iU HB.out)); replace HB := A_ (jO HB.out hb); clear hb Md))
   go_loopg [4] k (fun kq v4 w' => ∃ (iZ : List (bE)) (dK : Int), v4 = .int .i64 dK /\ ae (dz.l0 kq l0 iZ dK = some r) /\ ae (kq <= k) /\ ae (Kd.S iV 110 w' w.heap.size (fun _ => True) v133 iZ) /\ ae (Below w.heap.size w w'))
   case atStart => exact ⟨(y132), (0), (by first | rfl | (simp; done) | (simp [*]; done)), H', ⟨Nat.le_refl _⟩, ⟨rW HO134.out⟩, ⟨ko HB.out⟩⟩
   case round =>
    clear H'
    (try clear c2); (try clear Gg); (try clear TW); (try clear p2); (try clear c3); (try clear jv); (try clear vV); (try clear c5)
    obtain ⟨iZ, dK, rfl, HA, ni, lQ, HB⟩ := hrel
    cases gk with
    | zero => exact absurd HA.out (by simp [dz.l0])
    | succ k1 =>
     have H := HA.out
     clear HA
     simp only [dz.l0] at H
     by_cases c6 : dK < (l0.length : Int)
     ·rw [if_pos c6] at H
      have yD : decide (dK < (l0.length : Int)) = true := decide_eq_true c6
      clear c6
      by_cases c7 : 0 <= dK
      ·rw [if_pos c7] at H
       have CU : decide (0 <= dK) = true := decide_eq_true c7
       clear c7
       replace H := Option.bind_eq_some_iff.mp H
       obtain ⟨⟨t136, t139, t142⟩, A80, H⟩ := H
       replace H : (if dK < (iZ.length : Int) then (dz.l0 k1 l0 (iZ.set (dK : Int).toNat (⟨t136, t139, t142⟩ : bE)) (wrap64 (dK + 1))) else (none)) = some r := H
       have A8 := A_ A80
       clear A80
       by_cases c9 : dK < (iZ.length : Int)
       ·rw [if_pos c9] at H
        have Oz : decide (dK < (iZ.length : Int)) = true := decide_eq_true c9
        clear c9
        obtain ⟨Yw, Mg⟩ : ∃ y_ : List (bE), y_ = (iZ.set (dK : Int).toNat (⟨t136, t139, t142⟩ : bE)) := ⟨_, rfl⟩
        replace H : (dz.l0 k1 l0 Yw (wrap64 (dK + 1))) = some r := by first | (rw [Mg]; with_reducible exact H) | (have iE := (Option.bind_some _ _).symm.trans H; rw [Mg]; with_reducible exact iE) | (have iE := (Option.bind_some _ _).symm.trans H; with_reducible exact iE) | with_reducible exact H | (rw [Mg]; exact H) | exact H
        have Ny145 := A_ Mg
        clear Mg
        have H' := A_ H
        clear H
        have Yx : 0 <= (dK : Int) := of_decide_eq_true eP
        have Yy : dK < (l0.length : Int) := of_decide_eq_true eP
        obtain ⟨ad135, A135_0, c135_0, A135_1, c135_1, A135_2, c135_2, e135, JZ, J2, J3, hl135_0, hi135_0, hl135_1, hi135_1, hl135_2, hi135_2⟩ := I1 jf.out dK Yx Yy
        cases e135
        replace JZ := (HB.out.cell (World.block_lt_of_cell? w _ JZ)).trans JZ
        replace J2 := (HB.out.cell (World.block_lt_of_cell? w _ J2)).trans J2
        replace J3 := (HB.out.cell (World.block_lt_of_cell? w _ J3)).trans J3
        have HR135_0 := A_ hi135_0
        have HC135_0 := A_ hl135_0
        clear hi135_0 hl135_0
        have HR135_1 := A_ hi135_1
        have HC135_1 := A_ hl135_1
        clear hi135_1 hl135_1
        have HR135_2 := A_ hi135_2
        have HC135_2 := A_ hl135_2
        clear hi135_2 hl135_2
        replace Yx := eq_true Yx
        replace Yy := eq_true Yy
        go_wp2_with (first | ((with_reducible refine aI (f := 96) rfl ?_); refine bV (some 20) rfl rfl Try.func96 (by kernel_rfl) rfl #[.agg #[.slice A135_0 ((dE l0 dK).f0).length c135_0, .slice A135_1 ((dE l0 dK).f1).length c135_1, .slice A135_2 ((dE l0 dK).f2).length c135_2]] rfl (mY) ?_; (with_reducible refine (pI.calls k1 _ _ ((dE l0 dK).f0) _ _ ((dE l0 dK).f1) _ _ ((dE l0 dK).f2) t136 t139 t142 _ ?aj ?aU ?fM ?fO ?zX ?zY A8.out).mono ?_); (case aj => refine lH ?_; exact (Kd.aA HR135_0.out HB.out)); (case aU => exact HC135_0.out); (case fM => refine lH ?_; exact (Kd.aA HR135_1.out HB.out)); (case fO => exact HC135_1.out); (case zX => refine lH ?_; exact (Kd.aA HR135_2.out HB.out)); (case zY => exact HC135_2.out); rintro e sP ⟨v137, v140, v143, rfl, ho0, ho1, ho2, hb⟩; refine ⟨_, rfl, ?_⟩; replace lQ := A_ (Kd.wy (Kd.Ns (Kd.Ns (Kd.Ns (Kd.aad (rW lQ.out) hb) (Kd.I6 ho0)) (Kd.I6 ho1)) (Kd.I6 ho2)) (fun _ h_ => h_.1)); have Mh := A_ (Kd.iC ho0 (iU HB.out)); have QF := A_ (Kd.iC ho1 (iU HB.out)); have QG := A_ (Kd.iC ho2 (iU HB.out)); replace HB := A_ (jO HB.out hb); (try clear hb); (try clear hb2); (try clear hk); (try clear hi); (try clear ho0); (try clear ho1); (try clear ho2); have p10 : 0 <= (dK : Int) := of_decide_eq_true eP; have q10 : (dK : Int) < ((iZ.length : Int) : Int) := of_decide_eq_true eP; obtain ⟨vW, RO, Wv, gb10, gl10, cl10, HG10⟩ := Kd.XE lQ.out (by omega); (first | cases Wv | (injection Wv with Dm Wq Ws; (first | subst Dm | (injection Dm with Dm; subst Dm)); subst Ws; clear Wq)); have Yz := A_ gb10; have GG10 := A_ HG10; clear gb10 gl10 HG10; obtain ⟨_, ce10, hcl10, hM10, QH, QI, _, _⟩ := Kd.Np lQ.out jG (dK : Int) p10 q10; obtain ⟨ve10_0, ve10_1, ve10_2, rfl, ge10_0, ge10_1, ge10_2⟩ := Ci hM10; have hx10_0 : sP.cell? ⟨vW, (dK : Int).toNat * 3, none⟩ = some (ve10_0) := QH 0 _ rfl; have hx10_1 : sP.cell? ⟨vW, (dK : Int).toNat * 3 + 1, none⟩ = some (ve10_1) := QH 1 _ rfl; have hx10_2 : sP.cell? ⟨vW, (dK : Int).toNat * 3 + 2, none⟩ = some (ve10_2) := QH 2 _ rfl; have hf10_0 : sP.frozen? ⟨vW, (dK : Int).toNat * 3, none⟩ = false := QI 0; have hf10_1 : sP.frozen? ⟨vW, (dK : Int).toNat * 3 + 1, none⟩ = false := QI 1; have hf10_2 : sP.frozen? ⟨vW, (dK : Int).toNat * 3 + 2, none⟩ = false := QI 2; clear hcl10 QH QI; (try clear hM10); replace p10 := eq_true p10; replace q10 := eq_true q10; obtain ⟨Ww, Wx, eo14⟩ := Kd.au Mh.out; subst eo14; obtain ⟨Wy, Wz, eo15⟩ := Kd.au QF.out; subst eo15; obtain ⟨WA, WB, eo16⟩ := Kd.au QG.out; subst eo16; have n_ := A_ (Kd.wy (ok' := (fun k_ => some k_ ≠ (.slice Ww t136.length Wx : Value).ownBlock /\ some k_ ≠ (.slice Wy t139.length Wz : Value).ownBlock /\ some k_ ≠ (.slice WA t142.length WB : Value).ownBlock)) lQ.out (fun k_ hk => ⟨hk.1.1.2, ⟨hk.1.2, hk.2⟩⟩)); clear lQ; have lQ := n_; clear n_; have HX12 := A_ (show Kd.S iV 110 sP w.heap.size (fun k_ => ((fun _ => True)) k_ /\ ¬ ((fun k_ => some k_ = (.slice Ww t136.length Wx : Value).ownBlock ∨ some k_ = (.slice Wy t139.length Wz : Value).ownBlock ∨ some k_ = (.slice WA t142.length WB : Value).ownBlock)) k_) (.slice (some ⟨vW, 0, none⟩) iZ.length RO) iZ from (by (with_reducible repeat (first | apply Kd.yO | apply Kd.yP | apply Kd.Dr)); exact Kd.wy lQ.out (fun k_ hk => ⟨trivial, fun e_ => e_.elim (fun h_ => hk.1 h_) (fun h_ => h_.elim (fun h_ => hk.2.1 h_) (fun h_ => hk.2.2 h_))⟩))); obtain ⟨oki12, ce12, hcl12, hM12, QJ, QK, hoki12, hH12⟩ := Kd.Np HX12.out jG (dK : Int) (of_decide_eq_true eP) (by have h_ : (dK : Int) < ((iZ.length : Int) : Int) := of_decide_eq_true eP; first | exact h_ | (have e_ := (Kd.dI lQ.out).1; omega) | simpa using h_); obtain ⟨ve12_0, ve12_1, ve12_2, rfl, ge12_0, ge12_1, ge12_2⟩ := Ci hM12; have YA := Kd.aae hH12 (of_decide_eq_true eP) (by have h_ : (dK : Int) < ((iZ.length : Int) : Int) := of_decide_eq_true eP; first | exact h_ | (have e_ := (Kd.dI lQ.out).1; omega) | simpa using h_) (seg := [.slice Ww t136.length Wx, .slice Wy t139.length Wz, .slice WA t142.length WB]) (j := 0) (show 3 <= 3 from by decide) (x' := (⟨t136, t139, t142⟩ : bE)) (Gz _ _ _ (⟨t136, t139, t142⟩ : bE) (Kd.dG (Kd.r9 rfl (Kd.dG (ok' := fun k_ => ((fun _ => True)) k_ /\ k_ ≠ vW) (Kd.tX (Mh.out) (Kd.xe lQ.out) (by decide)) (fun k_ hk => ⟨trivial, fun e_ => (hk.2) (by rw [e_]; rfl)⟩))) (fun _ h_ => Or.inr (Or.inl h_))) (Kd.dG (Kd.r9 rfl (Kd.dG (ok' := fun k_ => ((fun _ => True)) k_ /\ k_ ≠ vW) (Kd.tX (QF.out) (Kd.xe lQ.out) (by decide)) (fun k_ hk => ⟨trivial, fun e_ => (hk.2) (by rw [e_]; rfl)⟩))) (fun _ h_ => Or.inr (Or.inr (Or.inl h_)))) (Kd.dG (Kd.r9 rfl (Kd.dG (ok' := fun k_ => ((fun _ => True)) k_ /\ k_ ≠ vW) (Kd.tX (QG.out) (Kd.xe lQ.out) (by decide)) (fun k_ hk => ⟨trivial, fun e_ => (hk.2) (by rw [e_]; rfl)⟩))) (fun _ h_ => Or.inr (Or.inr (Or.inr (h_))))) Mh.out.1) (fun _ hk => hk) (fun k_ Yn => Yn.elim (fun h_ => ((Kd.dG (ok' := fun k_ => ((fun _ => True)) k_ /\ k_ ≠ vW) (Kd.tX (Mh.out) (Kd.xe lQ.out) (by decide)) (fun k_ hk => ⟨trivial, fun e_ => (hk.2) (by rw [e_]; rfl)⟩))).1 k_ h_.symm) (fun h_ => h_.elim (fun h_ => ((Kd.dG (ok' := fun k_ => ((fun _ => True)) k_ /\ k_ ≠ vW) (Kd.tX (QF.out) (Kd.xe lQ.out) (by decide)) (fun k_ hk => ⟨trivial, fun e_ => (hk.2) (by rw [e_]; rfl)⟩))).1 k_ h_.symm) (fun h_ => ((Kd.dG (ok' := fun k_ => ((fun _ => True)) k_ /\ k_ ≠ vW) (Kd.tX (QG.out) (Kd.xe lQ.out) (by decide)) (fun k_ hk => ⟨trivial, fun e_ => (hk.2) (by rw [e_]; rfl)⟩))).1 k_ h_.symm))); have hx12_0 := QJ 0 _ rfl; (try simp only [show (iV).sz = 3 from rfl, Nat.mul_one, Nat.add_zero] at hx12_0); have hf12_0 := QK 0; (try simp only [show (iV).sz = 3 from rfl, Nat.mul_one, Nat.add_zero] at hf12_0); have hx12_1 := QJ 1 _ rfl; (try simp only [show (iV).sz = 3 from rfl, Nat.mul_one, Nat.add_zero] at hx12_1); have hf12_1 := QK 1; (try simp only [show (iV).sz = 3 from rfl, Nat.mul_one, Nat.add_zero] at hf12_1); have hx12_2 := QJ 2 _ rfl; (try simp only [show (iV).sz = 3 from rfl, Nat.mul_one, Nat.add_zero] at hx12_2); have hf12_2 := QK 2; (try simp only [show (iV).sz = 3 from rfl, Nat.mul_one, Nat.add_zero] at hf12_2); clear hcl12 QJ QK hoki12 hH12; (try clear hM12)) | ((with_reducible refine rf (t := 110) (p := 21) rfl ?_); refine pG (t := 110) (p := 21) (v := ?vo_w13) (w1 := (((sP.setCell ⟨vW, (dK : Int).toNat * 3, none⟩ (.slice Ww t136.length Wx)).setCell ⟨vW, (dK : Int).toNat * 3 + 1, none⟩ (.slice Wy t139.length Wz)).setCell ⟨vW, (dK : Int).toNat * 3 + 2, none⟩ (.slice WA t142.length WB))) ?hg ?ho ?hn ?hr ?_; (case ho => rfl); (case hg => rfl); (case hn => rfl); (case hr => first | (go_simp; done) | (go_simp; rfl)); intro Gh hw; have hg : sP.grownBy Gh (some vW) := (by rw [hw]; exact YA.2); have QC : Kd.S iV 110 Gh w.heap.size (fun _ => True) (.slice (some ⟨vW, 0, none⟩) iZ.length RO) Yw := (by rw [hw, Ny145.out]; exact YA.1); clear YA; have ES := A_ (QC); have az := A_ ((by rw [hw]; exact bL (bL (bL (HB.out) Yz.out) Yz.out) Yz.out : Below w.heap.size w Gh)); clear lQ; clear HB; clear Mh; clear QF; clear QG; have lQ := ES; have HB := az; clear ES az; clear hg hw QC))
        go_roundg k1
        case measure => have := ni.out; omega
        case rel => exact ⟨(Yw), (wrap64 (dK + 1)), (by first | rfl | (simp; done) | (simp [*]; done)), H', ⟨by have := ni.out; omega⟩, ⟨rW lQ.out⟩, ⟨ko HB.out⟩⟩
       ·rw [if_neg c9] at H
        exact absurd H (by simp)
      ·rw [if_neg c7] at H
       exact absurd H (by simp)
     ·rw [if_neg c6] at H
      have yD : decide (dK < (l0.length : Int)) = false := decide_eq_false c6
      clear c6
      obtain rfl := Option.some.inj H
      go_wp2
      go_ret
      exact ⟨_, vE, by (with_reducible repeat (first | apply Kd.yO | apply Kd.yP | apply Kd.Dr)); exact lQ.out, by repeat (first | (with_reducible first | exact HB.out | apply aK | apply ah | apply aT) | exact HB.out)⟩
  ·rw [if_neg c3] at H
   exact absurd H (by simp)
 ·rw [if_neg c2] at H
  exact absurd H (by simp)
theorem iF.Bj (k : Nat) (bR : Option Addr) (bQ : Nat) (aX : List (mJ)) (r : List (bE)) (w : World) (jB : Kd.C KN w bR aX.length aX) (jQ : aX.length <= bQ) (h : iF.f k aX = some r) :
  Calls Try.prog 17 #[.agg #[.slice bR aX.length bQ]] w fun e w' => ∃ kI : Value, e = .returned (.agg #[kI]) /\ Kd.S iV 110 w' w.heap.size (fun _ => True) kI r /\ Below w.heap.size w w' := by
 have hu24 := Try.underlying24
 have Wu := Try.underlying29
 have lU := A_ jB
 have lV := A_ jQ
 clear jB jQ
 have HB := A_ (Below.refl w.heap.size w)
 have H : ((dz.f k aX).bind fun t149 => (some t149)) = some r := h
 clear h
 replace H := Option.bind_eq_some_iff.mp H
 obtain ⟨t149, zW, H⟩ := H
 replace H : (some t149) = some r := H
 have A2 := A_ zW
 clear zW
 obtain rfl := Option.some.inj H
 go_enter Try.func17, Try.ntmps17
 go_wp2_with (first | (refine lY 1 #[.slice bR aX.length bQ] 24 ?_; intro sQ hg w3 aM hb; have vP := A_ (aM); have GW146 := A_ ((by rw [hg]; exact (iU HB.out) : w.heap.size <= sQ)); have GE146 := A_ ((by rw [hg]; exact (iU HB.out) : w.heap.size <= sQ)); replace HB := A_ (jO HB.out hb); clear hb aM hg) | (refine lY 2 #[.slice none 0 0] 29 ?_; intro uA hg w4 aM hb; have xV := A_ (aM); have GW147 := A_ ((by rw [hg]; exact (iU HB.out) : w.heap.size <= uA)); have GE147 := A_ ((by rw [hg]; exact (iU HB.out) : w.heap.size <= uA)); replace HB := A_ (jO HB.out hb); have NB146_147 := A_ ((by rw [hg]; exact Nat.ne_of_lt (dh (g := sQ) (o := .cells #[.slice bR aX.length bQ] 24 (0, 0)) (gW vP.out)) : sQ ≠ uA)); have NB147_146 := A_ ((by rw [hg]; exact Nat.ne_of_gt (dh (g := sQ) (o := .cells #[.slice bR aX.length bQ] 24 (0, 0)) (gW vP.out)) : uA ≠ sQ)); replace vP := A_ (av (g := sQ) (o := .cells #[.slice bR aX.length bQ] 24 (0, 0)) (gW vP.out) hb); clear hb aM hg) | (refine lY 3 #[.slice none 0 0] 29 ?_; intro zZ hg w5 aM hb; have Mi := A_ (aM); have GW148 := A_ ((by rw [hg]; exact (iU HB.out) : w.heap.size <= zZ)); have GE148 := A_ ((by rw [hg]; exact (iU HB.out) : w.heap.size <= zZ)); replace HB := A_ (jO HB.out hb); have NB146_148 := A_ ((by rw [hg]; exact Nat.ne_of_lt (dh (g := sQ) (o := .cells #[.slice bR aX.length bQ] 24 (0, 0)) (gW vP.out)) : sQ ≠ zZ)); have NB148_146 := A_ ((by rw [hg]; exact Nat.ne_of_gt (dh (g := sQ) (o := .cells #[.slice bR aX.length bQ] 24 (0, 0)) (gW vP.out)) : zZ ≠ sQ)); replace vP := A_ (av (g := sQ) (o := .cells #[.slice bR aX.length bQ] 24 (0, 0)) (gW vP.out) hb); have NB147_148 := A_ ((by rw [hg]; exact Nat.ne_of_lt (dh (g := uA) (o := .cells #[.slice none 0 0] 29 (0, 0)) (gW xV.out)) : uA ≠ zZ)); have NB148_147 := A_ ((by rw [hg]; exact Nat.ne_of_gt (dh (g := uA) (o := .cells #[.slice none 0 0] 29 (0, 0)) (gW xV.out)) : zZ ≠ uA)); replace xV := A_ (av (g := uA) (o := .cells #[.slice none 0 0] 29 (0, 0)) (gW xV.out) hb); clear hb aM hg; have hnb6 := NB146_147.out; have hnc6 := NB147_146.out; have hnb7 := NB146_148.out; have hnc7 := NB148_146.out; have hcz8_0 : w5.cell? ⟨sQ, 0, none⟩ = some (.slice bR aX.length bQ) := (af vP.out 0).trans rfl; have hfz8_0 := ax vP.out 0) | ((with_reducible refine aI (f := 58) rfl ?_); refine bV (some 6) rfl rfl Try.func58 (by kernel_rfl) rfl #[.slice bR aX.length bQ] rfl (mY) ?_; (with_reducible refine (dz.Bj k _ _ aX t149 _ ?aj ?aU A2.out).mono ?_); (case aj => refine lH ?_; exact (Kd.aA lU.out HB.out)); (case aU => exact lV.out); rintro e w9 ⟨v150, rfl, ho0, hb⟩; refine ⟨_, rfl, ?_⟩; have HO151 := A_ (Kd.I7 ho0 (iU HB.out)); replace vP := A_ (av (g := sQ) (o := .cells #[.slice bR aX.length bQ] 24 (0, 0)) (gW vP.out) hb); replace xV := A_ (av (g := uA) (o := .cells #[.slice none 0 0] 29 (0, 0)) (gW xV.out) hb); replace Mi := A_ (av (g := zZ) (o := .cells #[.slice none 0 0] 29 (0, 0)) (gW Mi.out) hb); replace HB := A_ (jO HB.out hb); (try clear hb); (try clear hb2); (try clear hk); (try clear hi); (try clear ho0); obtain ⟨YB, RO, Wv⟩ := Kd.pq HO151.out; subst Wv; have hnb11 := NB148_147.out; have hnc11 := NB147_148.out; have hcz12_0 : w9.cell? ⟨zZ, 0, none⟩ = some (.slice none 0 0) := (af Mi.out 0).trans rfl; have hfz12_0 := ax Mi.out 0; have hcz13_0 : w9.cell? ⟨uA, 0, none⟩ = some (.slice none 0 0) := (af xV.out 0).trans rfl; have hfz13_0 := ax xV.out 0))
 refine bodyPost_ret (results_cell_row rfl _ _ uA 29 #[.slice YB t149.length RO] (0, 0) _ rfl (by (with_reducible repeat (first | refine cB ?_ _ | refine dF ?_ | refine dY ?_ _)); refine gY (cs := #[.slice none 0 0]) ?_ 0 _ rfl; (with_reducible repeat (first | refine cB ?_ _ | refine dF ?_ | refine dY ?_ _)); refine mE ?_ NB147_148.out _; (with_reducible repeat (first | refine cB ?_ _ | refine dF ?_ | refine dY ?_ _)); exact xV.out) Try.underlying29 rfl (by kernel_rfl)) rfl ?_
 exact ⟨_, vE, by (with_reducible repeat (first | apply Kd.yO | apply Kd.yP | apply Kd.Dr)); exact Kd.wy (Kd.wz (p := ⟨uA, 0, none⟩) (Kd.wz (p := ⟨zZ, 0, none⟩) (Kd.PZ (Kd.PZ HO151.out Mi.out (by decide)) xV.out (by decide)) (fun _ hk => hk.1.2) (.slice YB t149.length RO)) (fun _ hk => hk.2) (.slice YB t149.length RO)) (fun _ hk => trivial), by repeat (first | (with_reducible first | exact HB.out | apply aK | apply ah | apply aT | refine bL ?_ GE146.out | refine bL ?_ GE147.out | refine bL ?_ GE148.out) | exact HB.out)⟩
end Go.Proofs.Ytoddejmlcnbdmaa.Fn
namespace Go.Proofs.YtoddejmlcnbdmaaW.PrintWords
namespace Kd
section
variable {α : Type} {d : Kd α} {e last : Nat} {w W w1 : World} {v : Value} {xs : List α}
theorem Nt (ho : Kd.S d e w1 W.heap.size (fun _ => True) v xs) (hb : Below W.heap.size W w1) (hB : Below w.heap.size w W) (hS : last <= W.heap.size) :
  ∃ n m : Nat, last <= n /\ n <= m /\ m <= w1.heap.size /\ Kd.S d e w1 w.heap.size (fun k => n <= k /\ k < m) v xs :=
 ⟨W.heap.size, w1.heap.size, hS, hb.size, Nat.le_refl _, wy (I7 (I8 ho) hB.size) (fun _ hk => ⟨hk.2.1, hk.2.2.1⟩)⟩
end
end Kd
end Go.Proofs.YtoddejmlcnbdmaaW.PrintWords
namespace Go.Proofs.Ytoddejmlcnbdmaa.Fn
theorem lI {w : World} {A : Option Addr} {n : Nat} {xs : List bE} (h : Kd.C iV w A n xs) : Kd.C oP w A n xs := h
theorem yT {w : World} {g : Nat} {v : Value} (h : w.heap[g]? = some (.cells #[.slice none 0 0] 29 (0, 0))) : (w.setCell ⟨g, 0, none⟩ v).heap[g]? = some (.cells #[v] 29 (0, 0)) := gY (cs := #[.slice none 0 0]) h 0 _ rfl
theorem nC {w : World} {g : Nat} {o : Obj} (h : w.heap[g]? = some o) {p : Addr} (hp : g ≠ p.block) (u : Value) : (w.setCell p u).heap[g]? = some o := (Below.heap_setCell w p u g hp).trans h
def iG.f (k : Nat) (aX : List (bE)) (a1 : Int) : Option (Int) := (bT.f k aX a1).bind fun t222 => (if t222 < 0 then (some (-1)) else (some t222))
theorem iG.calls (k : Nat) (bR : Option Addr) (bQ : Nat) (aX : List (bE)) (a1 : Int) (r : Int) (w : World) (jB : Kd.C oP w bR aX.length aX) (jQ : aX.length <= bQ) (h : iG.f k aX a1 = some r) :
  Calls Try.prog 38 #[.agg #[.slice bR aX.length bQ], .int .i64 a1] w fun e w' => e = .returned (.int .i64 r) /\ Below w.heap.size w w' := by
 have Wu := Try.underlying29
 have lU := A_ jB
 have lV := A_ jQ
 clear jB jQ
 have HB := A_ (Below.refl w.heap.size w)
 have H : ((bT.f k aX a1).bind fun t222 => (if t222 < 0 then (some (-1)) else (some t222))) = some r := h
 clear h
 replace H := Option.bind_eq_some_iff.mp H
 obtain ⟨t222, tN, H⟩ := H
 replace H : (if t222 < 0 then (some (-1)) else (some t222)) = some r := H
 have A3 := A_ tN
 clear tN
 by_cases c4 : t222 < 0
 ·rw [if_pos c4] at H
  have mq : decide (t222 < 0) = true := decide_eq_true c4
  clear c4
  obtain rfl := Option.some.inj H
  go_enter Try.func38, Try.ntmps38
  go_wp2_with (first | (refine lY 2 #[.slice bR aX.length bQ] 29 ?_; intro z8 hg w5 aM hb; have Aa := A_ (aM); have GW221 := A_ ((by rw [hg]; exact (iU HB.out) : w.heap.size <= z8)); have T9 := A_ ((by rw [hg]; exact (iU HB.out) : w.heap.size <= z8)); replace HB := A_ (jO HB.out hb); clear hb aM hg; have hcz6_0 : w5.cell? ⟨z8, 0, none⟩ = some (.slice bR aX.length bQ) := (af Aa.out 0).trans rfl; have hfz6_0 := ax Aa.out 0) | ((with_reducible refine aI (f := 82) rfl ?_); refine bV (some 8) rfl rfl Try.func82 (by kernel_rfl) rfl #[.slice bR aX.length bQ, .int .i64 a1] rfl (mY) ?_; (with_reducible refine (bT.calls k _ _ aX a1 t222 _ ?aj ?aU A3.out).mono ?_); (case aj => refine lH ?_; exact (Kd.aA lU.out HB.out)); (case aU => exact lV.out); rintro e w7 ⟨rfl, hb⟩; refine ⟨_, rfl, ?_⟩; replace Aa := A_ (av (g := z8) (o := .cells #[.slice bR aX.length bQ] 29 (0, 0)) (gW Aa.out) hb); replace HB := A_ (jO HB.out hb); (try clear hb); (try clear hb2); (try clear hk); (try clear hi)))
  go_ret
  exact ⟨vE, by repeat (first | (with_reducible first | exact HB.out | apply aK | apply ah | apply aT | refine bL ?_ T9.out) | exact HB.out)⟩
 ·rw [if_neg c4] at H
  have mq : decide (t222 < 0) = false := decide_eq_false c4
  clear c4
  obtain rfl := Option.some.inj H
  go_enter Try.func38, Try.ntmps38
  go_wp2_with (first | (refine lY 2 #[.slice bR aX.length bQ] 29 ?_; intro z8 hg w8 aM hb; have Aa := A_ (aM); have GW221 := A_ ((by rw [hg]; exact (iU HB.out) : w.heap.size <= z8)); have T9 := A_ ((by rw [hg]; exact (iU HB.out) : w.heap.size <= z8)); replace HB := A_ (jO HB.out hb); clear hb aM hg; have hcz9_0 : w8.cell? ⟨z8, 0, none⟩ = some (.slice bR aX.length bQ) := (af Aa.out 0).trans rfl; have hfz9_0 := ax Aa.out 0) | ((with_reducible refine aI (f := 82) rfl ?_); refine bV (some 8) rfl rfl Try.func82 (by kernel_rfl) rfl #[.slice bR aX.length bQ, .int .i64 a1] rfl (mY) ?_; (with_reducible refine (bT.calls k _ _ aX a1 t222 _ ?aj ?aU A3.out).mono ?_); (case aj => refine lH ?_; exact (Kd.aA lU.out HB.out)); (case aU => exact lV.out); rintro e vN ⟨rfl, hb⟩; refine ⟨_, rfl, ?_⟩; replace Aa := A_ (av (g := z8) (o := .cells #[.slice bR aX.length bQ] 29 (0, 0)) (gW Aa.out) hb); replace HB := A_ (jO HB.out hb); (try clear hb); (try clear hb2); (try clear hk); (try clear hi)))
  go_ret
  exact ⟨vE, by repeat (first | (with_reducible first | exact HB.out | apply aK | apply ah | apply aT | refine bL ?_ T9.out) | exact HB.out)⟩
theorem Dv (k : Nat) (A : Option Addr) (c n : Nat) (l : List bE) (a1 r : Int) (w : World) (hn : n = l.length) (hr : Kd.C oP w A l.length l) (hc : l.length <= c) (h : iG.f k l a1 = some r) :
  Calls Try.prog 38 #[.agg #[.slice A n c], .int .i64 a1] w fun e w' => e = .returned (.int .i64 r) /\ Below w.heap.size w w' := by
 subst hn
 exact iG.calls k A c l a1 r w hr hc h
end Go.Proofs.Ytoddejmlcnbdmaa.Fn
namespace Go.Proofs.Ytoddejmlcnbdmaa.Tree
inductive PT where
 | mk (keys vals : List ByteArray) (kids : List PT)
def PT.keys : PT -> List ByteArray | .mk k _ _ => k
def PT.vals : PT -> List ByteArray | .mk _ v _ => v
def PT.kids : PT -> List PT | .mk _ _ c => c
theorem PT.eta (t : PT) : PT.mk t.keys t.vals t.kids = t := by cases t; rfl
theorem PT.iL {t s : PT} {i : Nat} (h : t.kids[i]? = some s) : SizeOf.sizeOf s < SizeOf.sizeOf t := by
 cases t with
 | mk keys vals kids =>
  have h1 : s ∈ kids := List.mem_of_getElem? h
  have h2 := List.sizeOf_lt_of_mem h1
  have h3 : SizeOf.sizeOf (PT.mk keys vals kids) = 1 + SizeOf.sizeOf keys + SizeOf.sizeOf vals + SizeOf.sizeOf kids := by simp
  omega
mutual
def iH : PT -> Int
 | .mk _ _ [] => 1
 | .mk _ _ (c :: cs) => if qA (iH c) (c :: cs) then Go.RowKit.wrap64 (iH c + 1) else -1
def qA (d : Int) : List PT -> Bool
 | [] => true
 | c :: cs => !(decide (d < 0) || iH c != d || decide (c.keys.length < 2)) && qA d cs
end
theorem fF {α : Type} {l : List α} {i : Nat} {s : α} (h : l[i]? = some s) : l.drop i = s :: l.drop (i + 1) := by
 obtain ⟨h1, h2⟩ := List.getElem?_eq_some_iff.1 h
 rw [<- h2]
 exact List.drop_eq_getElem_cons h1
mutual
def Nu : PT -> Prop
 | .mk _ _ kids => kids.length <= 1048576 /\ KO kids
def KO : List PT -> Prop
 | [] => True
 | c :: cs => Nu c /\ KO cs
end
theorem KP : ∀ {l : List PT}, KO l -> ∀ {i : Nat} {s : PT}, l[i]? = some s -> Nu s
 | [], _, i, s, h => by simp at h
 | c :: cs, hf, 0, s, h => by
  simp only [KO] at hf
  obtain rfl := Option.some.inj h
  exact hf.1
 | c :: cs, hf, i + 1, s, h => by
  simp only [KO] at hf
  exact KP hf.2 (by simpa using h)
theorem Nu.kid {t s : PT} {i : Nat} (h : Nu t) (hs : t.kids[i]? = some s) : Nu s := by
 cases t with | mk keys vals kids =>
  simp only [Nu] at h
  exact KP h.2 hs
theorem Nu.len {t : PT} (h : Nu t) : t.kids.length <= 1048576 := by
 cases t with | mk keys vals kids =>
  simp only [Nu] at h
  exact h.1
theorem Dw {t : PT} (h : t.kids.length = 0) : iH t = 1 := by
 cases t with | mk keys vals kids =>
  cases kids with
  | nil => simp [iH]
  | cons c cs => simp [PT.kids] at h
theorem Dx {t c : PT} (h : t.kids[0]? = some c) : iH t = if qA (iH c) (t.kids.drop 0) then Go.RowKit.wrap64 (iH c + 1) else -1 := by
 cases t with | mk keys vals kids =>
  cases kids with
  | nil => simp [PT.kids] at h
  | cons c' cs =>
   obtain rfl : c' = c := by simpa [PT.kids] using h
   simp [iH, PT.kids]
theorem Dy {d : Int} {l : List PT} {i : Nat} {s : PT} (h : l[i]? = some s) (x : Int) (hx : x = if qA d (l.drop i) then Go.RowKit.wrap64 (d + 1) else -1) :
  x = if (!(decide (d < 0) || iH s != d || decide (s.keys.length < 2)) && qA d (l.drop (i + 1))) then Go.RowKit.wrap64 (d + 1) else -1 := by
 rw [fF h, qA] at hx
 exact hx
theorem SE {d x : Int} {l : List PT} {i : Nat} {s : PT} (h : l[i]? = some s) (hx : x = if qA d (l.drop i) then Go.RowKit.wrap64 (d + 1) else -1) (h1 : ¬ d < 0) (h2 : iH s = d) (h3 : ¬ s.keys.length < 2) :
  x = if qA d (l.drop (i + 1)) then Go.RowKit.wrap64 (d + 1) else -1 := by
 have := Dy h x hx
 rw [this]
 simp [h1, h2, h3]
theorem Bl {d x : Int} {l : List PT} {i : Nat} {s : PT} (h : l[i]? = some s) (hx : x = if qA d (l.drop i) then Go.RowKit.wrap64 (d + 1) else -1) (h1 : d < 0 ∨ iH s ≠ d ∨ s.keys.length < 2) :
  x = -1 := by
 have := Dy h x hx
 rw [this]
 rcases h1 with h1 | h1 | h1 <;> simp [h1]
theorem Q0 {d x : Int} {l : List PT} {i : Nat} (h : l.length <= i) (hx : x = if qA d (l.drop i) then Go.RowKit.wrap64 (d + 1) else -1) : x = Go.RowKit.wrap64 (d + 1) := by
 rw [List.drop_eq_nil_of_le h] at hx
 simpa [qA] using hx
mutual
def jo : PT -> Int × Bool
 | .mk _ _ [] => (1, true)
 | .mk keys _ (c :: cs) => match iX 0 0 (c :: cs) with
  | some f => (Go.RowKit.wrap64 (f + 1), decide (0 < keys.length))
  | none => (0, false)
def iX (i : Nat) (first : Int) : List PT -> Option Int
 | [] => some first
 | c :: cs => if (!(jo c).2 || decide (c.keys.length < 2) || (decide (0 < i) && (jo c).1 != first)) then none else iX (i + 1) (jo c).1 cs
end
def xX (n : Nat) : Option Int -> Int × Bool
 | some f => (Go.RowKit.wrap64 (f + 1), decide (0 < n))
 | none => (0, false)
theorem Cj {t : PT} (h : t.kids.length = 0) : jo t = (1, true) := by
 cases t with | mk keys vals kids =>
  cases kids with
  | nil => simp [jo]
  | cons c cs => simp [PT.kids] at h
theorem Cm {t : PT} (h : t.kids.length ≠ 0) : jo t = xX t.keys.length (iX 0 0 (t.kids.drop 0)) := by
 cases t with | mk keys vals kids =>
  cases kids with
  | nil => simp [PT.kids] at h
  | cons c cs =>
   simp only [PT.kids, PT.keys, List.drop_zero]
   rw [jo]
   cases iX 0 0 (c :: cs) <;> rfl
theorem Q3 {first : Int} {l : List PT} {i : Nat} {s : PT} {n : Nat} {x : Int × Bool} (h : l[i]? = some s) (hx : x = xX n (iX i first (l.drop i))) (h1 : (jo s).2 = true) (h2 : ¬ s.keys.length < 2) (h3 : i = 0 ∨ (jo s).1 = first) :
  x = xX n (iX (i + 1) (jo s).1 (l.drop (i + 1))) := by
 rw [fF h, iX] at hx
 rw [hx]
 congr 1
 rw [if_neg]
 rcases h3 with h3 | h3 <;> simp [h1, h2, h3]
theorem xY {first : Int} {l : List PT} {i : Nat} {s : PT} {n : Nat} {x : Int × Bool} (h : l[i]? = some s) (hx : x = xX n (iX i first (l.drop i))) (h1 : (jo s).2 = false ∨ s.keys.length < 2 ∨ (0 < i /\ (jo s).1 ≠ first)) : x = (0, false) := by
 rw [fF h, iX] at hx
 rw [hx]
 rw [if_pos]
 ·rfl
 ·rcases h1 with h1 | h1 | h1 <;> simp [h1]
theorem Nv {first : Int} {l : List PT} {i : Nat} {n : Nat} {x : Int × Bool} (h : l.length <= i) (hx : x = xX n (iX i first (l.drop i))) : x = (Go.RowKit.wrap64 (first + 1), decide (0 < n)) := by
 rw [List.drop_eq_nil_of_le h, iX] at hx
 exact hx
def bX {α : Type} : List (List α) -> List α -> List α
 | [], ks => ks
 | c :: _, [] => c
 | c :: cs, k :: ks => c ++ k :: bX cs ks
mutual
def bY : PT -> List ByteArray
 | .mk keys _ kids => bX (P5 kids) keys
def P5 : List PT -> List (List ByteArray)
 | [] => []
 | c :: cs => bY c :: P5 cs
end
mutual
def fT : PT -> List ByteArray
 | .mk _ vals kids => bX (P6 kids) vals
def P6 : List PT -> List (List ByteArray)
 | [] => []
 | c :: cs => fT c :: P6 cs
end
theorem GG : ∀ l : List PT, P5 l = l.map bY
 | [] => rfl
 | c :: cs => by rw [P5, GG cs]; rfl
theorem GH : ∀ l : List PT, P6 l = l.map fT
 | [] => rfl
 | c :: cs => by rw [P6, GH cs]; rfl
theorem qD (t : PT) : bY t = bX (t.kids.map bY) t.keys := by
 cases t with | mk keys vals kids => rw [bY, GG]; rfl
theorem C9 (t : PT) : fT t = bX (t.kids.map fT) t.vals := by
 cases t with | mk keys vals kids => rw [fT, GH]; rfl
def mU (t : PT) (i : Nat) : List ByteArray := bX ((t.kids.drop i).map bY) (t.keys.drop i)
def oN (t : PT) (i : Nat) : List ByteArray := bX ((t.kids.drop i).map fT) (t.vals.drop i)
theorem Dz (t : PT) : mU t 0 = bY t := by rw [qD, mU, List.drop_zero, List.drop_zero]
theorem DC (t : PT) : oN t 0 = fT t := by rw [C9, oN, List.drop_zero, List.drop_zero]
def xZ (t : PT) : Prop := t.keys.length = t.vals.length /\ t.keys.length <= 1000 /\ (t.kids.length = 0 ∨ t.kids.length = t.keys.length + 1)
mutual
def qB : PT -> Prop
 | .mk keys vals kids => xZ (.mk keys vals kids) /\ Nw kids
def Nw : List PT -> Prop
 | [] => True
 | c :: cs => qB c /\ Nw cs
end
theorem KQ : ∀ {l : List PT}, Nw l -> ∀ {i : Nat} {s : PT}, l[i]? = some s -> qB s
 | [], _, i, s, h => by simp at h
 | c :: cs, hf, 0, s, h => by
  simp only [Nw] at hf
  obtain rfl := Option.some.inj h
  exact hf.1
 | c :: cs, hf, i + 1, s, h => by
  simp only [Nw] at hf
  exact KQ hf.2 (by simpa using h)
theorem qB.one {t : PT} (h : qB t) : xZ t := by
 cases t with | mk keys vals kids => simp only [qB] at h; exact h.1
theorem qB.kid {t s : PT} {i : Nat} (h : qB t) (hs : t.kids[i]? = some s) : qB s := by
 cases t with | mk keys vals kids =>
  simp only [qB] at h
  exact KQ h.2 hs
theorem qB.mk' {t : PT} (h1 : xZ t) (h : ∀ (i : Nat) (s : PT), t.kids[i]? = some s -> qB s) : qB t := by
 cases t with | mk keys vals kids =>
  simp only [qB]
  refine ⟨h1, ?_⟩
  have h' : ∀ (i : Nat) (s : PT), kids[i]? = some s -> qB s := h
  clear h h1
  induction kids with
  | nil => simp [Nw]
  | cons c cs ih =>
   simp only [Nw]
   exact ⟨h' 0 c rfl, ih fun i s hs => h' (i + 1) s (by simpa using hs)⟩
theorem P7 : ∀ {l : List PT}, (∀ (i : Nat) (s : PT), l[i]? = some s -> Nu s) -> KO l
 | [], _ => by simp [KO]
 | c :: cs, h => by
  simp only [KO]
  exact ⟨h 0 c rfl, P7 fun i s hs => h (i + 1) s (by simpa using hs)⟩
theorem qB.few : ∀ {n : Nat} {t : PT}, SizeOf.sizeOf t <= n -> qB t -> Nu t
 | 0, t, h, _ => by cases t; simp at h
 | n + 1, t, h, hs => by
  cases t with | mk keys vals kids =>
  simp only [Nu]
  have h1 := hs.one
  unfold xZ at h1
  simp only [PT.kids, PT.keys, PT.vals] at h1
  refine ⟨by omega, P7 fun i s hi => qB.few (n := n) ?_ (hs.kid hi)⟩
  have := PT.iL (t := .mk keys vals kids) hi
  omega
theorem sV {α : Type} (l : List α) {i : Nat} (h : l.length <= i) : l.drop i = [] := List.drop_eq_nil_of_le h
theorem drop_at {α : Type} {l : List α} {i : Nat} (h : i < l.length) (d : α) : l.drop i = l.getD i d :: l.drop (i + 1) := by
 rw [List.drop_eq_getElem_cons h, List.getD_eq_getElem?_getD, List.getElem?_eq_getElem h]
 rfl
theorem DD {t : PT} {i : Nat} (h : t.kids.length = 0) (hi : i < t.keys.length) : mU t i = t.keys.getD i ByteArray.empty :: mU t (i + 1) := by
 have e : t.kids = [] := List.length_eq_zero_iff.1 h
 unfold mU
 rw [e, List.drop_nil, List.drop_nil, drop_at hi ByteArray.empty]
 rfl
theorem DF {t : PT} {i : Nat} (h : t.kids.length = 0) (hi : i < t.vals.length) : oN t i = t.vals.getD i ByteArray.empty :: oN t (i + 1) := by
 have e : t.kids = [] := List.length_eq_zero_iff.1 h
 unfold oN
 rw [e, List.drop_nil, List.drop_nil, drop_at hi ByteArray.empty]
 rfl
theorem DI {t s : PT} {i : Nat} (h : t.kids[i]? = some s) (hi : i < t.keys.length) : mU t i = bY s ++ t.keys.getD i ByteArray.empty :: mU t (i + 1) := by
 unfold mU
 rw [fF h, drop_at hi ByteArray.empty]
 rfl
theorem DJ {t s : PT} {i : Nat} (h : t.kids[i]? = some s) (hi : i < t.vals.length) : oN t i = fT s ++ t.vals.getD i ByteArray.empty :: oN t (i + 1) := by
 unfold oN
 rw [fF h, drop_at hi ByteArray.empty]
 rfl
theorem DK {t s : PT} {i : Nat} (h : t.kids[i]? = some s) (hi : t.keys.length <= i) (hk : t.kids.length = i + 1) : mU t i = bY s ++ mU t (i + 1) := by
 unfold mU
 rw [fF h, sV t.keys hi, sV t.kids (by omega), sV t.keys (by omega)]
 simp [bX]
theorem DL {t s : PT} {i : Nat} (h : t.kids[i]? = some s) (hi : t.vals.length <= i) (hk : t.kids.length = i + 1) : oN t i = fT s ++ oN t (i + 1) := by
 unfold oN
 rw [fF h, sV t.vals hi, sV t.kids (by omega), sV t.vals (by omega)]
 simp [bX]
theorem tY {t : PT} {i : Nat} (hi : t.keys.length <= i) (hk : t.kids.length <= i) : mU t i = [] := by
 unfold mU
 rw [sV t.keys hi, sV t.kids hk]
 rfl
theorem tZ {t : PT} {i : Nat} (hi : t.vals.length <= i) (hk : t.kids.length <= i) : oN t i = [] := by
 unfold oN
 rw [sV t.vals hi, sV t.kids hk]
 rfl
mutual
def PT.big : PT -> Nat
 | .mk _ _ kids => 1 + PT.jH kids
def PT.jH : List PT -> Nat
 | [] => 0
 | c :: cs => c.big + PT.jH cs
end
theorem KR : ∀ {l : List PT} {i : Nat} {s : PT}, l[i]? = some s -> s.big <= PT.jH l
 | [], i, s, h => by simp at h
 | c :: cs, 0, s, h => by
  obtain rfl := Option.some.inj h
  rw [PT.jH]
  omega
 | c :: cs, i + 1, s, h => by
  have := KR (l := cs) (i := i) (s := s) (by simpa using h)
  rw [PT.jH]
  omega
theorem PT.gK {t s : PT} {i : Nat} (h : t.kids[i]? = some s) : s.big < t.big := by
 cases t with | mk keys vals kids =>
 have := KR (l := kids) h
 rw [PT.big]
 omega
theorem PT.fZ (t : PT) : 0 < t.big := by
 cases t with | mk keys vals kids => rw [PT.big]; omega
abbrev bO (p : Nat) : Value := .pointer (some ⟨p, 0, none⟩)
def gL : Kd Nat := Kd.scalar bO (fun _ => rfl)
theorem VC : gL.sz = 1 := rfl
inductive Rd (T : Nat) (w : World) : Nat -> PT -> Prop
 | mk {p : Nat} {keys vals : List ByteArray} {kids : List PT} (Ak : Option Addr) (ck : Nat) (Av : Option Addr) (cv : Nat) (Ac : Option Addr) (cc : Nat) (ps : List Nat)
   (hn : w.heap[p]? = some (.cells #[.slice Ak keys.length ck, .slice Av vals.length cv, .slice Ac kids.length cc] T (0, 0)))
   (h1 : keys.length <= ck) (h2 : vals.length <= cv) (h3 : kids.length <= cc)
   (hk : Kd.string.C w Ak keys.length keys) (hv : Kd.string.C w Av vals.length vals) (hc : gL.C w Ac kids.length ps) (hl : ps.length = kids.length)
   (ht : ∀ (i q : Nat) (s : PT), ps[i]? = some q -> kids[i]? = some s -> Rd T w q s) : Rd T w p (.mk keys vals kids)
section
variable {T : Nat} {w w1 : World} {p : Nat} {t : PT}
theorem Rd.under (h : Rd T w p t) (hb : Below w.heap.size w w1) : Rd T w1 p t := by
 induction h with
 | mk Ak ck Av cv Ac cc ps hn h1 h2 h3 hk hv hc hl ht ih =>
  exact .mk Ak ck Av cv Ac cc ps (av hn hb) h1 h2 h3 (Kd.aA hk hb) (Kd.aA hv hb) (Kd.aA hc hb) hl ih
theorem Rd.drew (h : Rd T w p t) : Rd T w.drew p t := h.under (aH (Below.refl _ _))
theorem Rd.drewN (h : Rd T w p t) (m : Nat) : Rd T (w.drewN m) p t := h.under (ah (Below.refl _ _) m)
end
structure NC (T : Nat) (w : World) (p : Nat) (t : PT) (Ak : Option Addr) (ck : Nat) (Av : Option Addr) (cv : Nat) (Ac : Option Addr) (cc : Nat) (ps : List Nat) : Prop where
 hn : w.heap[p]? = some (.cells #[.slice Ak t.keys.length ck, .slice Av t.vals.length cv, .slice Ac t.kids.length cc] T (0, 0))
 h1 : t.keys.length <= ck
 h2 : t.vals.length <= cv
 h3 : t.kids.length <= cc
 hk : Kd.string.C w Ak t.keys.length t.keys
 hv : Kd.string.C w Av t.vals.length t.vals
 hc : gL.C w Ac t.kids.length ps
 hl : ps.length = t.kids.length
 ht : ∀ (i q : Nat) (s : PT), ps[i]? = some q -> t.kids[i]? = some s -> Rd T w q s
section
variable {T : Nat} {w w1 : World} {p : Nat} {t : PT} {Ak Av Ac : Option Addr} {ck cv cc : Nat} {ps : List Nat}
theorem Rd.open (h : Rd T w p t) : ∃ Ak ck Av cv Ac cc ps, NC T w p t Ak ck Av cv Ac cc ps := by
 cases h with | mk Ak ck Av cv Ac cc ps hn h1 h2 h3 hk hv hc hl ht => exact ⟨Ak, ck, Av, cv, Ac, cc, ps, ⟨hn, h1, h2, h3, hk, hv, hc, hl, ht⟩⟩
theorem NC.rd (h : NC T w p t Ak ck Av cv Ac cc ps) : Rd T w p t := by
 rw [<- PT.eta t]
 exact .mk Ak ck Av cv Ac cc ps h.hn h.h1 h.h2 h.h3 h.hk h.hv h.hc h.hl h.ht
theorem NC.below (h : NC T w p t Ak ck Av cv Ac cc ps) (hb : Below w.heap.size w w1) : NC T w1 p t Ak ck Av cv Ac cc ps :=
 ⟨av h.hn hb, h.h1, h.h2, h.h3, Kd.aA h.hk hb, Kd.aA h.hv hb, Kd.aA h.hc hb, h.hl, fun i q s hq hs => (h.ht i q s hq hs).under hb⟩
theorem NC.z0 (h : NC T w p t Ak ck Av cv Ac cc ps) : w.cell? ⟨p, 0, none⟩ = some (.slice Ak t.keys.length ck) := (af h.hn 0).trans rfl
theorem NC.z1 (h : NC T w p t Ak ck Av cv Ac cc ps) : w.cell? ⟨p, 1, none⟩ = some (.slice Av t.vals.length cv) := (af h.hn 1).trans rfl
theorem NC.z2 (h : NC T w p t Ak ck Av cv Ac cc ps) : w.cell? ⟨p, 2, none⟩ = some (.slice Ac t.kids.length cc) := (af h.hn 2).trans rfl
theorem Ny {A : Option Addr} {n : Nat} {ps : List Nat} (h : gL.C w A n ps) (i : Int) (h0 : 0 <= i) (h1 : i < n) : ∃ ad, A = some ad /\ w.cell? (ad.add i.toNat) = some (bO (cK 0 ps i)) :=
 iD.at_ (Kd.iM (enc := bO) (d := (0 : Nat)) (h1 := fun _ => rfl) h) i h0 h1
theorem at0 {ad : Addr} {v : Value} (h : w.cell? (ad.add (0 : Int).toNat) = some v) : w.cell? ad = some v := by
 have e_ : ad.add (0 : Int).toNat = ad := by cases ad; simp [Addr.add]
 rw [e_] at h
 exact h
theorem NC.kid (h : NC T w p t Ak ck Av cv Ac cc ps) (i : Int) (h0 : 0 <= i) (h1 : i < (t.kids.length : Int)) :
  ∃ (ad : Addr) (q : Nat) (s : PT), Ac = some ad /\ w.cell? (ad.add i.toNat) = some (bO q) /\ t.kids[i.toNat]? = some s /\ Rd T w q s := by
 obtain ⟨ad, hA, hz⟩ := Ny h.hc i h0 (by omega)
 have hl := h.hl
 have hi : i.toNat < t.kids.length := by omega
 have hj : i.toNat < ps.length := by omega
 refine ⟨ad, cK 0 ps i, t.kids[i.toNat], hA, hz, List.getElem?_eq_getElem hi, h.ht i.toNat _ _ ?_ (List.getElem?_eq_getElem hi)⟩
 rw [List.getElem?_eq_getElem hj]
 unfold cK
 rw [List.getD_eq_getElem?_getD, List.getElem?_eq_getElem hj]
 rfl
theorem NC.key (h : NC T w p t Ak ck Av cv Ac cc ps) (i : Int) (h0 : 0 <= i) (h1 : i < (t.keys.length : Int)) :
  ∃ (ad : Addr), Ak = some ad /\ w.cell? (ad.add i.toNat) = some (.string (cK ByteArray.empty t.keys i)) := Kd.cO h.hk i h0 h1
theorem NC.val (h : NC T w p t Ak ck Av cv Ac cc ps) (i : Int) (h0 : 0 <= i) (h1 : i < (t.vals.length : Int)) :
  ∃ (ad : Addr), Av = some ad /\ w.cell? (ad.add i.toNat) = some (.string (cK ByteArray.empty t.vals i)) := Kd.cO h.hv i h0 h1
end
open Go.Proofs.Ytoddejmlcnbdmaa.Fn
def SR (w : World) (base : Nat) (v : Value) (l : List ByteArray) : Prop := Kd.string.R 9 w base (fun _ => True) v l
theorem SR.FP {w : World} {base : Nat} {v : Value} {l : List ByteArray} (h : Kd.string.R 9 w base (fun _ => True) v l) : SR w base v l := h
section
variable {W w1 : World} {base : Nat} {v v1 u : Value} {l l1 : List ByteArray}
theorem SR.nil (w : World) (base : Nat) : SR w base (.slice none 0 0) [] := Kd.yR _ _ _ _ _
theorem SR.lt (h : SR W base v l) {k : Nat} (hk : v.ownBlock = some k) : k < W.heap.size := by
 have h2 := Kd.mD h
 exact (h2.1 k hk).2.2.1
theorem SR.far (h : SR W base v l) (hg : W.grownBy w1 u.ownBlock) (hne : vF v u) : SR w1 base v l :=
 Kd.dG (Kd.VD (Kd.r9 rfl h) hg (fun k hk he => hne k hk.symm he.symm)) (fun _ _ => trivial)
theorem SR.under (h : SR W base v l) (hb : Below W.heap.size W w1) : SR w1 base v l := Kd.uM h hb
theorem Bn (h : vF u v) : vF v u := fun k h1 h2 => h k h2 h1
theorem SR.ne (h : SR W base u l) (hat : v1.ownBlock = v.ownBlock ∨ ∃ b, v1.ownBlock = some b /\ W.heap.size <= b) (hne : vF v u) : vF v1 u := by
 intro k hk hu
 rcases hat with h1 | ⟨b, h1, h2⟩
 ·exact hne k (by rw [<- h1]; exact hk) hu
 ·have := h.lt hu
  rw [h1] at hk
  injection hk with hk
  omega
end
open Go.Proofs.Ytoddejmlcnbdmaa.Fn
inductive Ck where
 | own (e : Nat) (v : Value) (xs : List Value)
 | kT (e : Nat) (v : Value) (xs : List Value)
 | box (T p : Nat) (cs : Array Value)
 | row (e sz : Nat) (v : Value) (n : Nat) (xs : List Value)
def Ck.blk : Ck -> Option Nat
 | .own _ v _ => v.ownBlock
 | .kT _ v _ => v.ownBlock
 | .box _ p _ => some p
 | .row _ _ v _ _ => v.ownBlock
def Ck.ok (w : World) (base : Nat) : Ck -> Prop
 | .own e v xs => w.ownsRow base e 1 v xs.length xs
 | .kT e v xs => kW w base e 1 v xs.length xs
 | .box T p cs => base <= p /\ w.heap[p]? = some (.cells cs T (0, 0))
 | .row e sz v n xs => w.ownsRow base e sz v n xs
def Apart (a b : Ck) : Prop := ∀ k, a.blk = some k -> b.blk ≠ some k
theorem Apart.symm {a b : Ck} (h : Apart a b) : Apart b a := fun k h1 h2 => h k h2 h1
structure Sat (w : World) (base : Nat) (L : List Ck) : Prop where
 ok : ∀ c ∈ L, c.ok w base
 ap : L.Pairwise Apart
def xI (L : List Ck) (k : Nat) : Prop := ∃ c ∈ L, c.blk = some k
section
variable {w w1 W : World} {base : Nat} {c : Ck} {L A A' R : List Ck}
theorem Ck.lt (h : c.ok w base) {k : Nat} (hk : c.blk = some k) : k < w.heap.size := by
 cases c with
 | own e v xs => exact I9 h k hk
 | kT e v xs => exact aaf h k hk
 | box T p cs =>
  injection hk with hk
  subst hk
  exact dh h.2
 | row e sz v n xs => exact I9 h k hk
theorem Ck.ge (h : c.ok w base) {k : Nat} (hk : c.blk = some k) : base <= k := by
 cases c with
 | own e v xs => exact nD h k hk
 | kT e v xs => exact (Da h k hk).1
 | box T p cs =>
  injection hk with hk
  subst hk
  exact h.1
 | row e sz v n xs => exact nD h k hk
theorem Ck.move (h : c.ok w base) (hm : ∀ k, c.blk = some k -> w1.heap[k]? = w.heap[k]?) : c.ok w1 base := by
 cases c with
 | own e v xs => exact DN h hm
 | kT e v xs => exact SF h hm
 | box T p cs => exact ⟨h.1, (hm p rfl).trans h.2⟩
 | row e sz v n xs => exact DN h hm
theorem Ck.lower {base' : Nat} (h : c.ok w base) (hb : base' <= base) : c.ok w base' := by
 cases c with
 | own e v xs => exact x9 h hb
 | kT e v xs => exact P8 h hb
 | box T p cs => exact ⟨Nat.le_trans hb h.1, h.2⟩
 | row e sz v n xs => exact x9 h hb
theorem Sat.nil (w : World) (base : Nat) : Sat w base [] := ⟨(fun c h => by cases h), .nil⟩
theorem Sat.lt (h : Sat w base L) {k : Nat} (hk : xI L k) : k < w.heap.size := by
 obtain ⟨c, hc, hb⟩ := hk
 exact Ck.lt (h.ok c hc) hb
theorem Sat.ge (h : Sat w base L) {k : Nat} (hk : xI L k) : base <= k := by
 obtain ⟨c, hc, hb⟩ := hk
 exact Ck.ge (h.ok c hc) hb
theorem Sat.move (h : Sat w base L) (hm : ∀ k, xI L k -> k < w.heap.size -> w1.heap[k]? = w.heap[k]?) : Sat w1 base L :=
 ⟨fun c hc => Ck.move (h.ok c hc) fun k hk => hm k ⟨c, hc, hk⟩ (Ck.lt (h.ok c hc) hk), h.ap⟩
theorem Sat.under (h : Sat w base L) (hb : Below w.heap.size w w1) : Sat w1 base L := h.move fun k _ hk => hb.block k hk
theorem Sat.lower {base' : Nat} (h : Sat w base L) (hb : base' <= base) : Sat w base' L := ⟨fun c hc => Ck.lower (h.ok c hc) hb, h.ap⟩
theorem Sat.drew (h : Sat w base L) : Sat w.drew base L := h.under (aH (Below.refl _ _))
theorem Sat.drewN (h : Sat w base L) (m : Nat) : Sat (w.drewN m) base L := h.under (ah (Below.refl _ _) m)
theorem Sat.perm (h : Sat w base A) (hp : A.Perm L) : Sat w base L :=
 ⟨fun c hc => h.ok c (hp.mem_iff.2 hc), hp.pairwise h.ap fun h => Apart.symm h⟩
theorem Sat.sub (h : Sat w base A) (hp : L.Sublist A) : Sat w base L := ⟨fun c hc => h.ok c (hp.subset hc), h.ap.sublist hp⟩
theorem Sat.left (h : Sat w base (A ++ R)) : Sat w base A := h.sub (List.sublist_append_left _ _)
theorem Sat.right (h : Sat w base (A ++ R)) : Sat w base R := h.sub (List.sublist_append_right _ _)
theorem Sat.apart (h : Sat w base (A ++ R)) {k : Nat} (ha : xI A k) (hr : xI R k) : False := by
 obtain ⟨c, hc, h1⟩ := ha
 obtain ⟨d, hd, h2⟩ := hr
 exact (List.pairwise_append.1 h.ap).2.2 c hc d hd k h1 h2
theorem Sat.frame (h : Sat w base (A ++ R)) (ha : Sat w1 base A') (hk : Kept w w1 (xI A)) (hb : ∀ k, xI A' k -> xI A k ∨ w.heap.size <= k) : Sat w1 base (A' ++ R) := by
 have hr : Sat w1 base R := h.right.move fun k hk' hlt => hk.2 k hlt fun hka => h.apart hka hk'
 refine ⟨fun c hc => ?_, List.pairwise_append.2 ⟨ha.ap, hr.ap, fun a haa r hrr k h1 h2 => ?_⟩⟩
 ·rcases List.mem_append.1 hc with hc | hc
  ·exact ha.ok c hc
  ·exact hr.ok c hc
 ·rcases hb k ⟨a, haa, h1⟩ with h3 | h3
  ·exact h.apart h3 ⟨r, hrr, h2⟩
  ·have := h.right.lt ⟨r, hrr, h2⟩
   omega
theorem Sat.add (h : Sat w base L) (hk : Kept w w1 (fun _ => False)) (hc : Sat w1 base A) (hn : ∀ k, xI A k -> w.heap.size <= k) : Sat w1 base (A ++ L) := by
 have := Sat.frame (A := []) (A' := A) (R := L) (w := w) (w1 := w1) (base := base) (by simpa using h) hc (hk.mono fun k h => h.elim) (fun k h => .inr (hn k h))
 exact this
theorem Sat.one (h : c.ok w base) : Sat w base [c] := ⟨fun d hd => by rw [List.mem_singleton.1 hd]; exact h, List.pairwise_singleton _ _⟩
theorem Sat.cell (h : Sat w base L) {T p : Nat} {cs : Array Value} (hm : Ck.box T p cs ∈ L) : w.heap[p]? = some (.cells cs T (0, 0)) := (h.ok _ hm).2
theorem P9 {v : Value} {l : List ByteArray} (h : Ck.ok w base (.own 9 v (encs Value.string l))) : SR w base v l :=
 Kd.pJ (enc := Value.string) (h1 := fun _ => rfl) (by have h2 : w.ownsRow base 9 1 v (encs Value.string l).length (encs Value.string l) := h; rw [dD] at h2; exact h2) (fun _ _ => trivial)
theorem yU {v : Value} {l : List ByteArray} (h : SR w base v l) : Ck.ok w base (.own 9 v (encs Value.string l)) := by
 have h2 := Kd.tV (enc := Value.string) (h1 := fun _ => rfl) h
 show w.ownsRow base 9 1 v (encs Value.string l).length (encs Value.string l)
 rw [dD]
 exact h2
abbrev txt (v : Value) (l : List ByteArray) : Ck := .own 9 v (encs Value.string l)
theorem Sat.sr (h : Sat w base L) {v : Value} {l : List ByteArray} (i : Nat) (hi : L[i]? = some (txt v l)) : SR w base v l := P9 (h.ok _ (List.mem_of_getElem? hi))
theorem Sat.ap2 (h : Sat w base L) {i j : Nat} (hij : i < j) {a b : Ck} (hi : L[i]? = some a) (hj : L[j]? = some b) : Apart a b := by
 obtain ⟨h1, h2⟩ := List.getElem?_eq_some_iff.1 hi
 obtain ⟨h3, h4⟩ := List.getElem?_eq_some_iff.1 hj
 rw [<- h2, <- h4]
 exact List.pairwise_iff_getElem.1 h.ap i j h1 h3 hij
theorem Sat.two {v1 v2 : Value} {l1 l2 : List ByteArray} (h1 : SR w base v1 l1) (h2 : SR w base v2 l2) (hn : vF v1 v2) : Sat w base [txt v1 l1, txt v2 l2] :=
 ⟨fun c hc => by
  rcases List.mem_cons.1 hc with rfl | hc
  ·exact yU h1
  ·rw [List.mem_singleton.1 hc]; exact yU h2, by
  refine List.pairwise_cons.2 ⟨fun b hb => ?_, List.pairwise_singleton _ _⟩
  rw [List.mem_singleton.1 hb]
  exact hn⟩
theorem Sat.lit {xs : List ByteArray} {vb : Value} (h : Sat W base L) (ho : Kd.string.R 9 w1 base (fun _ => True) vb xs) (hg : W.grownBy w1 none) (hn : ∃ b, vb.ownBlock = some b /\ W.heap.size <= b) : Sat w1 base (L ++ [txt vb xs]) := by
 have hk : Kept W w1 (fun _ => False) := ⟨hg.size, fun i hi _ => hg.block i hi (by simp)⟩
 refine (h.add hk (Sat.one (yU ho)) ?_).perm List.perm_append_comm
 rintro k ⟨c, hc, hb⟩
 rw [List.mem_singleton.1 hc] at hb
 obtain ⟨b, h1, h2⟩ := hn
 have h3 : vb.ownBlock = some k := hb
 rw [h1] at h3
 injection h3 with h3
 omega
theorem set_perm {α : Type} : ∀ {l : List α} {i : Nat} {x y : α}, l[i]? = some x -> (l.Perm (x :: l.eraseIdx i)) /\ (l.set i y).Perm (y :: l.eraseIdx i)
 | [], i, x, y, h => by simp at h
 | a :: l, 0, x, y, h => by
  have h : a = x := by simpa using h
  subst h
  exact ⟨.refl _, .refl _⟩
 | a :: l, i + 1, x, y, h => by
  obtain ⟨h1, h2⟩ := set_perm (l := l) (i := i) (x := x) (y := y) (by simpa using h)
  exact ⟨(h1.cons a).trans (.swap _ _ _), (h2.cons a).trans (.swap _ _ _)⟩
theorem Sat.app {x y : List ByteArray} {u u1 : Value} (i : Nat) (h : Sat W base L) (hi : L[i]? = some (txt u x)) (ho : Kd.string.R 9 w1 base (fun _ => True) u1 y) (hg : W.grownBy w1 u.ownBlock) (hat : u1.ownBlock = u.ownBlock ∨ ∃ b, u1.ownBlock = some b /\ W.heap.size <= b) :
  Sat w1 base (L.set i (txt u1 y)) := by
 obtain ⟨h1, h2⟩ := set_perm (y := txt u1 y) hi
 have hf : Sat w1 base ([txt u1 y] ++ L.eraseIdx i) := by
  refine Sat.frame (A := [txt u x]) (w := W) (h.perm h1) (Sat.one (yU ho)) ⟨hg.size, fun k hk hnot => hg.block k hk fun he => hnot ⟨_, List.mem_singleton_self _, he.symm⟩⟩ ?_
  rintro k ⟨c, hc, hb⟩
  rw [List.mem_singleton.1 hc] at hb
  have h3 : u1.ownBlock = some k := hb
  rcases hat with h4 | ⟨b, h4, h5⟩
  ·exact .inl ⟨_, List.mem_singleton_self _, by rw [h4] at h3; exact h3⟩
  ·rw [h4] at h3
   injection h3 with h3
   exact .inr (by omega)
 exact hf.perm h2.symm
end
open Go.Proofs.Ytoddejmlcnbdmaa.Fn
inductive NT where
 | mk (p : Nat) (kv vv cv : Value) (keys vals : List ByteArray) (kids : List NT)
def NT.p : NT -> Nat | .mk p _ _ _ _ _ _ => p
def NT.kv : NT -> Value | .mk _ v _ _ _ _ _ => v
def NT.vv : NT -> Value | .mk _ _ v _ _ _ _ => v
def NT.cv : NT -> Value | .mk _ _ _ v _ _ _ => v
def NT.keys : NT -> List ByteArray | .mk _ _ _ _ k _ _ => k
def NT.vals : NT -> List ByteArray | .mk _ _ _ _ _ v _ => v
def NT.kids : NT -> List NT | .mk _ _ _ _ _ _ c => c
mutual
def NT.erase : NT -> PT
 | .mk _ _ _ _ keys vals kids => .mk keys vals (NT.aD kids)
def NT.aD : List NT -> List PT
 | [] => []
 | c :: cs => c.erase :: NT.aD cs
end
theorem aN : ∀ l : List NT, NT.aD l = l.map NT.erase
 | [] => rfl
 | c :: cs => by rw [NT.aD, aN cs]; rfl
abbrev ptrs (l : List NT) : List Value := l.map fun k => bO k.p
mutual
def NT.fB (T E : Nat) : NT -> List Ck
 | .mk p kv vv cv keys vals kids => .box T p #[kv, vv, cv] :: txt kv keys :: txt vv vals :: .kT E cv (ptrs kids) :: NT.bI T E kids
def NT.bI (T E : Nat) : List NT -> List Ck
 | [] => []
 | c :: cs => c.fB T E ++ NT.bI T E cs
end
theorem uf (T E : Nat) : ∀ l : List NT, NT.bI T E l = l.flatMap (NT.fB T E)
 | [] => rfl
 | c :: cs => by rw [NT.bI, uf T E cs]; rfl
theorem jP (T E : Nat) (a b : List NT) : NT.bI T E (a ++ b) = NT.bI T E a ++ NT.bI T E b := by
 rw [uf, uf, uf, List.flatMap_append]
section
variable {w w1 : World} {base : Nat} {L : List Ck}
theorem DT {α : Type} {enc : α -> Value} {xs : List α} {inner : List Value} {n : Nat} (hr : gP (fun (x : α) (cs : List Value) => cs = [enc x]) 1 xs inner) : inner = encs enc xs := by
 apply List.ext_getElem?
 intro j
 rcases Nat.lt_or_ge j xs.length with hj | hj
 ·have h2 := hr.2 j _ (List.getElem?_eq_getElem hj)
  have hl : j < inner.length := by have := hr.1; omega
  have h3 : (inner.drop (j * 1)).take 1 = [enc xs[j]] := h2
  rw [Nat.mul_one, List.drop_eq_getElem_cons hl] at h3
  have h4 : inner[j] = enc xs[j] := by
   have h5 := congrArg List.head? h3
   rw [List.take_succ_cons] at h5
   exact Option.some.inj h5
  rw [List.getElem?_eq_getElem hl, h4]
  simp [encs, List.getElem?_eq_getElem hj]
 ·have h3 : inner.length = xs.length := by have := hr.1; omega
  rw [List.getElem?_eq_none (by omega), List.getElem?_eq_none (by rw [dD]; omega)]
def PQ (E : Nat) (w : World) (base : Nat) (v : Value) (ps : List Nat) : Prop := gL.Q E w base (fun _ => True) v ps
theorem DU {E : Nat} {v : Value} {ps : List Nat} (h : Ck.ok w base (.kT E v (encs bO ps))) : PQ E w base v ps := by
 refine ⟨fun _ _ => trivial, encs bO ps, ?_, Kd.bH ps⟩
 have h2 : kW w base E 1 v (encs bO ps).length (encs bO ps) := h
 rw [dD] at h2
 exact h2
theorem GI {E : Nat} {v : Value} {ps : List Nat} (h : PQ E w base v ps) : Ck.ok w base (.kT E v (encs bO ps)) := by
 obtain ⟨_, inner, ho, hr⟩ := h
 have e := DT (n := 0) (enc := bO) hr
 subst e
 show kW w base E 1 v (encs bO ps).length (encs bO ps)
 rw [dD]
 exact ho
theorem fu (l : List NT) : ptrs l = encs bO (l.map NT.p) := by unfold ptrs encs; rw [List.map_map]; rfl
theorem Sat.tail {c : Ck} (h : Sat w base (c :: L)) : Sat w base L := h.sub (List.sublist_cons_self _ _)
theorem KS {α β : Type} {f : α -> List β} : ∀ {l : List α} {x : α}, x ∈ l -> (f x).Sublist (l.flatMap f)
 | y :: l, x, h => by
  rw [List.flatMap_cons]
  rcases List.mem_cons.1 h with rfl | h
  ·exact List.sublist_append_left _ _
  ·exact (KS h).trans (List.sublist_append_right _ _)
theorem yV {T E : Nat} {l : List NT} (h : Sat w base (NT.bI T E l)) {i : Nat} {s : NT} (hs : l[i]? = some s) : Sat w base (s.fB T E) := by
 rw [uf] at h
 exact h.sub (KS (List.mem_of_getElem? hs))
theorem GJ {T E : Nat} : ∀ (n : Nat) (t : NT), SizeOf.sizeOf t <= n -> Sat w base (t.fB T E) -> Rd T w t.p t.erase
 | 0, t, h, _ => by cases t; simp at h
 | n + 1, .mk p kv vv cv keys vals kids, h, hs => by
  rw [NT.fB] at hs
  have hb := (hs.ok _ List.mem_cons_self).2
  obtain ⟨Ak, ck, e1, h1, hk⟩ := Kd.nE (P9 (hs.tail.ok _ List.mem_cons_self))
  obtain ⟨Av, cv', e2, h2, hv⟩ := Kd.nE (P9 (hs.tail.tail.ok _ List.mem_cons_self))
  have hq := hs.tail.tail.tail.ok _ List.mem_cons_self
  rw [fu] at hq
  obtain ⟨Ac, cc, e3, h3, hc⟩ := Kd.Qa (DU hq)
  subst e1; subst e2; subst e3
  rw [List.length_map] at h3 hc
  have hl : (NT.aD kids).length = kids.length := by rw [aN, List.length_map]
  refine .mk Ak ck Av cv' Ac cc (kids.map NT.p) (by rw [hl]; rw [List.length_map] at hb; exact hb) h1 h2 (by omega) hk hv (by rw [hl]; exact hc) (by rw [hl, List.length_map]) ?_
  intro i q s hq hs'
  rw [aN] at hs'
  rw [List.getElem?_map] at hq hs'
  obtain ⟨k, hk, rfl⟩ := Option.map_eq_some_iff.1 hq
  rw [hk] at hs'
  obtain rfl := Option.some.inj hs'
  refine GJ n k ?_ (yV hs.tail.tail.tail.tail hk)
  have := List.sizeOf_lt_of_mem (List.mem_of_getElem? hk)
  have h3 : SizeOf.sizeOf (NT.mk p (.slice Ak keys.length ck) (.slice Av vals.length cv') (.slice Ac (kids.map NT.p).length cc) keys vals kids) = 1 + SizeOf.sizeOf p + SizeOf.sizeOf (Value.slice Ak keys.length ck) + SizeOf.sizeOf (Value.slice Av vals.length cv') + SizeOf.sizeOf (Value.slice Ac (kids.map NT.p).length cc) + SizeOf.sizeOf keys + SizeOf.sizeOf vals + SizeOf.sizeOf kids := by simp
  omega
theorem pK {T E : Nat} {t : NT} (h : Sat w base (t.fB T E)) : Rd T w t.p t.erase := GJ _ t (Nat.le_refl _) h
theorem Sat.put {T p : Nat} {cs cs' : Array Value} (h : Sat w base (.box T p cs :: L)) (j : Nat) (u : Value) (e : cs.setIfInBounds j u = cs') : Sat (w.setCell ⟨p, j, none⟩ u) base (.box T p cs' :: L) := by
 have h1 := (h.ok _ List.mem_cons_self)
 refine Sat.frame (A := [.box T p cs]) (A' := [.box T p cs']) (R := L) (w := w) h (Sat.one ⟨h1.1, gY h1.2 j u e⟩) ((Kept.refl w _).setCell (.inl ⟨_, List.mem_singleton_self _, rfl⟩) u) ?_
 rintro k ⟨c, hc, hb⟩
 rw [List.mem_singleton.1 hc] at hb
 exact .inl ⟨_, List.mem_singleton_self _, hb⟩
theorem Sat.aag {T p : Nat} {a0 a1 a2 : Value} (h : Sat w base (.box T p #[a0, a1, a2] :: L)) (x0 x1 x2 : Value) :
  Sat (((w.setCell ⟨p, 0, none⟩ x0).setCell ⟨p, 1, none⟩ x1).setCell ⟨p, 2, none⟩ x2) base (.box T p #[x0, x1, x2] :: L) :=
 ((h.put 0 x0 (cs' := #[x0, a1, a2]) rfl).put 1 x1 (cs' := #[x0, x1, a2]) rfl).put 2 x2 rfl
theorem Sat.oQ {T g : Nat} {cs : Array Value} {W : World} (h : Sat W base L) (hg : g = W.heap.size) (aM : w1.heap[g]? = some (.cells cs T (0, 0))) (hb : Below W.heap.size W w1) (hbase : base <= W.heap.size) : Sat w1 base (.box T g cs :: L) := by
 refine Sat.add (A := [.box T g cs]) h (Kept.of_below hb _) (Sat.one ⟨by omega, aM⟩) ?_
 rintro k ⟨c, hc, hb⟩
 rw [List.mem_singleton.1 hc] at hb
 injection hb with hb
 omega
theorem Sat.XF (h : Sat w base L) (E : Nat) : Sat w base (.kT E (.slice none 0 0) [] :: L) := by
 have hq : Ck.ok w base (.kT E (.slice none 0 0) []) := GI (ps := []) (Kd.aah _ _ _ _ _)
 refine Sat.add (A := [.kT E (.slice none 0 0) []]) h (Kept.refl _ _) (Sat.one hq) ?_
 rintro k ⟨c, hc, hb⟩
 rw [List.mem_singleton.1 hc] at hb
 cases hb
theorem Sat.WX (h : Sat w base L) (i : Nat) {T p : Nat} {cs : Array Value} (hi : L[i]? = some (.box T p cs)) : w.heap[p]? = some (.cells cs T (0, 0)) := h.cell (List.mem_of_getElem? hi)
theorem Sat.z (h : Sat w base L) (i : Nat) {T p : Nat} {cs : Array Value} (hi : L[i]? = some (.box T p cs)) (j : Nat) : w.cell? ⟨p, j, none⟩ = cs[j]? := af (h.WX i hi) j
theorem Sat.f (h : Sat w base L) (i : Nat) {T p : Nat} {cs : Array Value} (hi : L[i]? = some (.box T p cs)) (j : Nat) : w.frozen? ⟨p, j, none⟩ = false := ax (h.WX i hi) j
end
open Go.Proofs.Ytoddejmlcnbdmaa.Fn
def ug (p : bE) : Bool := decide (4 < p.f0.length) || p.f1.length != p.f0.length || (p.f2.length != 0 && p.f2.length != p.f0.length + 1)
def fG (rd : Nat -> Option (PT × Nat)) : List Int -> Nat -> List PT -> Option (List PT × Nat)
 | [], next, acc => some (acc, next)
 | k :: ks, next, acc => if k ≠ (next : Int) then none else match rd next with
  | none => none
  | some r => fG rd ks r.2 (acc ++ [r.1])
def fin (p : bE) (o : Option (List PT × Nat)) : Option (PT × Nat) := o.map fun r => (.mk p.f0 p.f1 r.1, r.2)
def dJ (P : List bE) : Nat -> Nat -> Option (PT × Nat)
 | 0, _ => none
 | f + 1, at_ => if P.length <= at_ then none else if ug (P.getD at_ jG) then none else fin (P.getD at_ jG) (fG (dJ P f) (P.getD at_ jG).f2 (at_ + 1) [])
section
variable {rd : Nat -> Option (PT × Nat)} {p : bE} {l : List Int} {i next : Nat} {acc : List PT} {k : Int} {R : Option (PT × Nat)}
theorem yX {t : PT} {n : Nat} (h : R = fin p (fG rd (l.drop i) next acc)) (hk : l[i]? = some k) (e : k = (next : Int)) (hr : rd next = some (t, n)) : R = fin p (fG rd (l.drop (i + 1)) n (acc ++ [t])) := by
 rw [fF hk, fG, if_neg (by simp [e]), hr] at h
 exact h
theorem uN (h : R = fin p (fG rd (l.drop i) next acc)) (hk : l[i]? = some k) (e : k ≠ (next : Int)) : R = none := by
 rw [fF hk, fG, if_pos e] at h
 exact h
theorem uO (h : R = fin p (fG rd (l.drop i) next acc)) (hk : l[i]? = some k) (e : k = (next : Int)) (hr : rd next = none) : R = none := by
 rw [fF hk, fG, if_neg (by simp [e]), hr] at h
 exact h
theorem xg (h : R = fin p (fG rd (l.drop i) next acc)) (hi : l.length <= i) : R = some (.mk p.f0 p.f1 acc, next) := by
 rw [List.drop_eq_nil_of_le hi, fG] at h
 exact h
end
theorem Cn {P : List bE} {f at_ : Nat} (h : P.length <= at_) : dJ P f at_ = none := by
 cases f with
 | zero => rfl
 | succ f => rw [dJ, if_pos h]
theorem GK {P : List bE} {f at_ : Nat} (hb : ug (P.getD at_ jG) = true) : dJ P (f + 1) at_ = none := by
 rw [dJ]
 by_cases h : P.length <= at_
 ·rw [if_pos h]
 ·rw [if_neg h, if_pos hb]
theorem KT {P : List bE} {f at_ : Nat} (h : ¬ P.length <= at_) (hb : ug (P.getD at_ jG) = false) : dJ P (f + 1) at_ = fin (P.getD at_ jG) (fG (dJ P f) ((P.getD at_ jG).f2.drop 0) (at_ + 1) []) := by
 rw [dJ, if_neg h, if_neg (by rw [hb]; decide), List.drop_zero]
theorem KU {P : List bE} {rd : Nat -> Option (PT × Nat)} (hrd : ∀ at_ t n, rd at_ = some (t, n) -> at_ < n /\ n <= P.length) : ∀ (l : List Int) (next : Nat) (acc : List PT) (ts : List PT) (n : Nat), next <= P.length -> fG rd l next acc = some (ts, n) -> next <= n /\ n <= P.length
 | [], next, acc, ts, n, hl, h => by
  rw [fG] at h
  injection h with h
  injection h with h1 h2
  omega
 | k :: ks, next, acc, ts, n, hl, h => by
  rw [fG] at h
  split at h
  ·cases h
  ·cases hr : rd next with
   | none => rw [hr] at h; cases h
   | some r =>
    rw [hr] at h
    have h1 := hrd next r.1 r.2 hr
    have := KU hrd ks r.2 _ ts n h1.2 h
    omega
theorem lZ {P : List bE} : ∀ (f at_ : Nat) (t : PT) (n : Nat), dJ P f at_ = some (t, n) -> at_ < n /\ n <= P.length
 | 0, at_, t, n, h => by cases h
 | f + 1, at_, t, n, h => by
  rw [dJ] at h
  split at h
  ·cases h
  ·rename_i hl
   split at h
   ·cases h
   ·unfold fin at h
    obtain ⟨r, hr, e⟩ := Option.map_eq_some_iff.1 h
    injection e with e1 e2
    have := KU (P := P) (fun a t n h => lZ f a t n h) _ _ _ r.1 r.2 (by omega) hr
    omega
open Go.Proofs.Ytoddejmlcnbdmaa.Fn
theorem kN : Try.prog.underlying 94 = some (.slice 70) := by kernel_rfl
theorem yY : Try.prog.underlying 99 = some (.slice 74) := by kernel_rfl
theorem nG : (Try.prog.info? 70).map (fun i => (i.zero, i.size, i.bytes)) = some (some (.pointer none), 1, 8) := by kernel_rfl
theorem nH : (Try.prog.info? 74).map (fun i => (i.zero, i.size, i.bytes)) = some (some (.pointer none), 1, 8) := by kernel_rfl
theorem VE {a b : Nat} (h : a ≠ b) : ((a : Int) != (b : Int)) = true := by rw [bne_iff_ne]; omega
theorem Q4 {a b : Nat} (h : a = b) : ((a : Int) != (b : Int)) = false := by rw [bne_eq_false_iff_eq]; omega
theorem WY {a : Nat} (h : a ≠ 0) : ((a : Int) != 0) = true := by rw [bne_iff_ne]; omega
theorem aai {a : Nat} (h : a = 0) : ((a : Int) != 0) = false := by rw [bne_eq_false_iff_eq]; omega
theorem WZ {a b : Nat} (h : a ≠ b + 1) : ((a : Int) != (b : Int) + 1) = true := by rw [bne_iff_ne]; omega
theorem W9 {a b : Nat} (h : a = b + 1) : ((a : Int) != (b : Int) + 1) = false := by rw [bne_eq_false_iff_eq]; omega
theorem Co {a b : Nat} (h : a ≠ b) : (a != b) = true := by rw [bne_iff_ne]; omega
theorem yZ {a b : Nat} (h : a = b) : (a != b) = false := by rw [bne_eq_false_iff_eq]; omega
theorem Ja {α : Type} {d : Kd α} {e : Nat} {w : World} {base : Nat} {ok : Nat -> Prop} {v : Value} {xs : List α} (h : d.Q e w base ok v xs) : ∃ A n c, v = .slice A n c := by
 obtain ⟨A, c, rfl, _⟩ := Kd.y8 h
 exact ⟨A, _, c, rfl⟩
def LL (T E g : Nat) (v0 v1 cv : Value) (k v : List ByteArray) (X : List Ck) (acc : List NT) : List Ck :=
 .box T g #[v0, v1, cv] :: txt v0 k :: txt v1 v :: .kT E cv (ptrs acc) :: (X ++ NT.bI T E acc)
theorem GL (T E : Nat) (acc : List NT) (n : NT) : NT.bI T E (acc ++ [n]) = NT.bI T E acc ++ n.fB T E := by
 rw [jP]
 congr 1
 rw [NT.bI, NT.bI, List.append_nil]
section
variable {w w1 W : World} {base T E g : Nat} {v0 v1 cv cv' : Value} {k v : List ByteArray} {X L : List Ck} {acc : List NT} {n : NT}
theorem Sat.abX {x y : List Nat} {u u1 : Value} (i : Nat) (h : Sat W base L) (hi : L[i]? = some (.kT E u (encs bO x))) (ho : gL.Q E w1 base (fun _ => True) u1 y) (hg : W.grownBy w1 u.ownBlock) (hat : u1.ownBlock = u.ownBlock ∨ ∃ b, u1.ownBlock = some b /\ W.heap.size <= b) :
  Sat w1 base (L.set i (.kT E u1 (encs bO y))) := by
 obtain ⟨h1, h2⟩ := set_perm (y := Ck.kT E u1 (encs bO y)) hi
 have hf : Sat w1 base ([Ck.kT E u1 (encs bO y)] ++ L.eraseIdx i) := by
  refine Sat.frame (A := [.kT E u (encs bO x)]) (w := W) (h.perm h1) (Sat.one (GI ho)) ⟨hg.size, fun k hk hnot => hg.block k hk fun he => hnot ⟨_, List.mem_singleton_self _, he.symm⟩⟩ ?_
  rintro k ⟨c, hc, hb⟩
  rw [List.mem_singleton.1 hc] at hb
  have h3 : u1.ownBlock = some k := hb
  rcases hat with h4 | ⟨b, h4, h5⟩
  ·exact .inl ⟨_, List.mem_singleton_self _, by rw [h4] at h3; exact h3⟩
  ·rw [h4] at h3
   injection h3 with h3
   exact .inr (by omega)
 exact hf.perm h2.symm
theorem Sat.behind {A : List Ck} (h : Sat w base L) (hb : Below w.heap.size w w1) (hbase : base <= w.heap.size) (hn : Sat w1 w.heap.size A) : Sat w1 base (L ++ A) :=
 (h.add (Kept.of_below hb _) (hn.lower hbase) fun k hk => hn.ge hk).perm List.perm_append_comm
theorem SG (h : Sat w base (LL T E g v0 v1 cv k v X acc)) (hb : Below w.heap.size w w1) (hbase : base <= w.heap.size) (hn : Sat w1 w.heap.size (n.fB T E)) :
  Sat w1 base (Ck.box T g #[v0, v1, cv] :: txt v0 k :: txt v1 v :: .kT E cv (encs bO (acc.map NT.p)) :: (X ++ NT.bI T E (acc ++ [n]))) := by
 have h2 := h.behind hb hbase hn
 have e : LL T E g v0 v1 cv k v X acc ++ n.fB T E = Ck.box T g #[v0, v1, cv] :: txt v0 k :: txt v1 v :: .kT E cv (encs bO (acc.map NT.p)) :: (X ++ NT.bI T E (acc ++ [n])) := by
  rw [GL, <- fu]
  simp only [LL, List.cons_append, List.append_assoc]
 rw [e] at h2
 exact h2
theorem Sat.far (h : Sat w base L) {p : Addr} (hp : p.block < base) (u : Value) : Sat (w.setCell p u) base L := h.move fun k hk _ => Below.heap_setCell w p u k (by have := h.ge hk; omega)
theorem Sat.aaj {S : Nat -> Prop} (h : Sat w base L) (hk : Kept w w1 S) (hS : ∀ k, S k -> k < base) : Sat w1 base L := h.move fun k hb hlt => hk.2 k hlt fun hs => by have := h.ge hb; have := hS k hs; omega
theorem Qb {S : Nat -> Prop} (h : Sat w base (LL T E g v0 v1 cv k v X acc)) (hk : Kept w w1 S) (hS : ∀ k, S k -> k < base) (hbase : base <= w.heap.size) (hn : Sat w1 w.heap.size (n.fB T E)) :
  Sat w1 base (Ck.box T g #[v0, v1, cv] :: txt v0 k :: txt v1 v :: .kT E cv (encs bO (acc.map NT.p)) :: (X ++ NT.bI T E (acc ++ [n]))) := by
 have h1 := h.aaj hk hS
 have h2 : Sat w1 base (LL T E g v0 v1 cv k v X acc ++ n.fB T E) := by
  refine ⟨fun c hc => ?_, List.pairwise_append.2 ⟨h1.ap, (hn.lower hbase).ap, fun a ha b hb j e1 e2 => ?_⟩⟩
  ·rcases List.mem_append.1 hc with hc | hc
   ·exact h1.ok c hc
   ·exact (hn.lower hbase).ok c hc
  ·have := h.lt ⟨a, ha, e1⟩
   have := hn.ge ⟨b, hb, e2⟩
   omega
 have e : LL T E g v0 v1 cv k v X acc ++ n.fB T E = Ck.box T g #[v0, v1, cv] :: txt v0 k :: txt v1 v :: .kT E cv (encs bO (acc.map NT.p)) :: (X ++ NT.bI T E (acc ++ [n])) := by
  rw [GL, <- fu]
  simp only [LL, List.cons_append, List.append_assoc]
 rw [e] at h2
 exact h2
theorem Jb {x : Nat} (h : Sat W base (Ck.box T g #[v0, v1, cv] :: txt v0 k :: txt v1 v :: .kT E cv (encs bO (acc.map NT.p)) :: (X ++ NT.bI T E (acc ++ [n])))) (ho : gL.Q E w1 base (fun _ => True) cv' (acc.map NT.p ++ [n.p])) (hg : W.grownBy w1 cv.ownBlock) (hat : cv'.ownBlock = cv.ownBlock ∨ ∃ b, cv'.ownBlock = some b /\ W.heap.size <= b) :
  Sat w1 base (Ck.box T g #[v0, v1, cv] :: txt v0 k :: txt v1 v :: .kT E cv' (ptrs (acc ++ [n])) :: (X ++ NT.bI T E (acc ++ [n]))) := by
 have h2 := Sat.abX (E := E) 3 h rfl ho hg hat
 have e : encs bO (acc.map NT.p ++ [n.p]) = ptrs (acc ++ [n]) := by rw [fu, List.map_append]; rfl
 rw [e] at h2
 exact h2
theorem Jc (h : Sat w base (Ck.box T g #[v0, v1, cv] :: txt v0 k :: txt v1 v :: .kT E cv' (ptrs acc) :: (X ++ NT.bI T E acc))) : Sat (w.setCell ⟨g, 2, none⟩ cv') base (LL T E g v0 v1 cv' k v X acc) := h.put 2 cv' rfl
theorem Jd (h : Sat w base (LL T E g v0 v1 cv k v X acc)) : Sat w base ((NT.mk g v0 v1 cv k v acc).fB T E) := by
 rw [NT.fB]
 exact h.sub (((List.sublist_append_right X _).cons_cons _).cons_cons _ |>.cons_cons _ |>.cons_cons _)
theorem DV (h : Sat w base (Ck.box T g #[v0, v1, .slice none 0 0] :: (X ++ [txt v0 k, txt v1 v]))) : Sat w base (LL T E g v0 v1 (.slice none 0 0) k v X []) := by
 refine (h.XF E).perm ?_
 show List.Perm _ (Ck.box T g #[v0, v1, .slice none 0 0] :: txt v0 k :: txt v1 v :: .kT E (.slice none 0 0) [] :: (X ++ []))
 rw [List.append_nil]
 refine (List.Perm.swap _ _ _).trans (.cons _ ?_)
 have e1 : (X ++ [txt v0 k, txt v1 v]).Perm ([txt v0 k, txt v1 v] ++ X) := List.perm_append_comm
 refine (e1.cons _).trans ?_
 exact ((List.Perm.swap _ _ _).trans (.cons _ (.swap _ _ _)))
end
def Xa (T E : Nat) (w : World) (r : Option (PT × Nat)) (e : Ending) (w' : World) : Prop :=
 Below w.heap.size w w' /\ ((r = none /\ e = .returned (.tuple #[.pointer none, .int .i64 (-1)])) ∨
  ∃ (nt : NT) (n : Nat), r = some (nt.erase, n) /\ e = .returned (.tuple #[bO nt.p, .int .i64 (n : Int)]) /\ Sat w' w.heap.size (nt.fB T E))
def Xb (w0 w : World) (gb : Nat) (gs : Value) (r : Option (PT × Nat)) (e : Ending) (w' : World) : Prop :=
 Below w0.heap.size w0 w' /\ ((r = none /\ e = .returned (.tuple #[.pointer none, .bool false])) ∨
  ∃ (nt : NT) (n : Nat), r = some (nt.erase, n) /\ e = .returned (.tuple #[bO nt.p, .bool true]) /\ Sat w' w.heap.size (nt.fB 101 74) /\ Kept w w' (fun k => k = gb) /\ w'.heap[gb]? = some (.cells #[gs, .int .i64 (n : Int)] 121 (0, 0)))
open Go.Proofs.Ytoddejmlcnbdmaa.Fn
set_option maxHeartbeats 8000000
set_option maxRecDepth 100000
theorem GM {p : bE} (h : ug p = false) : p.f0.length <= 4 /\ p.f1.length = p.f0.length /\ (p.f2.length = 0 ∨ p.f2.length = p.f0.length + 1) := by
 unfold ug at h
 simp only [Bool.or_eq_false_iff, Bool.and_eq_false_iff, decide_eq_false_iff_not, bne_eq_false_iff_eq] at h
 omega
theorem pM.calls (P : List bE) (hN : P.length <= 1000000000000) : ∀ (f : Nat) (d : Int), d + (f : Int) = 11 -> 0 <= d -> ∀ (a : Nat) (A : Option Addr) (c : Nat) (w : World), Kd.C oP w A P.length P -> (∀ p ∈ P, p.f0.length <= 1000000000000 /\ p.f1.length <= 1000000000000 /\ p.f2.length <= 1000000000000) -> a <= P.length ->
  Calls Try.prog 95 #[.agg #[.slice A P.length c], .int .i64 (a : Int), .int .i64 d] w (Xa 96 70 w (dJ P f a)) := by
 intro f
 induction f with
 | zero =>
  intro d hd hd0 a A c w hp hm ha
  obtain rfl : d = 11 := by omega
  have HB := A_ (Below.refl w.heap.size w)
  have HS := A_ (Sat.nil w w.heap.size)
  clear hp
  by_cases h1 : P.length <= a
  ·have c1b := pF ((P.length : Int) <= (a : Int))
   have c1c : (P.length <= a) = True := eq_true h1
   clear h1 ha hm hd
   go_enter Try.func95, Try.ntmps95
   go_wp2_with (refine lY 3 #[.slice A P.length c] 29 ?_; intro b3 hg w1 aM hb; have az := A_ (Sat.oQ HS.out hg aM hb HB.out.size); have hb' := bA HB.out hb; have aG := A_ hb'; clear HS; clear HB; have HS := az; have HB := aG; clear az aG; have hz3 := HS.out.z 0 rfl 0; clear hg aM hb hb')
   go_ret2
   exact ⟨HB.out, .inl ⟨rfl, rfl⟩⟩
  ·have c1b := mZ ((P.length : Int) <= (a : Int))
   have c1c : (P.length <= a) = False := eq_false h1
   clear h1 ha hm hd
   go_enter Try.func95, Try.ntmps95
   go_wp2_with (refine lY 3 #[.slice A P.length c] 29 ?_; intro b3 hg w1 aM hb; have az := A_ (Sat.oQ HS.out hg aM hb HB.out.size); have hb' := bA HB.out hb; have aG := A_ hb'; clear HS; clear HB; have HS := az; have HB := aG; clear az aG; have hz3 := HS.out.z 0 rfl 0; clear hg aM hb hb')
   go_ret2
   exact ⟨HB.out, .inl ⟨rfl, rfl⟩⟩
 | succ f ih =>
  intro d hd hd0 a A c w hp hm ha
  have HB := A_ (Below.refl w.heap.size w)
  have HS := A_ (Sat.nil w w.heap.size)
  by_cases h1 : P.length <= a
  ·have c1b := pF ((P.length : Int) <= (a : Int))
   have c1c : (P.length <= a) = True := eq_true h1
   have HR := A_ (Cn (f := f + 1) h1)
   clear h1 ha hm hd hp
   go_enter Try.func95, Try.ntmps95
   go_wp2_with (refine lY 3 #[.slice A P.length c] 29 ?_; intro b3 hg w1 aM hb; have az := A_ (Sat.oQ HS.out hg aM hb HB.out.size); have hb' := bA HB.out hb; have aG := A_ hb'; clear HS; clear HB; have HS := az; have HB := aG; clear az aG; have hz3 := HS.out.z 0 rfl 0; clear hg aM hb hb')
   go_ret2
   exact ⟨HB.out, .inl ⟨HR.out, rfl⟩⟩
  ·have c1b := mZ ((P.length : Int) <= (a : Int))
   have c1c : (P.length <= a) = False := eq_false h1
   have c1e := dN (a < P.length)
   have c2b := mZ (10 < d)
   have hdl : d <= 10 := by omega
   have HD := A_ hd
   have HA := A_ h1
   have HP := A_ hp
   have HM := A_ hm
   have hal : a < P.length := by omega
   have YC : P.length <= 1000000000000 := hN
   have OI := hm _ (List.getElem_mem (l := P) hal)
   have hpg : P[a] = aJ P (a : Int) := by unfold aJ; rw [Int.toNat_natCast, List.getD_eq_getElem?_getD, List.getElem?_eq_getElem hal]; rfl
   have Ua : P.getD a jG = aJ P (a : Int) := by unfold aJ; rw [Int.toNat_natCast]
   rw [hpg] at OI
   obtain ⟨ad, A0, c0, A1, c1, A2, c2, hAA, hx0, hx1, hx2, hl0, hf0, hl1, hf1, hl2, hf2⟩ := jT hp (a : Int) (by omega) (by omega)
   subst hAA
   obtain ⟨R, hR⟩ : ∃ R, R = dJ P (f + 1) a := ⟨_, rfl⟩
   have hgo : ug (P.getD a jG) = false -> R = fin (P.getD a jG) (fG (dJ P f) ((P.getD a jG).f2.drop 0) (a + 1) []) := fun hb => hR.trans (KT (P := P) (f := f) h1 hb)
   have hbad : ug (P.getD a jG) = true -> R = none := fun hb => hR.trans (GK (P := P) (f := f) (at_ := a) hb)
   rw [Ua] at hgo hbad
   rw [<- hR]
   rw [Int.toNat_natCast] at hx0 hx1 hx2
   generalize aJ P (a : Int) = pg at *
   have HX0 := A_ hx0
   have YD := A_ hx1
   have YE := A_ hx2
   have Z0 := A_ hf0
   have HF1 := A_ hf1
   have HF2 := A_ hf2
   have OJ := A_ OI
   have HGO := A_ hgo
   have HBAD := A_ hbad
   clear h1 ha hm hd hp hl0 hf0 hl1 hf1 hl2 hf2 hx0 hx1 hx2 OI hgo hbad hpg Ua hal hR
   go_enter Try.func95, Try.ntmps95
   go_upto_region 4 with (first | (refine lY 3 #[.slice (some ad) P.length c] 29 ?_; intro b3 hg w1 aM hb; have az := A_ (Sat.oQ HS.out hg aM hb HB.out.size); have hb' := bA HB.out hb; have aG := A_ hb'; clear HS; clear HB; have HS := az; have HB := aG; clear az aG; have hx0 := (Below.cell hb' (World.block_lt_of_cell? w _ HX0.out)).trans HX0.out; have hx1 := (Below.cell hb' (World.block_lt_of_cell? w _ YD.out)).trans YD.out; have hx2 := (Below.cell hb' (World.block_lt_of_cell? w _ YE.out)).trans YE.out; have hz3 := HS.out.z 0 rfl 0; clear hg aM hb hb') | (refine lY 8 #[.slice none 0 0, .slice none 0 0, .slice none 0 0] 110 ?_; intro b8 hg w2 aM hb; have az := A_ (Sat.oQ HS.out hg aM hb HB.out.size); have hb' := bA HB.out hb; have aG := A_ hb'; clear HS; clear HB; have HS := az; have HB := aG; clear az aG; have J4 := HS.out.z 0 rfl 0; have J5 := HS.out.z 0 rfl 1; have BS := HS.out.z 0 rfl 2; have YF := HS.out.f 0 rfl 0; have YG := HS.out.f 0 rfl 1; have YH := HS.out.f 0 rfl 2; clear hg aM hb hb'))
   have az := A_ (Sat.aag HS.out (.slice A0 pg.f0.length c0) (.slice A1 pg.f1.length c1) (.slice A2 pg.f2.length c2))
   have aG : ae (Below w.heap.size w (((w2.setCell ⟨b8, 0, none⟩ (.slice A0 pg.f0.length c0)).setCell ⟨b8, 1, none⟩ (.slice A1 pg.f1.length c1)).setCell ⟨b8, 2, none⟩ (.slice A2 pg.f2.length c2))) := ⟨((HB.out.setCell (p := ⟨b8, 0, none⟩) (HS.out.ge ⟨_, List.mem_cons_self, rfl⟩) _).setCell (p := ⟨b8, 1, none⟩) (HS.out.ge ⟨_, List.mem_cons_self, rfl⟩) _).setCell (p := ⟨b8, 2, none⟩) (HS.out.ge ⟨_, List.mem_cons_self, rfl⟩) _⟩
   clear HS HB hx0 hx1 hx2 hz3 J4 J5 BS YF YG YH
   generalize ((w2.setCell ⟨b8, 0, none⟩ (.slice A0 pg.f0.length c0)).setCell ⟨b8, 1, none⟩ (.slice A1 pg.f1.length c1)).setCell ⟨b8, 2, none⟩ (.slice A2 pg.f2.length c2) = w3 at *
   have HS := A_ (az.out.perm (List.Perm.swap _ _ _))
   have HB := aG
   clear az aG
   refine dL (n := 11) (S := fun w' => w'.cell? ⟨b8, 0, none⟩ = some (.slice A0 pg.f0.length c0) /\ w'.cell? ⟨b8, 1, none⟩ = some (.slice A1 pg.f1.length c1)) (ds := []) (bt 11 0) (by kernel_rfl) rfl rfl ⟨(af (Sat.cell (Sat.drew HS.out) (List.mem_of_getElem? (i := 1) rfl)) 0).trans rfl, (af (Sat.cell (Sat.drew HS.out) (List.mem_of_getElem? (i := 1) rfl)) 1).trans rfl⟩ (fun hHeld => ?_)
   refine aQ 1 30 2 ?_
   refine aQ 5 34 34 ?_
   refine gF 2 31 38 hHeld ?_
   refine gF 6 35 102 hHeld ?_
   refine GN (σ := Value × Value × Value) 4 (bt 11 127) (fun z => [(29, z.1), (32, z.2.1), (33, z.2.2)]) (fun z w' => Below w.heap.size w w' /\ Sat w' w.heap.size [.box 29 b3 #[.slice (some ad) P.length c], .box 110 b8 #[.slice A0 pg.f0.length c0, .slice A1 pg.f1.length c1, .slice A2 pg.f2.length c2], txt z.2.1 pg.f0, txt z.2.2 []]) ?_ ?_
   rotate_left
   ·intro iW
    refine IX 0 4 (some 29) (some 33) 103 118 (fun K hK => ?_) (fun K hK => ?_)
    ·skip
     refine Kd.bB Kd.string (w0 := w) w.heap.size 9 (by rfl) (N := 29) rfl (xs := []) (inner := []) (ok := fun _ => True) (okp := fun _ => False) ?hr (gP.none _ _) (fun _ h => h.elim) trivial (aH HB.out) ((aH HB.out)).size (by simp) ?_
     (case hr => first | (go_simp; done) | (go_simp; rfl))
     intro e0 Ub dW hbb hgb hnb
     have oJ := A_ hbb
     have oL := A_ (Sat.lit (Sat.drew HS.out) dW hgb hnb)
     clear dW hbb hgb hnb
     refine hK.out _ _ ⟨(af (Sat.cell oL.out (List.mem_of_getElem? (i := 1) rfl)) 0).trans rfl, (af (Sat.cell oL.out (List.mem_of_getElem? (i := 1) rfl)) 1).trans rfl⟩ (fun hHeld => ?_)
     clear hK K
     refine fw 29 ?_
     refine IX 3 4 (some 32) (some 33) 111 119 (fun K hK => ?_) (fun K hK => ?_)
     ·skip
      refine Kd.aV Kd.string (w0 := w) w.heap.size (by rfl) (.tmp 29) (.tmp 31) 38 9 (.string ⟨#[]⟩) 16 rfl Try.underlying38 eU rfl (by decide) (by omega) e0 [] pg.f0 A0 pg.f0.length c0 (fun _ => True) (fun _ => False) rfl rfl (Sat.sr oL.out 2 rfl) (Kd.aA Z0.out oJ.out) (fun _ _ h => h) (fun _ h => h.elim) (fun _ _ => trivial) oJ.out (oJ.out).size (by have := OJ.out; simp only [List.length_nil]; omega) ?_
      intro v0 KF ho hb hg hat
      rw [List.nil_append] at ho
      have kE := A_ hb
      have jg := A_ (Sat.app 2 oL.out rfl ho hg hat)
      clear ho hb hg hat
      refine hK.out _ _ ⟨(af (Sat.cell jg.out (List.mem_of_getElem? (i := 1) rfl)) 0).trans rfl, (af (Sat.cell jg.out (List.mem_of_getElem? (i := 1) rfl)) 1).trans rfl⟩ (fun hHeld => ?_)
      clear hK K
      refine fw 32 ?_
      refine jm 4 (some 33) 127 (fun K hK => ?_)
      refine Kd.bB Kd.string (w0 := w) w.heap.size 9 (by rfl) (N := 33) rfl (xs := []) (inner := []) (ok := fun _ => True) (okp := fun _ => False) ?hr (gP.none _ _) (fun _ h => h.elim) trivial kE.out (kE.out).size (by simp) ?_
      (case hr => first | (go_simp; done) | (go_simp; rfl))
      intro e1 Gi dW hbb hgb hnb
      have lu := A_ hbb
      have iR := A_ (Sat.lit jg.out dW hgb hnb)
      clear dW hbb hgb hnb
      refine hK.out _ _ ⟨(af (Sat.cell iR.out (List.mem_of_getElem? (i := 1) rfl)) 0).trans rfl, (af (Sat.cell iR.out (List.mem_of_getElem? (i := 1) rfl)) 1).trans rfl⟩ (fun hHeld => ?_)
      clear hK K
      refine fw 33 ?_
      exact CL (iW ⟨e0, v0, e1⟩ _ ⟨lu.out, iR.out⟩)
     ·skip
      refine Kd.bB Kd.string (w0 := w) w.heap.size 9 (by rfl) (N := 33) rfl (xs := []) (inner := []) (ok := fun _ => True) (okp := fun _ => False) ?hr (gP.none _ _) (fun _ h => h.elim) trivial oJ.out (oJ.out).size (by simp) ?_
      (case hr => first | (go_simp; done) | (go_simp; rfl))
      intro e1 KF dW hbb hgb hnb
      have kE := A_ hbb
      have jg := A_ (Sat.lit oL.out dW hgb hnb)
      clear dW hbb hgb hnb
      refine hK.out _ _ ⟨(af (Sat.cell jg.out (List.mem_of_getElem? (i := 1) rfl)) 0).trans rfl, (af (Sat.cell jg.out (List.mem_of_getElem? (i := 1) rfl)) 1).trans rfl⟩ (fun hHeld => ?_)
      clear hK K
      refine fw 33 ?_
      refine jm 3 (some 32) 127 (fun K hK => ?_)
      refine Kd.aV Kd.string (w0 := w) w.heap.size (by rfl) (.tmp 29) (.tmp 31) 38 9 (.string ⟨#[]⟩) 16 rfl Try.underlying38 eU rfl (by decide) (by omega) e0 [] pg.f0 A0 pg.f0.length c0 (fun _ => True) (fun _ => False) rfl rfl (Sat.sr jg.out 2 rfl) (Kd.aA Z0.out kE.out) (fun _ _ h => h) (fun _ h => h.elim) (fun _ _ => trivial) kE.out (kE.out).size (by have := OJ.out; simp only [List.length_nil]; omega) ?_
      intro v0 Gi ho hb hg hat
      rw [List.nil_append] at ho
      have lu := A_ hb
      have iR := A_ (Sat.app 2 jg.out rfl ho hg hat)
      clear ho hb hg hat
      refine hK.out _ _ ⟨(af (Sat.cell iR.out (List.mem_of_getElem? (i := 1) rfl)) 0).trans rfl, (af (Sat.cell iR.out (List.mem_of_getElem? (i := 1) rfl)) 1).trans rfl⟩ (fun hHeld => ?_)
      clear hK K
      refine fw 32 ?_
      exact CL (iW ⟨e0, v0, e1⟩ _ ⟨lu.out, iR.out⟩)
    ·skip
     refine Kd.bB Kd.string (w0 := w) w.heap.size 9 (by rfl) (N := 33) rfl (xs := []) (inner := []) (ok := fun _ => True) (okp := fun _ => False) ?hr (gP.none _ _) (fun _ h => h.elim) trivial (aH HB.out) ((aH HB.out)).size (by simp) ?_
     (case hr => first | (go_simp; done) | (go_simp; rfl))
     intro e1 Ub dW hbb hgb hnb
     have oJ := A_ hbb
     have oL := A_ (Sat.lit (Sat.drew HS.out) dW hgb hnb)
     clear dW hbb hgb hnb
     refine hK.out _ _ ⟨(af (Sat.cell oL.out (List.mem_of_getElem? (i := 1) rfl)) 0).trans rfl, (af (Sat.cell oL.out (List.mem_of_getElem? (i := 1) rfl)) 1).trans rfl⟩ (fun hHeld => ?_)
     clear hK K
     refine fw 33 ?_
     refine jm 0 (some 29) 119 (fun K hK => ?_)
     refine Kd.bB Kd.string (w0 := w) w.heap.size 9 (by rfl) (N := 29) rfl (xs := []) (inner := []) (ok := fun _ => True) (okp := fun _ => False) ?hr (gP.none _ _) (fun _ h => h.elim) trivial oJ.out (oJ.out).size (by simp) ?_
     (case hr => first | (go_simp; done) | (go_simp; rfl))
     intro e0 KF dW hbb hgb hnb
     have kE := A_ hbb
     have jg := A_ (Sat.lit oL.out dW hgb hnb)
     clear dW hbb hgb hnb
     refine hK.out _ _ ⟨(af (Sat.cell jg.out (List.mem_of_getElem? (i := 1) rfl)) 0).trans rfl, (af (Sat.cell jg.out (List.mem_of_getElem? (i := 1) rfl)) 1).trans rfl⟩ (fun hHeld => ?_)
     clear hK K
     refine fw 29 ?_
     refine jm 3 (some 32) 127 (fun K hK => ?_)
     refine Kd.aV Kd.string (w0 := w) w.heap.size (by rfl) (.tmp 29) (.tmp 31) 38 9 (.string ⟨#[]⟩) 16 rfl Try.underlying38 eU rfl (by decide) (by omega) e0 [] pg.f0 A0 pg.f0.length c0 (fun _ => True) (fun _ => False) rfl rfl (Sat.sr jg.out 3 rfl) (Kd.aA Z0.out kE.out) (fun _ _ h => h) (fun _ h => h.elim) (fun _ _ => trivial) kE.out (kE.out).size (by have := OJ.out; simp only [List.length_nil]; omega) ?_
     intro v0 Gi ho hb hg hat
     rw [List.nil_append] at ho
     have lu := A_ hb
     have iR := A_ (Sat.app 3 jg.out rfl ho hg hat)
     clear ho hb hg hat
     refine hK.out _ _ ⟨(af (Sat.cell iR.out (List.mem_of_getElem? (i := 1) rfl)) 0).trans rfl, (af (Sat.cell iR.out (List.mem_of_getElem? (i := 1) rfl)) 1).trans rfl⟩ (fun hHeld => ?_)
     clear hK K
     refine fw 32 ?_
     exact CL (iW ⟨e0, v0, e1⟩ _ ⟨lu.out, Sat.perm iR.out (((List.Perm.swap _ _ _).cons _).cons _)⟩)
   rintro ⟨e0, v0, e1⟩ w5 ⟨hb, hs⟩
   obtain ⟨RP, RQ, rfl⟩ := Kd.au (Sat.sr hs 2 rfl)
   have hHeld : (w5.cell? ⟨b8, 0, none⟩ = some (.slice A0 pg.f0.length c0)) /\ (w5.cell? ⟨b8, 1, none⟩ = some (.slice A1 pg.f1.length c1)) := ⟨(af (Sat.cell hs (List.mem_of_getElem? (i := 1) rfl)) 0).trans rfl, (af (Sat.cell hs (List.mem_of_getElem? (i := 1) rfl)) 1).trans rfl⟩
   have Vj := A_ hb
   have Xm := A_ hs
   clear hb hs
   refine Cg (a' := ?_) ?_ ?_
   rotate_left
   ·simp only [sU, Act.put, List.setIfInBounds_toArray, List.set_cons_zero, List.set_cons_succ]
    rfl
   refine jm 7 (some 36) 255 (fun K hK => ?_)
   refine Kd.aV Kd.string (w0 := w) w.heap.size (by rfl) (.tmp 33) (.tmp 35) 38 9 (.string ⟨#[]⟩) 16 rfl Try.underlying38 eU rfl (by decide) (by omega) e1 [] pg.f1 A1 pg.f1.length c1 (fun _ => True) (fun _ => False) rfl rfl (Sat.sr Xm.out 3 rfl) (Kd.aA HF1.out Vj.out) (fun _ _ h => h) (fun _ h => h.elim) (fun _ _ => trivial) Vj.out Vj.out.size (by have := OJ.out; simp only [List.length_nil]; omega) ?_
   intro v1 w6 ho hb hg hat
   rw [List.nil_append] at ho
   obtain ⟨Bh, xW, rfl⟩ := Kd.au ho
   have az := A_ hb
   have aG := A_ (Sat.app 3 Xm.out rfl ho hg hat)
   clear ho hb hg hat Vj Xm
   have Vj := az
   have Xm := aG
   clear az aG
   refine hK.out _ _ ⟨(af (Sat.cell Xm.out (List.mem_of_getElem? (i := 1) rfl)) 0).trans rfl, (af (Sat.cell Xm.out (List.mem_of_getElem? (i := 1) rfl)) 1).trans rfl⟩ (fun hHeld => ?_)
   clear hK K
   refine fw 36 ?_
   refine aQ 8 37 511 ?_
   refine jm 9 (some 38) 1023 (fun K hK => ?_)
   refine y9 (by rfl) (N := 38) rfl (cs := #[.slice RP pg.f0.length RQ, .slice Bh pg.f1.length xW, .slice none 0 0]) (t := 96) ?hr ?_
   (case hr => first | (go_simp; done) | (go_simp; rfl))
   intro g hg w7 aM hb
   have HS7 := A_ (Sat.oQ Xm.out hg aM hb (by have := Vj.out.size; omega))
   have HB7 := A_ (bA Vj.out hb)
   clear hg aM hb Xm Vj
   refine hK.out _ _ ⟨(af (Sat.cell HS7.out (List.mem_of_getElem? (i := 2) rfl)) 0).trans rfl, (af (Sat.cell HS7.out (List.mem_of_getElem? (i := 2) rfl)) 1).trans rfl⟩ (fun hHeld => ?_)
   clear hK K
   refine fw 38 ?_
   refine aQ 10 9 2047 ?_
   refine fA (by kernel_rfl) ?_
   have HS := A_ (DV (E := 70) (X := [.box 29 b3 #[.slice (some ad) P.length c], .box 110 b8 #[.slice A0 pg.f0.length c0, .slice A1 pg.f1.length c1, .slice A2 pg.f2.length c2]]) HS7.out)
   have HB := HB7
   clear HS7 HB7 hHeld
   have hz3 := HS.out.z 4 rfl 0
   have J4 := HS.out.z 5 rfl 0
   have J5 := HS.out.z 5 rfl 1
   have BS := HS.out.z 5 rfl 2
   cases hbd : ug pg with
   | true =>
    have HR := A_ (HBAD.out hbd)
    have hb1 : 4 < pg.f0.length ∨ pg.f1.length ≠ pg.f0.length ∨ (pg.f2.length ≠ 0 /\ pg.f2.length ≠ pg.f0.length + 1) := by
     unfold ug at hbd
     simp only [Bool.or_eq_true, Bool.and_eq_true, decide_eq_true_eq, bne_iff_ne] at hbd
     omega
    by_cases q1 : 4 < pg.f0.length
    ·have t1 := pF (4 < (pg.f0.length : Int))
     have t1b : (4 < pg.f0.length) = True := eq_true q1
     clear q1 hb1 hbd
     go_wp2
     go_ret2
     exact ⟨HB.out, .inl ⟨HR.out, rfl⟩⟩
    ·have t1 := mZ (4 < (pg.f0.length : Int))
     have t1b : (4 < pg.f0.length) = False := eq_false q1
     by_cases q2 : pg.f1.length = pg.f0.length
     ·have q3 : pg.f2.length ≠ 0 /\ pg.f2.length ≠ pg.f0.length + 1 := by omega
      have t2 : ((pg.f1.length : Int) != (pg.f0.length : Int)) = false := Q4 (by omega)
      have t3 : ((pg.f2.length : Int) != 0) = true := WY (by omega)
      have t4 : ((pg.f2.length : Int) != (pg.f0.length : Int) + 1) = true := WZ (by omega)
      have t2b : (pg.f1.length != pg.f0.length) = false := yZ (by omega)
      have Z4 : (pg.f2.length != 0) = true := Co (by omega)
      have YI : (pg.f2.length != pg.f0.length + 1) = true := Co (by omega)
      have m0 : pg.f0.length <= 4 := by omega
      clear q1 q2 q3 hb1 hbd
      go_wp2
      go_ret2
      exact ⟨HB.out, .inl ⟨HR.out, rfl⟩⟩
     ·have t2 : ((pg.f1.length : Int) != (pg.f0.length : Int)) = true := VE (by omega)
      have t2b : (pg.f1.length != pg.f0.length) = true := Co (by omega)
      clear q1 q2 hb1 hbd
      go_wp2
      go_ret2
      exact ⟨HB.out, .inl ⟨HR.out, rfl⟩⟩
   | false =>
    obtain ⟨q1, q2, q3⟩ := GM hbd
    have HR := A_ (HGO.out hbd)
    have t1 := mZ (4 < (pg.f0.length : Int))
    have t1b : (4 < pg.f0.length) = False := eq_false (by omega)
    have t2 : ((pg.f1.length : Int) != (pg.f0.length : Int)) = false := Q4 (by omega)
    have t2b : (pg.f1.length != pg.f0.length) = false := yZ (by omega)
    have m0 : pg.f0.length <= 4 := by omega
    have ET := A_ (show a + 1 <= P.length by have := HA.out; omega)
    have ham : a < 1000000000000 := by have := HA.out; omega
    have WC := A_ (show pg.f2.length <= 5 by omega)
    by_cases q4 : pg.f2.length = 0
    ·have t3 : ((pg.f2.length : Int) != 0) = false := aai (by omega)
     have Z4 : (pg.f2.length != 0) = false := yZ (by omega)
     clear q1 q2 q3 q4 hbd
     go_upto_region 9 with fail
     go_loopg [10, 73] pg.f2.length (fun kq Z5 u73 w' => ∃ (i next : Nat) (acc : List NT) (cv : Value), Z5 = .int .i64 (next : Int) /\ u73 = .int .i64 (i : Int) /\ ae (kq + i = pg.f2.length) /\ ae (acc.length = i) /\ ae (R = fin pg (fG (dJ P f) (pg.f2.drop i) next (acc.map NT.erase))) /\ ae (next <= P.length) /\ ae (Sat w' w.heap.size (LL 96 70 g (.slice RP pg.f0.length RQ) (.slice Bh pg.f1.length xW) cv pg.f0 pg.f1 [.box 29 b3 #[.slice (some ad) P.length c], .box 110 b8 #[.slice A0 pg.f0.length c0, .slice A1 pg.f1.length c1, .slice A2 pg.f2.length c2]] acc)) /\ ae (Below w.heap.size w w'))
     case atStart => exact ⟨0, a + 1, [], .slice none 0 0, by first | rfl | go_num | (simp; done), by first | rfl | (simp; done), ⟨Nat.add_zero _⟩, ⟨rfl⟩, HR, ET, HS, HB⟩
     case round =>
      clear HR HS HB hz3 J4 J5 BS ET
      obtain ⟨i, next, acc, cv, rfl, rfl, HK, Uc, HR, Gj, HS, HB⟩ := hrel
      have hz3 := HS.out.z 4 rfl 0
      have ci := dN (0 <= (i : Int))
      by_cases hi : i < pg.f2.length
      ·have ce := pF ((i : Int) < (pg.f2.length : Int))
       have BU : (i < pg.f2.length) = True := eq_true hi
       have hi5 : i <= 5 := by have := WC.out; omega
       have YJ := A_ hi5
       have HI := A_ hi
       have hnx : next <= 1000000000000 := Nat.le_trans Gj.out YC
       obtain ⟨ad2, hA2, hk0⟩ := Kd.rq HF2.out (i : Int) (by omega) (by omega)
       subst hA2
       rw [Int.toNat_natCast] at hk0
       have hks : pg.f2[i]? = some (rd pg.f2 (i : Int)) := by unfold rd; rw [Int.toNat_natCast, List.getD_eq_getElem?_getD, List.getElem?_eq_getElem hi]; rfl
       generalize rd pg.f2 (i : Int) = k at hk0 hks
       have hkz := (Below.cell HB.out (World.block_lt_of_cell? w _ hk0)).trans hk0
       have jl := A_ hks
       clear hk0 hks hi
       by_cases hkn : k = (next : Int)
       ·subst hkn
        cases hrs : dJ P f next with
        | none =>
         have uB := A_ hrs
         have HE := A_ (uO HR.out jl.out rfl hrs)
         have tm : decide ((-1 : Int) < 0) = true := by decide
         clear hrs
         go_wp2_with (go_at_call 95; (with_reducible refine (ih (d + 1) (by have := HD.out; omega) (by omega) next (some ad) c _ (Kd.aA HP.out HB.out) HM.out Gj.out).mono ?_); rintro e w5 ⟨hb, hr⟩; rw [uB.out] at hr; obtain ⟨-, rfl⟩ := hr.resolve_right (by rintro ⟨_, _, h, _⟩; cases h); have aG := A_ (bA HB.out hb); clear HB; have HB := aG; clear aG hb hr)
         go_ret2
         exact ⟨HB.out, .inl ⟨HE.out, rfl⟩⟩
        | some tn =>
         obtain ⟨t, n⟩ := tn
         have uB := A_ hrs
         have Gl := A_ (lZ f next t n hrs)
         have HE := A_ (yX HR.out jl.out rfl hrs)
         have tn0 := mZ ((n : Int) < 0)
         clear hrs
         go_wp2_with (first | (go_at_call 95; (with_reducible refine (ih (d + 1) (by have := HD.out; omega) (by omega) next (some ad) c _ (Kd.aA HP.out HB.out) HM.out Gj.out).mono ?_); rintro e w5 ⟨hb, hr⟩; rw [uB.out] at hr; obtain ⟨nt, n9, h9, rfl, hs⟩ := hr.resolve_left (by rintro ⟨h, _⟩; cases h); injection h9 with h9; injection h9 with h9 h8; subst h9; subst h8; have az := A_ (SG HS.out hb HB.out.size hs); have aG := A_ (bA HB.out hb); clear HS; clear HB; have HS := az; have HB := aG; clear az aG; have hz9 := HS.out.z 0 rfl 2; clear hb hr hs) | ((with_reducible refine di (b := .append) (xs := #[.tmp 94, .tmp 96]) rfl ?_); at_builtin; refine Kd.za gL (w0 := w) w.heap.size rfl (.tmp 94) (.tmp 96) 94 70 (.pointer none) 8 rfl kN nG rfl (by decide) (by omega) cv (acc.map NT.p) nt.p [bO nt.p] (fun _ => True) (fun _ => False) rfl rfl ?aP (fun _ h => h.elim) ?aF ?aO ?aB ?aS ?aL ?_; (case aP => exact rfl); (case aB => exact HB.out); (case aF => exact fun _ _ => trivial); (case aO => exact DU (HS.out.ok _ (List.mem_of_getElem? (i := 3) rfl))); (case aS => exact HB.out.size); (case aL => rw [List.length_map]; have := Uc.out; have := YJ.out; omega); intro cv' w6 ho hb hg hat; obtain ⟨Aq, nq, cq, rfl⟩ := Ja ho; have az := A_ (Jb (x := 0) HS.out ho hg hat); have aG := A_ hb; clear HS; clear HB; have HS := az; have HB := aG; clear az aG; have YK := HS.out.z 0 rfl 2; have YL := HS.out.f 0 rfl 2; clear ho hb hg hat))
         go_roundg (pg.f2.length - (i + 1))
         case measure => have := HK.out; have := HI.out; omega
         case rel => exact ⟨i + 1, n, acc ++ [nt], .slice Aq nq cq, by first | rfl | go_num | (simp; done), by first | rfl | go_num | (simp; done), ⟨by have := HK.out; have := HI.out; omega⟩, ⟨by rw [List.length_append, Uc.out]; rfl⟩, ⟨by rw [List.map_append]; exact HE.out⟩, ⟨Gl.out.2⟩, ⟨Jc HS.out⟩, ⟨HB.out.setCell (p := ⟨g, 2, none⟩) (HS.out.ge ⟨_, List.mem_cons_self, rfl⟩) _⟩⟩
       ·have HE := A_ (uN HR.out jl.out hkn)
        have tk : (k != (next : Int)) = true := bne_iff_ne.2 hkn
        clear hkn
        go_wp2
        go_ret2
        exact ⟨HB.out, .inl ⟨HE.out, rfl⟩⟩
      ·have ce := mZ ((i : Int) < (pg.f2.length : Int))
       have BU : (i < pg.f2.length) = False := eq_false hi
       have HE := A_ (xg HR.out (by omega))
       clear hi
       go_wp2
       go_ret2
       exact ⟨HB.out, .inr ⟨.mk g (.slice RP pg.f0.length RQ) (.slice Bh pg.f1.length xW) cv pg.f0 pg.f1 acc, next, by rw [HE.out, NT.erase, aN], rfl, Jd HS.out⟩⟩
    ·have t3 : ((pg.f2.length : Int) != 0) = true := WY (by omega)
     have Z4 : (pg.f2.length != 0) = true := Co (by omega)
     have t4 : ((pg.f2.length : Int) != (pg.f0.length : Int) + 1) = false := W9 (by omega)
     have YI : (pg.f2.length != pg.f0.length + 1) = false := yZ (by omega)
     clear q1 q2 q3 q4 hbd
     go_upto_region 9 with fail
     go_loopg [10, 73] pg.f2.length (fun kq Z5 u73 w' => ∃ (i next : Nat) (acc : List NT) (cv : Value), Z5 = .int .i64 (next : Int) /\ u73 = .int .i64 (i : Int) /\ ae (kq + i = pg.f2.length) /\ ae (acc.length = i) /\ ae (R = fin pg (fG (dJ P f) (pg.f2.drop i) next (acc.map NT.erase))) /\ ae (next <= P.length) /\ ae (Sat w' w.heap.size (LL 96 70 g (.slice RP pg.f0.length RQ) (.slice Bh pg.f1.length xW) cv pg.f0 pg.f1 [.box 29 b3 #[.slice (some ad) P.length c], .box 110 b8 #[.slice A0 pg.f0.length c0, .slice A1 pg.f1.length c1, .slice A2 pg.f2.length c2]] acc)) /\ ae (Below w.heap.size w w'))
     case atStart => exact ⟨0, a + 1, [], .slice none 0 0, by first | rfl | go_num | (simp; done), by first | rfl | (simp; done), ⟨Nat.add_zero _⟩, ⟨rfl⟩, HR, ET, HS, HB⟩
     case round =>
      clear HR HS HB hz3 J4 J5 BS ET
      obtain ⟨i, next, acc, cv, rfl, rfl, HK, Uc, HR, Gj, HS, HB⟩ := hrel
      have hz3 := HS.out.z 4 rfl 0
      have ci := dN (0 <= (i : Int))
      by_cases hi : i < pg.f2.length
      ·have ce := pF ((i : Int) < (pg.f2.length : Int))
       have BU : (i < pg.f2.length) = True := eq_true hi
       have hi5 : i <= 5 := by have := WC.out; omega
       have YJ := A_ hi5
       have HI := A_ hi
       have hnx : next <= 1000000000000 := Nat.le_trans Gj.out YC
       obtain ⟨ad2, hA2, hk0⟩ := Kd.rq HF2.out (i : Int) (by omega) (by omega)
       subst hA2
       rw [Int.toNat_natCast] at hk0
       have hks : pg.f2[i]? = some (rd pg.f2 (i : Int)) := by unfold rd; rw [Int.toNat_natCast, List.getD_eq_getElem?_getD, List.getElem?_eq_getElem hi]; rfl
       generalize rd pg.f2 (i : Int) = k at hk0 hks
       have hkz := (Below.cell HB.out (World.block_lt_of_cell? w _ hk0)).trans hk0
       have jl := A_ hks
       clear hk0 hks hi
       by_cases hkn : k = (next : Int)
       ·subst hkn
        cases hrs : dJ P f next with
        | none =>
         have uB := A_ hrs
         have HE := A_ (uO HR.out jl.out rfl hrs)
         have tm : decide ((-1 : Int) < 0) = true := by decide
         clear hrs
         go_wp2_with (go_at_call 95; (with_reducible refine (ih (d + 1) (by have := HD.out; omega) (by omega) next (some ad) c _ (Kd.aA HP.out HB.out) HM.out Gj.out).mono ?_); rintro e w5 ⟨hb, hr⟩; rw [uB.out] at hr; obtain ⟨-, rfl⟩ := hr.resolve_right (by rintro ⟨_, _, h, _⟩; cases h); have aG := A_ (bA HB.out hb); clear HB; have HB := aG; clear aG hb hr)
         go_ret2
         exact ⟨HB.out, .inl ⟨HE.out, rfl⟩⟩
        | some tn =>
         obtain ⟨t, n⟩ := tn
         have uB := A_ hrs
         have Gl := A_ (lZ f next t n hrs)
         have HE := A_ (yX HR.out jl.out rfl hrs)
         have tn0 := mZ ((n : Int) < 0)
         clear hrs
         go_wp2_with (first | (go_at_call 95; (with_reducible refine (ih (d + 1) (by have := HD.out; omega) (by omega) next (some ad) c _ (Kd.aA HP.out HB.out) HM.out Gj.out).mono ?_); rintro e w5 ⟨hb, hr⟩; rw [uB.out] at hr; obtain ⟨nt, n9, h9, rfl, hs⟩ := hr.resolve_left (by rintro ⟨h, _⟩; cases h); injection h9 with h9; injection h9 with h9 h8; subst h9; subst h8; have az := A_ (SG HS.out hb HB.out.size hs); have aG := A_ (bA HB.out hb); clear HS; clear HB; have HS := az; have HB := aG; clear az aG; have hz9 := HS.out.z 0 rfl 2; clear hb hr hs) | ((with_reducible refine di (b := .append) (xs := #[.tmp 94, .tmp 96]) rfl ?_); at_builtin; refine Kd.za gL (w0 := w) w.heap.size rfl (.tmp 94) (.tmp 96) 94 70 (.pointer none) 8 rfl kN nG rfl (by decide) (by omega) cv (acc.map NT.p) nt.p [bO nt.p] (fun _ => True) (fun _ => False) rfl rfl ?aP (fun _ h => h.elim) ?aF ?aO ?aB ?aS ?aL ?_; (case aP => exact rfl); (case aB => exact HB.out); (case aF => exact fun _ _ => trivial); (case aO => exact DU (HS.out.ok _ (List.mem_of_getElem? (i := 3) rfl))); (case aS => exact HB.out.size); (case aL => rw [List.length_map]; have := Uc.out; have := YJ.out; omega); intro cv' w6 ho hb hg hat; obtain ⟨Aq, nq, cq, rfl⟩ := Ja ho; have az := A_ (Jb (x := 0) HS.out ho hg hat); have aG := A_ hb; clear HS; clear HB; have HS := az; have HB := aG; clear az aG; have YK := HS.out.z 0 rfl 2; have YL := HS.out.f 0 rfl 2; clear ho hb hg hat))
         go_roundg (pg.f2.length - (i + 1))
         case measure => have := HK.out; have := HI.out; omega
         case rel => exact ⟨i + 1, n, acc ++ [nt], .slice Aq nq cq, by first | rfl | go_num | (simp; done), by first | rfl | go_num | (simp; done), ⟨by have := HK.out; have := HI.out; omega⟩, ⟨by rw [List.length_append, Uc.out]; rfl⟩, ⟨by rw [List.map_append]; exact HE.out⟩, ⟨Gl.out.2⟩, ⟨Jc HS.out⟩, ⟨HB.out.setCell (p := ⟨g, 2, none⟩) (HS.out.ge ⟨_, List.mem_cons_self, rfl⟩) _⟩⟩
       ·have HE := A_ (uN HR.out jl.out hkn)
        have tk : (k != (next : Int)) = true := bne_iff_ne.2 hkn
        clear hkn
        go_wp2
        go_ret2
        exact ⟨HB.out, .inl ⟨HE.out, rfl⟩⟩
      ·have ce := mZ ((i : Int) < (pg.f2.length : Int))
       have BU : (i < pg.f2.length) = False := eq_false hi
       have HE := A_ (xg HR.out (by omega))
       clear hi
       go_wp2
       go_ret2
       exact ⟨HB.out, .inr ⟨.mk g (.slice RP pg.f0.length RQ) (.slice Bh pg.f1.length xW) cv pg.f0 pg.f1 acc, next, by rw [HE.out, NT.erase, aN], rfl, Jd HS.out⟩⟩
end Go.Proofs.Ytoddejmlcnbdmaa.Tree
namespace Go.Proofs.Ytoddejmlcnbdmaa.Fn
def bn.f (l0 : List ByteArray) : Option (List ByteArray) := (some (([] : List ByteArray) : List ByteArray)).bind fun EU => (if EU.length + l0.length < 8796093022208 then (some (EU ++ l0)) else (none))
theorem bn.abY (w : World) (a : Option Addr) (n c : Nat) : (binOp .eql 38 (.slice a n c) (.slice none 0 0)).run Try.prog w = .ok (.bool a.isNone) w := Go.Proofs.Ytoddejmlcnbdmaa.Gen.VA w _ _ a n c Try.underlying38
attribute [local go_sem] bn.abY
theorem bn.calls (A0 : Option Addr) (c0 : Nat) (l0 : List ByteArray) (r : List ByteArray) (w : World) (hr0 : Kd.C Kd.string w A0 l0.length l0) (hc0 : l0.length <= c0) (h : bn.f l0 = some r) :
  Calls Try.prog 74 #[.slice A0 l0.length c0] w fun e w' => ∃ kI : Value, e = .returned (kI) /\ Kd.R Kd.string 9 w' w.heap.size (fun _ => True) kI r /\ Below w.heap.size w w' := by
 have jf := A_ hr0
 have nQ := A_ hc0
 clear hr0 hc0
 have HB := A_ (Below.refl w.heap.size w)
 have H : ((some (([] : List ByteArray) : List ByteArray)).bind fun EU => (if EU.length + l0.length < 8796093022208 then (some (EU ++ l0)) else (none))) = some r := h
 clear h
 obtain ⟨EU, Mj⟩ : ∃ y_ : List ByteArray, y_ = (([] : List ByteArray)) := ⟨_, rfl⟩
 replace H : (if EU.length + l0.length < 8796093022208 then (some (EU ++ l0)) else (none)) = some r := by first | (rw [Mj]; with_reducible exact H) | (have iE := (Option.bind_some _ _).symm.trans H; rw [Mj]; with_reducible exact iE) | (have iE := (Option.bind_some _ _).symm.trans H; with_reducible exact iE) | with_reducible exact H | (rw [Mj]; exact H) | exact H
 have Ud := A_ Mj
 clear Mj
 by_cases c2 : EU.length + l0.length < 8796093022208
 ·rw [if_pos c2] at H
  have LMc2 := A_ c2
  clear c2
  obtain ⟨y182, Mk⟩ : ∃ y_ : List ByteArray, y_ = (EU ++ l0) := ⟨_, rfl⟩
  replace H : (some y182) = some r := by first | (rw [Mk]; with_reducible exact H) | (have iE := (Option.bind_some _ _).symm.trans H; rw [Mk]; with_reducible exact iE) | (have iE := (Option.bind_some _ _).symm.trans H; with_reducible exact iE) | with_reducible exact H | (rw [Mk]; exact H) | exact H
  have Ny182 := A_ Mk
  clear Mk
  obtain rfl := Option.some.inj H
  rcases A0 with _ | ad_
  ·have e0_ : l0 = [] := by
    rcases Nat.eq_zero_or_pos l0.length with h_ | h_
    ·exact List.length_eq_zero_iff.1 h_
    ·obtain ⟨_, _, hz_⟩ := jf.out
     obtain ⟨ad_, hz_, _⟩ := hz_ h_
     cases hz_
   subst e0_
   have Yo : y182 = [] := by rw [Ny182.out, Ud.out]; rfl
   subst Yo
   go_enter Try.func74, Try.ntmps74
   go_wp2
   go_ret
   exact ⟨_, rfl, Kd.yR _ _ _ _ _, HB.out⟩
  go_enter Try.func74, Try.ntmps74
  go_wp2_with (first | ((with_reducible refine kV (N := 5) rfl ?_); refine Kd.Ch Kd.string _ 9 ?hg (N := 5) ?hd (xs := ([] : List ByteArray)) (inner := []) (ok := fun _ => True) (okp := fun _ => True) ?hr ?hp (fun _ hk => hk) trivial (Below.refl _ _) (Nat.le_refl _) (by simp) ?_; (case hd => rfl); (case hg => rfl); (case hr => first | (go_simp; done) | (go_simp; rfl)); (case hp => exact (gP.none _ _)); intro v180 w3 yN hb LY pW; clear LY pW; (first | rw [<- Ud.out] at yN | (simp only [Int.reduceToNat] at yN; rw [<- Ud.out] at yN)); have HO181 := A_ (Kd.iC yN (iU HB.out)); replace HB := A_ (jO HB.out hb); clear hb yN) | ((with_reducible refine di (b := .append) (xs := #[.tmp 5, .tmp 6]) rfl ?_); at_builtin; refine Kd.fU Kd.string (w0 := w) w.heap.size rfl (.tmp 5) (.tmp 6) 38 9 (.string ⟨#[]⟩) 16 rfl Try.underlying38 eU rfl (by decide) (by omega) v180 EU l0 _ _ _ (fun _ => True) (fun _ => False) rfl rfl ?aO ?aR (fun _ _ h => h) (fun _ h => h.elim) ?aF ?aB ?aS ?aL ?_; (case aR => refine lH ?_; exact (Kd.aA jf.out HB.out)); (case aB => exact (ko HB.out)); (case aF => exact (fun _ _ => trivial)); (case aO => exact (qU HO181.out)); (case aS => exact (iU HB.out)); (case aL => have := LMc2.out; omega); intro v183 w5 ho hb hg hat; rw [<- Ny182.out] at ho; have ES := A_ (hb); have az := A_ (ho); clear HB; clear HO181; have HB := ES; have HO184 := az; clear ES az; clear ho hb hg hat))
  go_ret
  exact ⟨_, vE, by (with_reducible repeat (first | apply Kd.jR | apply Kd.jS | apply Kd.mI)); exact HO184.out, by repeat (first | (with_reducible first | exact HB.out | apply aK | apply ah | apply aT) | exact HB.out)⟩
 ·rw [if_neg c2] at H
  exact absurd H (by simp)
end Go.Proofs.Ytoddejmlcnbdmaa.Fn
namespace Go.Proofs.Ytoddejmlcnbdmaa.Tree
open Go.Proofs.Ytoddejmlcnbdmaa.Fn
set_option maxHeartbeats 8000000
set_option maxRecDepth 100000
theorem ru {l : List ByteArray} (h : l.length < 8796093022208) : bn.f l = some l := by
 unfold bn.f
 simp only [Option.bind_some, List.length_nil, Nat.zero_add]
 rw [if_pos h]
 rfl
theorem Sat.gQ {W w1 : World} {base : Nat} {L : List Ck} {v : Value} {l : List ByteArray} (h : Sat W base L) (ho : Kd.string.R 9 w1 W.heap.size (fun _ => True) v l) (hb : Below W.heap.size W w1) (hbase : base <= W.heap.size) : Sat w1 base (L ++ [txt v l]) :=
 h.behind hb hbase (Sat.one (yU ho))
theorem mE {w : World} {g : Nat} {o : Obj} (h : w.heap[g]? = some o) {p : Addr} (hp : g ≠ p.block) (u : Value) : (w.setCell p u).heap[g]? = some o := (Below.heap_setCell w p u g hp).trans h
theorem oU.calls (P : List bE) (hN : P.length <= 1000000000000) (w0 : World) (A : Option Addr) (c : Nat) (hp : Kd.C oP w0 A P.length P) (hm : ∀ p ∈ P, p.f0.length <= 1000000000000 /\ p.f1.length <= 1000000000000 /\ p.f2.length <= 1000000000000) : ∀ (f next : Nat), P.length < next + f -> next <= P.length -> ∀ (gb : Nat) (w : World), Below w0.heap.size w0 w -> w0.heap.size <= gb -> w.heap[gb]? = some (.cells #[.slice A P.length c, .int .i64 (next : Int)] 121 (0, 0)) ->
  Calls Try.prog 97 #[bO gb] w (Xb w0 w gb (.slice A P.length c) (dJ P f next)) := by
 intro f
 induction f with
 | zero =>
  intro next hf hn
  omega
 | succ f ih =>
  intro next hf hn gb w hb hgb hg
  have HB := A_ hb
  have HG := A_ hg
  have IE := A_ hgb
  have RS := A_ (dh hg)
  have hz0 := (af hg 0).trans rfl
  have hz1 := (af hg 1).trans rfl
  by_cases h1 : next = P.length
  ·subst h1
   have HR := A_ (Cn (P := P) (f := f + 1) (Nat.le_refl _))
   clear hf hn hb hgb hg
   go_enter Try.func97, Try.ntmps97
   go_wp2
   go_quiet (fail)
   go_wp2
   go_ret2
   exact ⟨ah HB.out _, .inl ⟨HR.out, rfl⟩⟩
  ·have hal : next < P.length := by omega
   have c1b : ((next : Int) == (P.length : Int)) = false := by rw [beq_eq_false_iff_ne]; omega
   have c1c : (next == P.length) = false := by rw [beq_eq_false_iff_ne]; omega
   have c1d : (next = P.length) = False := eq_false h1
   have c1e : (next < P.length) = True := eq_true hal
   have c1f := dN ((next : Int) < (P.length : Int))
   have c1g := dN (0 <= (next : Int))
   have YC : P.length <= 1000000000000 := hN
   have hnx : next < 1000000000000 := by omega
   have HA := A_ hal
   have HF := A_ hf
   have OI := hm _ (List.getElem_mem (l := P) hal)
   have hpg : P[next] = aJ P (next : Int) := by unfold aJ; rw [Int.toNat_natCast, List.getD_eq_getElem?_getD, List.getElem?_eq_getElem hal]; rfl
   have Ua : P.getD next jG = aJ P (next : Int) := by unfold aJ; rw [Int.toNat_natCast]
   rw [hpg] at OI
   obtain ⟨ad, A0, c0, A1, c1, A2, c2, hAA, hx0, hx1, hx2, hl0, hf0, hl1, hf1, hl2, hf2⟩ := jT hp (next : Int) (by omega) (by omega)
   subst hAA
   obtain ⟨R, hR⟩ : ∃ R, R = dJ P (f + 1) next := ⟨_, rfl⟩
   have hgo : ug (P.getD next jG) = false -> R = fin (P.getD next jG) (fG (dJ P f) ((P.getD next jG).f2.drop 0) (next + 1) []) := fun hb => hR.trans (KT (P := P) (f := f) (by omega) hb)
   have hbad : ug (P.getD next jG) = true -> R = none := fun hb => hR.trans (GK (P := P) (f := f) (at_ := next) hb)
   rw [Ua] at hgo hbad
   rw [<- hR]
   rw [Int.toNat_natCast] at hx0 hx1 hx2
   generalize aJ P (next : Int) = pg at *
   have HX0 := A_ hx0
   have YD := A_ hx1
   have YE := A_ hx2
   have Z0 := A_ hf0
   have HF1 := A_ hf1
   have HF2 := A_ hf2
   have nQ := A_ hl0
   have J6 := A_ hl1
   have OJ := A_ OI
   have HGO := A_ hgo
   have HBAD := A_ hbad
   clear h1 hn hf hl0 hf0 hl1 hf1 hl2 hf2 hx0 hx1 hx2 OI hgo hbad hpg Ua hal hR hb hgb hg
   go_enter Try.func97, Try.ntmps97
   go_wp2
   go_quiet (fail)
   go_wp2
   generalize hW : World.drewN w _ = w1
   have az := A_ (show Below w0.heap.size w0 w1 by rw [<- hW]; exact ah HB.out _)
   have aG := A_ (show w1.heap[gb]? = some (.cells #[.slice (some ad) P.length c, .int .i64 (next : Int)] 121 (0, 0)) by rw [<- hW]; exact HG.out)
   have nz := A_ (show Kept w w1 (fun k => k = gb) by rw [<- hW]; exact (Kept.refl w _).drewN _)
   have HS := A_ (Sat.nil w1 w.heap.size)
   clear HB; clear HG; clear hW hz0 hz1
   have HB := az
   have HG := aG
   clear az aG
   refine dL (n := 12) (S := fun w' => w'.cell? ⟨gb, 0, none⟩ = some (.slice (some ad) P.length c) /\ w'.cell? ⟨gb, 1, none⟩ = some (.int .i64 (next : Int)) /\ w'.cell? (ad.add (next * 3)) = some (.slice A0 pg.f0.length c0) /\ w'.cell? ⟨(ad.add (next * 3)).block, (ad.add (next * 3)).off + 1, none⟩ = some (.slice A1 pg.f1.length c1) /\ w'.cell? ⟨(ad.add (next * 3)).block, (ad.add (next * 3)).off + 2, none⟩ = some (.slice A2 pg.f2.length c2)) (ds := [11]) (bt 12 0) (by kernel_rfl) rfl rfl ⟨(af HG.out 0).trans rfl, (af HG.out 1).trans rfl, (Below.cell (aH HB.out) (World.block_lt_of_cell? w0 _ HX0.out)).trans HX0.out, (Below.cell (aH HB.out) (World.block_lt_of_cell? w0 _ YD.out)).trans YD.out, (Below.cell (aH HB.out) (World.block_lt_of_cell? w0 _ YE.out)).trans YE.out⟩ (fun hHeld => ?_)
   refine aQ 0 20 1 ?_
   refine aQ 1 21 3 ?_
   refine aQ 2 22 7 ?_
   refine aQ 4 24 23 ?_
   refine aQ 5 25 55 ?_
   refine aQ 6 26 119 ?_
   refine gF 3 23 127 hHeld ?_
   refine gF 7 27 255 hHeld ?_
   refine aQ 8 28 511 ?_
   refine gF 9 29 1023 hHeld ?_
   refine jm 10 (some 4) 2047 (fun K hK => ?_)
   refine y9 (by rfl) (N := 4) rfl (cs := #[.slice none 0 0, .slice none 0 0, .slice none 0 0]) (t := 110) ?hr ?_
   (case hr => first | (go_simp; done) | (go_simp; rfl))
   intro b8 hg w2 aM hb
   have HS2 := A_ (Sat.oQ (Sat.drew HS.out) hg aM hb nz.out.1)
   have HB2 := A_ (bA (aH HB.out) hb)
   have HKP2 := A_ ((nz.out.drew).below hb)
   have HG2 := A_ (av (w := World.drew w1) HG.out hb)
   have J4 := HS2.out.z 0 rfl 0
   have J5 := HS2.out.z 0 rfl 1
   have BS := HS2.out.z 0 rfl 2
   have YF := HS2.out.f 0 rfl 0
   have YG := HS2.out.f 0 rfl 1
   have YH := HS2.out.f 0 rfl 2
   clear hg aM hb
   refine hK.out _ _ ⟨(af HG2.out 0).trans rfl, (af HG2.out 1).trans rfl, (Below.cell HB2.out (World.block_lt_of_cell? w0 _ HX0.out)).trans HX0.out, (Below.cell HB2.out (World.block_lt_of_cell? w0 _ YD.out)).trans YD.out, (Below.cell HB2.out (World.block_lt_of_cell? w0 _ YE.out)).trans YE.out⟩ (fun hHeld => ?_)
   clear hK K
   refine fw 4 ?_
   refine wZ 11 none 4095 (fun K hK => ?_)
   refine iN (w1 := ?_) (by rfl) rfl ?_ ?_
   rotate_left
   ·go_simp
    rfl
   refine hK.out _ _ ?_
   clear hK K
   refine fA (by kernel_rfl) ?_
   have az := A_ (Sat.aag HS2.out (.slice A0 pg.f0.length c0) (.slice A1 pg.f1.length c1) (.slice A2 pg.f2.length c2))
   have hge : w.heap.size <= b8 := HS2.out.ge ⟨_, List.mem_cons_self, rfl⟩
   have hne : gb ≠ b8 := by have := RS.out; omega
   have hw0 : w0.heap.size <= b8 := by have := RS.out; have := IE.out; omega
   have aG : ae (Below w0.heap.size w0 (((w2.setCell ⟨b8, 0, none⟩ (.slice A0 pg.f0.length c0)).setCell ⟨b8, 1, none⟩ (.slice A1 pg.f1.length c1)).setCell ⟨b8, 2, none⟩ (.slice A2 pg.f2.length c2))) := ⟨((HB2.out.setCell (p := ⟨b8, 0, none⟩) hw0 _).setCell (p := ⟨b8, 1, none⟩) hw0 _).setCell (p := ⟨b8, 2, none⟩) hw0 _⟩
   have lG : ae (Kept w (((w2.setCell ⟨b8, 0, none⟩ (.slice A0 pg.f0.length c0)).setCell ⟨b8, 1, none⟩ (.slice A1 pg.f1.length c1)).setCell ⟨b8, 2, none⟩ (.slice A2 pg.f2.length c2)) (fun k => k = gb)) := ⟨((HKP2.out.setCell (p := ⟨b8, 0, none⟩) (.inr hge) _).setCell (p := ⟨b8, 1, none⟩) (.inr hge) _).setCell (p := ⟨b8, 2, none⟩) (.inr hge) _⟩
   have p8 : ae ((((w2.setCell ⟨b8, 0, none⟩ (.slice A0 pg.f0.length c0)).setCell ⟨b8, 1, none⟩ (.slice A1 pg.f1.length c1)).setCell ⟨b8, 2, none⟩ (.slice A2 pg.f2.length c2)).heap[gb]? = some (.cells #[.slice (some ad) P.length c, .int .i64 (next : Int)] 121 (0, 0))) := ⟨mE (p := ⟨b8, 2, none⟩) (mE (p := ⟨b8, 1, none⟩) (mE (p := ⟨b8, 0, none⟩) HG2.out hne _) hne _) hne _⟩
   clear HS2; clear HB2; clear HKP2; clear HG2; clear HS; clear HB; clear nz; clear HG; clear J4 J5 BS YF YG YH hge hne hw0
   generalize ((w2.setCell ⟨b8, 0, none⟩ (.slice A0 pg.f0.length c0)).setCell ⟨b8, 1, none⟩ (.slice A1 pg.f1.length c1)).setCell ⟨b8, 2, none⟩ (.slice A2 pg.f2.length c2) = w3 at *
   have HS := az
   have HB := aG
   have nz := lG
   have HG := p8
   clear az aG lG p8
   have hz1 : w3.cell? ⟨gb, 1, none⟩ = some (.int .i64 (next : Int)) := (af HG.out 1).trans rfl
   have hf1 := ax HG.out 1
   go_upto_region 5 with fail
   have az := A_ (Sat.far HS.out (p := ⟨gb, 1, none⟩) RS.out (.int .i64 ((next : Int) + 1)))
   have aG := A_ (HB.out.setCell (p := ⟨gb, 1, none⟩) IE.out (.int .i64 ((next : Int) + 1)))
   have lG := A_ (nz.out.setCell (p := ⟨gb, 1, none⟩) (.inl rfl) (.int .i64 ((next : Int) + 1)))
   have p8 : ae ((w3.setCell ⟨gb, 1, none⟩ (.int .i64 ((next : Int) + 1))).heap[gb]? = some (.cells #[.slice (some ad) P.length c, .int .i64 ((next + 1 : Nat) : Int)] 121 (0, 0))) := ⟨gY HG.out 1 _ rfl⟩
   clear HS; clear HB; clear nz; clear HG; clear hz1 hf1
   generalize w3.setCell ⟨gb, 1, none⟩ (.int .i64 ((next : Int) + 1)) = w4 at *
   have HS := az
   have HB := aG
   have nz := lG
   have HG := p8
   clear az aG lG p8
   have J4 := HS.out.z 0 rfl 0
   have J5 := HS.out.z 0 rfl 1
   have BS := HS.out.z 0 rfl 2
   cases hbd : ug pg with
   | true =>
    have HR := A_ (HBAD.out hbd)
    have hb1 : 4 < pg.f0.length ∨ pg.f1.length ≠ pg.f0.length ∨ (pg.f2.length ≠ 0 /\ pg.f2.length ≠ pg.f0.length + 1) := by
     unfold ug at hbd
     simp only [Bool.or_eq_true, Bool.and_eq_true, decide_eq_true_eq, bne_iff_ne] at hbd
     omega
    by_cases q1 : 4 < pg.f0.length
    ·have t1 := pF (4 < (pg.f0.length : Int))
     have t1b : (4 < pg.f0.length) = True := eq_true q1
     clear q1 hb1 hbd
     go_wp2
     go_ret2
     exact ⟨HB.out, .inl ⟨HR.out, rfl⟩⟩
    ·have t1 := mZ (4 < (pg.f0.length : Int))
     have t1b : (4 < pg.f0.length) = False := eq_false q1
     by_cases q2 : pg.f1.length = pg.f0.length
     ·have q3 : pg.f2.length ≠ 0 /\ pg.f2.length ≠ pg.f0.length + 1 := by omega
      have t2 : ((pg.f1.length : Int) != (pg.f0.length : Int)) = false := Q4 (by omega)
      have t3 := pF (0 < (pg.f2.length : Int))
      have t4 : ((pg.f2.length : Int) != (pg.f0.length : Int) + 1) = true := WZ (by omega)
      have t2b : (pg.f1.length != pg.f0.length) = false := yZ (by omega)
      have Z4 := dN (0 < pg.f2.length)
      have YI : (pg.f2.length != pg.f0.length + 1) = true := Co (by omega)
      have m0 : pg.f0.length <= 4 := by omega
      clear q1 q2 q3 hb1 hbd
      go_wp2
      go_ret2
      exact ⟨HB.out, .inl ⟨HR.out, rfl⟩⟩
     ·have t2 : ((pg.f1.length : Int) != (pg.f0.length : Int)) = true := VE (by omega)
      have t2b : (pg.f1.length != pg.f0.length) = true := Co (by omega)
      clear q1 q2 hb1 hbd
      go_wp2
      go_ret2
      exact ⟨HB.out, .inl ⟨HR.out, rfl⟩⟩
   | false =>
    obtain ⟨q1, q2, q3⟩ := GM hbd
    have HR := A_ (HGO.out hbd)
    have t1 := mZ (4 < (pg.f0.length : Int))
    have t1b : (4 < pg.f0.length) = False := eq_false (by omega)
    have t2 : ((pg.f1.length : Int) != (pg.f0.length : Int)) = false := Q4 (by omega)
    have t2b : (pg.f1.length != pg.f0.length) = false := yZ (by omega)
    have m0 : pg.f0.length <= 4 := by omega
    have WC := A_ (show pg.f2.length <= 5 by omega)
    by_cases q4 : pg.f2.length = 0
    ·have t3 := mZ (0 < (pg.f2.length : Int))
     have Z4 : (0 < pg.f2.length) = False := eq_false (by omega)
     clear q1 q2 q3 q4 hbd
     go_upto_region 7 with fail
     refine dL (n := 9) (S := fun w' => w'.cell? ⟨b8, 0, none⟩ = some (.slice A0 pg.f0.length c0) /\ w'.cell? ⟨b8, 1, none⟩ = some (.slice A1 pg.f1.length c1)) (ds := []) (bt 9 0) (by kernel_rfl) rfl rfl ⟨(HS.out.z 0 rfl 0), (HS.out.z 0 rfl 1)⟩ (fun hHeld => ?_)
     refine aQ 0 66 1 ?_
     refine aQ 3 69 9 ?_
     refine gF 1 67 11 hHeld ?_
     refine gF 4 70 27 hHeld ?_
     refine jm 2 (some 68) 31 (fun K hK => ?_)
     refine wm Try.func74 #[.slice A0 pg.f0.length c0] ?_
     with_reducible refine (bn.calls A0 c0 pg.f0 pg.f0 _ (Kd.aA Z0.out (aH HB.out)) nQ.out (ru (by have := OJ.out; omega))).mono ?_
     rintro e w5 ⟨v0, rfl, ho, hb⟩
     refine ⟨_, rfl, ?_⟩
     obtain ⟨RP, RQ, rfl⟩ := Kd.au ho
     have az := A_ (Sat.gQ (Sat.drew HS.out) ho hb nz.out.1)
     have aG := A_ (bA (aH HB.out) hb)
     have lG := A_ (Kept.below (nz.out.drew) hb)
     have p8 := A_ (av (w := World.drew w4) HG.out hb)
     clear ho hb
     clear HS HB nz HG
     have HS := az
     have HB := aG
     have nz := lG
     have HG := p8
     clear az aG lG p8
     refine hK.out _ _ ⟨(HS.out.z 0 rfl 0), (HS.out.z 0 rfl 1)⟩ (fun hHeld => ?_)
     clear hK K
     refine fw 68 ?_
     refine jm 5 (some 71) 63 (fun K hK => ?_)
     refine wm Try.func74 #[.slice A1 pg.f1.length c1] ?_
     with_reducible refine (bn.calls A1 c1 pg.f1 pg.f1 _ (Kd.aA HF1.out HB.out) J6.out (ru (by have := OJ.out; omega))).mono ?_
     rintro e w6 ⟨v1, rfl, ho, hb⟩
     refine ⟨_, rfl, ?_⟩
     obtain ⟨Bh, xW, rfl⟩ := Kd.au ho
     have az := A_ (Sat.gQ HS.out ho hb nz.out.1)
     have aG := A_ (bA HB.out hb)
     have lG := A_ (Kept.below nz.out hb)
     have p8 := A_ (av HG.out hb)
     clear ho hb
     clear HS HB nz HG
     have HS := az
     have HB := aG
     have nz := lG
     have HG := p8
     clear az aG lG p8
     refine hK.out _ _ ⟨(HS.out.z 0 rfl 0), (HS.out.z 0 rfl 1)⟩ (fun hHeld => ?_)
     clear hK K
     refine fw 71 ?_
     refine aQ 6 72 127 ?_
     refine jm 7 (some 73) 255 (fun K hK => ?_)
     refine y9 (by rfl) (N := 73) rfl (cs := #[.slice RP pg.f0.length RQ, .slice Bh pg.f1.length xW, .slice none 0 0]) (t := 101) ?hr ?_
     (case hr => first | (go_simp; done) | (go_simp; rfl))
     intro g hg w7 aM hb
     have az := A_ (Sat.oQ HS.out hg aM hb nz.out.1)
     have aG := A_ (bA HB.out hb)
     have lG := A_ (nz.out.below hb)
     have p8 := A_ (av HG.out hb)
     clear hg aM hb
     clear HS HB nz HG
     have HS := az
     have HB := aG
     have nz := lG
     have HG := p8
     clear az aG lG p8
     refine hK.out _ _ ⟨(HS.out.z 1 rfl 0), (HS.out.z 1 rfl 1)⟩ (fun hHeld => ?_)
     clear hK K
     refine fw 73 ?_
     refine aQ 8 5 511 ?_
     refine fA (by kernel_rfl) ?_
     have az := A_ (DV (E := 74) (X := [.box 110 b8 #[.slice A0 pg.f0.length c0, .slice A1 pg.f1.length c1, .slice A2 pg.f2.length c2]]) HS.out)
     clear HS
     have HS := az
     clear az hHeld J4 J5 BS
     have BS := HS.out.z 4 rfl 2
     go_upto_region 9 with fail
     go_loopg [77] pg.f2.length (fun kq u77 w' => ∃ (i jh : Nat) (acc : List NT) (cv : Value), u77 = .int .i64 (i : Int) /\ ae (kq + i = pg.f2.length) /\ ae (acc.length = i) /\ ae (R = fin pg (fG (dJ P f) (pg.f2.drop i) jh (acc.map NT.erase))) /\ ae (next < jh /\ jh <= P.length) /\ ae (Sat w' w.heap.size (LL 101 74 g (.slice RP pg.f0.length RQ) (.slice Bh pg.f1.length xW) cv pg.f0 pg.f1 [.box 110 b8 #[.slice A0 pg.f0.length c0, .slice A1 pg.f1.length c1, .slice A2 pg.f2.length c2]] acc)) /\ ae (Below w0.heap.size w0 w') /\ ae (Kept w w' (fun k => k = gb)) /\ ae (w'.heap[gb]? = some (.cells #[.slice (some ad) P.length c, .int .i64 (jh : Int)] 121 (0, 0))))
     case atStart => exact ⟨0, next + 1, [], .slice none 0 0, by first | rfl | (simp; done), ⟨Nat.add_zero _⟩, ⟨rfl⟩, HR, ⟨by have := HA.out; omega⟩, HS, HB, nz, HG⟩
     case round =>
      clear HR HS HB BS nz HG
      obtain ⟨i, jh, acc, cv, rfl, HK, Uc, HR, Gj, HS, HB, nz, HG⟩ := hrel
      have ci := dN (0 <= (i : Int))
      by_cases hi : i < pg.f2.length
      ·have ce := pF ((i : Int) < (pg.f2.length : Int))
       have BU : (i < pg.f2.length) = True := eq_true hi
       have hi5 : i <= 5 := by have := WC.out; omega
       have YJ := A_ hi5
       have HI := A_ hi
       have hnx : jh <= 1000000000000 := Nat.le_trans Gj.out.2 YC
       have hzg : wr.cell? ⟨gb, 1, none⟩ = some (.int .i64 (jh : Int)) := (af HG.out 1).trans rfl
       obtain ⟨ad2, hA2, hk0⟩ := Kd.rq HF2.out (i : Int) (by omega) (by omega)
       subst hA2
       rw [Int.toNat_natCast] at hk0
       have hks : pg.f2[i]? = some (rd pg.f2 (i : Int)) := by unfold rd; rw [Int.toNat_natCast, List.getD_eq_getElem?_getD, List.getElem?_eq_getElem hi]; rfl
       generalize rd pg.f2 (i : Int) = k at hk0 hks
       have hkz := (Below.cell HB.out (World.block_lt_of_cell? w0 _ hk0)).trans hk0
       have jl := A_ hks
       clear hk0 hks hi
       by_cases hkn : k = (jh : Int)
       ·subst hkn
        cases hrs : dJ P f jh with
        | none =>
         have uB := A_ hrs
         have HE := A_ (uO HR.out jl.out rfl hrs)
         clear hrs
         go_wp2_with (go_at_call 97; (with_reducible refine (ih jh (by have := HF.out; have := Gj.out; omega) Gj.out.2 gb _ HB.out IE.out HG.out).mono ?_); rintro e w8 ⟨hb, hr⟩; rw [uB.out] at hr; obtain ⟨-, rfl⟩ := hr.resolve_right (by rintro ⟨_, _, h, _⟩; cases h); clear HB; have HB := A_ hb; clear hb hr)
         go_ret2
         exact ⟨HB.out, .inl ⟨HE.out, rfl⟩⟩
        | some tn =>
         obtain ⟨t, n⟩ := tn
         have uB := A_ hrs
         have Gl := A_ (lZ f jh t n hrs)
         have HE := A_ (yX HR.out jl.out rfl hrs)
         clear hrs
         go_wp2_with (first | (go_at_call 97; (with_reducible refine (ih jh (by have := HF.out; have := Gj.out; omega) Gj.out.2 gb _ HB.out IE.out HG.out).mono ?_); rintro e w8 ⟨hb, hr⟩; rw [uB.out] at hr; obtain ⟨nt, n9, h9, rfl, hs, hk, hg⟩ := hr.resolve_left (by rintro ⟨h, _⟩; cases h); injection h9 with h9; injection h9 with h9 h8; subst h9; subst h8; have az := A_ (Qb HS.out hk (fun k hk => by have := RS.out; omega) nz.out.1 hs); have lG := A_ (nz.out.yS hk (fun k hk => .inl hk)); have HG8 := A_ hg; clear HS; clear HB; clear nz; clear HG; have HS := az; have HB := A_ hb; have nz := lG; have HG := HG8; clear az lG HG8; have hz9 := HS.out.z 0 rfl 2; clear hb hr hs hk hg) | ((with_reducible refine di (b := .append) (xs := #[.tmp 98, .tmp 100]) rfl ?_); at_builtin; refine Kd.za gL (w0 := w8) w.heap.size rfl (.tmp 98) (.tmp 100) 99 74 (.pointer none) 8 rfl yY nH rfl (by decide) (by omega) cv (acc.map NT.p) nt.p [bO nt.p] (fun _ => True) (fun _ => False) rfl rfl ?aP (fun _ h => h.elim) ?aF ?aO ?aB ?aS ?aL ?_; (case aP => exact rfl); (case aB => exact Below.refl _ _); (case aF => exact fun _ _ => trivial); (case aO => exact DU (HS.out.ok _ (List.mem_of_getElem? (i := 3) rfl))); (case aS => exact nz.out.1); (case aL => rw [List.length_map]; have := Uc.out; have := YJ.out; omega); intro cv' w9 ho hb hg hat; obtain ⟨Aq, nq, cq, rfl⟩ := Ja ho; have WE : ∀ k, cv.ownBlock = some k -> w.heap.size <= k := fun k hk => HS.out.ge ⟨_, List.mem_of_getElem? (i := 3) rfl, hk⟩; have az := A_ (Jb (x := 0) HS.out ho hg hat); have aG := A_ (HB.out.grown hg (by have := HB.out.size; omega) (fun k hk => by have := WE k hk; have := RS.out; have := IE.out; omega)); have lG := A_ (Kept.tT hg nz.out (fun k hk => .inr (WE k hk))); have p8 := A_ ((hg.block gb (dh HG.out) (fun he => by have := WE gb he.symm; have := RS.out; omega)).trans HG.out); clear HS; clear HB; clear nz; clear HG; have HS := az; have HB := aG; have nz := lG; have HG := p8; clear az aG lG p8 WE; have YK := HS.out.z 0 rfl 2; have YL := HS.out.f 0 rfl 2; clear ho hb hg hat))
         go_roundg (pg.f2.length - (i + 1))
         case measure => have := HK.out; have := HI.out; omega
         case rel => exact ⟨i + 1, n, acc ++ [nt], .slice Aq nq cq, by first | rfl | go_num | (simp; done), ⟨by have := HK.out; have := HI.out; omega⟩, ⟨by rw [List.length_append, Uc.out]; rfl⟩, ⟨by rw [List.map_append]; exact HE.out⟩, ⟨by have := Gl.out; have := Gj.out; omega⟩, ⟨Jc HS.out⟩, ⟨HB.out.setCell (p := ⟨g, 2, none⟩) (by have h_ : w.heap.size <= g := HS.out.ge ⟨_, List.mem_cons_self, rfl⟩; have := RS.out; have := IE.out; show w0.heap.size <= g; omega) _⟩, ⟨nz.out.setCell (p := ⟨g, 2, none⟩) (.inr (HS.out.ge ⟨_, List.mem_cons_self, rfl⟩)) _⟩, ⟨mE (p := ⟨g, 2, none⟩) HG.out (by have h_ : w.heap.size <= g := HS.out.ge ⟨_, List.mem_cons_self, rfl⟩; have := RS.out; show gb ≠ g; omega) _⟩⟩
       ·have HE := A_ (uN HR.out jl.out hkn)
        have tk : (k != (jh : Int)) = true := bne_iff_ne.2 hkn
        clear hkn
        go_wp2
        go_ret2
        exact ⟨HB.out, .inl ⟨HE.out, rfl⟩⟩
      ·have ce := mZ ((i : Int) < (pg.f2.length : Int))
       have BU : (i < pg.f2.length) = False := eq_false hi
       have HE := A_ (xg HR.out (by omega))
       clear hi
       go_wp2
       go_ret2
       exact ⟨HB.out, .inr ⟨.mk g (.slice RP pg.f0.length RQ) (.slice Bh pg.f1.length xW) cv pg.f0 pg.f1 acc, jh, by rw [HE.out, NT.erase, aN], rfl, Jd HS.out, nz.out, HG.out⟩⟩
    ·have t3 := pF (0 < (pg.f2.length : Int))
     have Z4 := dN (0 < pg.f2.length)
     have t4 : ((pg.f2.length : Int) != (pg.f0.length : Int) + 1) = false := W9 (by omega)
     have YI : (pg.f2.length != pg.f0.length + 1) = false := yZ (by omega)
     clear q1 q2 q3 q4 hbd
     go_upto_region 7 with fail
     refine dL (n := 9) (S := fun w' => w'.cell? ⟨b8, 0, none⟩ = some (.slice A0 pg.f0.length c0) /\ w'.cell? ⟨b8, 1, none⟩ = some (.slice A1 pg.f1.length c1)) (ds := []) (bt 9 0) (by kernel_rfl) rfl rfl ⟨(HS.out.z 0 rfl 0), (HS.out.z 0 rfl 1)⟩ (fun hHeld => ?_)
     refine aQ 0 66 1 ?_
     refine aQ 3 69 9 ?_
     refine gF 1 67 11 hHeld ?_
     refine gF 4 70 27 hHeld ?_
     refine jm 2 (some 68) 31 (fun K hK => ?_)
     refine wm Try.func74 #[.slice A0 pg.f0.length c0] ?_
     with_reducible refine (bn.calls A0 c0 pg.f0 pg.f0 _ (Kd.aA Z0.out (aH HB.out)) nQ.out (ru (by have := OJ.out; omega))).mono ?_
     rintro e w5 ⟨v0, rfl, ho, hb⟩
     refine ⟨_, rfl, ?_⟩
     obtain ⟨RP, RQ, rfl⟩ := Kd.au ho
     have az := A_ (Sat.gQ (Sat.drew HS.out) ho hb nz.out.1)
     have aG := A_ (bA (aH HB.out) hb)
     have lG := A_ (Kept.below (nz.out.drew) hb)
     have p8 := A_ (av (w := World.drew w4) HG.out hb)
     clear ho hb
     clear HS HB nz HG
     have HS := az
     have HB := aG
     have nz := lG
     have HG := p8
     clear az aG lG p8
     refine hK.out _ _ ⟨(HS.out.z 0 rfl 0), (HS.out.z 0 rfl 1)⟩ (fun hHeld => ?_)
     clear hK K
     refine fw 68 ?_
     refine jm 5 (some 71) 63 (fun K hK => ?_)
     refine wm Try.func74 #[.slice A1 pg.f1.length c1] ?_
     with_reducible refine (bn.calls A1 c1 pg.f1 pg.f1 _ (Kd.aA HF1.out HB.out) J6.out (ru (by have := OJ.out; omega))).mono ?_
     rintro e w6 ⟨v1, rfl, ho, hb⟩
     refine ⟨_, rfl, ?_⟩
     obtain ⟨Bh, xW, rfl⟩ := Kd.au ho
     have az := A_ (Sat.gQ HS.out ho hb nz.out.1)
     have aG := A_ (bA HB.out hb)
     have lG := A_ (Kept.below nz.out hb)
     have p8 := A_ (av HG.out hb)
     clear ho hb
     clear HS HB nz HG
     have HS := az
     have HB := aG
     have nz := lG
     have HG := p8
     clear az aG lG p8
     refine hK.out _ _ ⟨(HS.out.z 0 rfl 0), (HS.out.z 0 rfl 1)⟩ (fun hHeld => ?_)
     clear hK K
     refine fw 71 ?_
     refine aQ 6 72 127 ?_
     refine jm 7 (some 73) 255 (fun K hK => ?_)
     refine y9 (by rfl) (N := 73) rfl (cs := #[.slice RP pg.f0.length RQ, .slice Bh pg.f1.length xW, .slice none 0 0]) (t := 101) ?hr ?_
     (case hr => first | (go_simp; done) | (go_simp; rfl))
     intro g hg w7 aM hb
     have az := A_ (Sat.oQ HS.out hg aM hb nz.out.1)
     have aG := A_ (bA HB.out hb)
     have lG := A_ (nz.out.below hb)
     have p8 := A_ (av HG.out hb)
     clear hg aM hb
     clear HS HB nz HG
     have HS := az
     have HB := aG
     have nz := lG
     have HG := p8
     clear az aG lG p8
     refine hK.out _ _ ⟨(HS.out.z 1 rfl 0), (HS.out.z 1 rfl 1)⟩ (fun hHeld => ?_)
     clear hK K
     refine fw 73 ?_
     refine aQ 8 5 511 ?_
     refine fA (by kernel_rfl) ?_
     have az := A_ (DV (E := 74) (X := [.box 110 b8 #[.slice A0 pg.f0.length c0, .slice A1 pg.f1.length c1, .slice A2 pg.f2.length c2]]) HS.out)
     clear HS
     have HS := az
     clear az hHeld J4 J5 BS
     have BS := HS.out.z 4 rfl 2
     go_upto_region 9 with fail
     go_loopg [77] pg.f2.length (fun kq u77 w' => ∃ (i jh : Nat) (acc : List NT) (cv : Value), u77 = .int .i64 (i : Int) /\ ae (kq + i = pg.f2.length) /\ ae (acc.length = i) /\ ae (R = fin pg (fG (dJ P f) (pg.f2.drop i) jh (acc.map NT.erase))) /\ ae (next < jh /\ jh <= P.length) /\ ae (Sat w' w.heap.size (LL 101 74 g (.slice RP pg.f0.length RQ) (.slice Bh pg.f1.length xW) cv pg.f0 pg.f1 [.box 110 b8 #[.slice A0 pg.f0.length c0, .slice A1 pg.f1.length c1, .slice A2 pg.f2.length c2]] acc)) /\ ae (Below w0.heap.size w0 w') /\ ae (Kept w w' (fun k => k = gb)) /\ ae (w'.heap[gb]? = some (.cells #[.slice (some ad) P.length c, .int .i64 (jh : Int)] 121 (0, 0))))
     case atStart => exact ⟨0, next + 1, [], .slice none 0 0, by first | rfl | (simp; done), ⟨Nat.add_zero _⟩, ⟨rfl⟩, HR, ⟨by have := HA.out; omega⟩, HS, HB, nz, HG⟩
     case round =>
      clear HR HS HB BS nz HG
      obtain ⟨i, jh, acc, cv, rfl, HK, Uc, HR, Gj, HS, HB, nz, HG⟩ := hrel
      have ci := dN (0 <= (i : Int))
      by_cases hi : i < pg.f2.length
      ·have ce := pF ((i : Int) < (pg.f2.length : Int))
       have BU : (i < pg.f2.length) = True := eq_true hi
       have hi5 : i <= 5 := by have := WC.out; omega
       have YJ := A_ hi5
       have HI := A_ hi
       have hnx : jh <= 1000000000000 := Nat.le_trans Gj.out.2 YC
       have hzg : wr.cell? ⟨gb, 1, none⟩ = some (.int .i64 (jh : Int)) := (af HG.out 1).trans rfl
       obtain ⟨ad2, hA2, hk0⟩ := Kd.rq HF2.out (i : Int) (by omega) (by omega)
       subst hA2
       rw [Int.toNat_natCast] at hk0
       have hks : pg.f2[i]? = some (rd pg.f2 (i : Int)) := by unfold rd; rw [Int.toNat_natCast, List.getD_eq_getElem?_getD, List.getElem?_eq_getElem hi]; rfl
       generalize rd pg.f2 (i : Int) = k at hk0 hks
       have hkz := (Below.cell HB.out (World.block_lt_of_cell? w0 _ hk0)).trans hk0
       have jl := A_ hks
       clear hk0 hks hi
       by_cases hkn : k = (jh : Int)
       ·subst hkn
        cases hrs : dJ P f jh with
        | none =>
         have uB := A_ hrs
         have HE := A_ (uO HR.out jl.out rfl hrs)
         clear hrs
         go_wp2_with (go_at_call 97; (with_reducible refine (ih jh (by have := HF.out; have := Gj.out; omega) Gj.out.2 gb _ HB.out IE.out HG.out).mono ?_); rintro e w8 ⟨hb, hr⟩; rw [uB.out] at hr; obtain ⟨-, rfl⟩ := hr.resolve_right (by rintro ⟨_, _, h, _⟩; cases h); clear HB; have HB := A_ hb; clear hb hr)
         go_ret2
         exact ⟨HB.out, .inl ⟨HE.out, rfl⟩⟩
        | some tn =>
         obtain ⟨t, n⟩ := tn
         have uB := A_ hrs
         have Gl := A_ (lZ f jh t n hrs)
         have HE := A_ (yX HR.out jl.out rfl hrs)
         clear hrs
         go_wp2_with (first | (go_at_call 97; (with_reducible refine (ih jh (by have := HF.out; have := Gj.out; omega) Gj.out.2 gb _ HB.out IE.out HG.out).mono ?_); rintro e w8 ⟨hb, hr⟩; rw [uB.out] at hr; obtain ⟨nt, n9, h9, rfl, hs, hk, hg⟩ := hr.resolve_left (by rintro ⟨h, _⟩; cases h); injection h9 with h9; injection h9 with h9 h8; subst h9; subst h8; have az := A_ (Qb HS.out hk (fun k hk => by have := RS.out; omega) nz.out.1 hs); have lG := A_ (nz.out.yS hk (fun k hk => .inl hk)); have HG8 := A_ hg; clear HS; clear HB; clear nz; clear HG; have HS := az; have HB := A_ hb; have nz := lG; have HG := HG8; clear az lG HG8; have hz9 := HS.out.z 0 rfl 2; clear hb hr hs hk hg) | ((with_reducible refine di (b := .append) (xs := #[.tmp 98, .tmp 100]) rfl ?_); at_builtin; refine Kd.za gL (w0 := w8) w.heap.size rfl (.tmp 98) (.tmp 100) 99 74 (.pointer none) 8 rfl yY nH rfl (by decide) (by omega) cv (acc.map NT.p) nt.p [bO nt.p] (fun _ => True) (fun _ => False) rfl rfl ?aP (fun _ h => h.elim) ?aF ?aO ?aB ?aS ?aL ?_; (case aP => exact rfl); (case aB => exact Below.refl _ _); (case aF => exact fun _ _ => trivial); (case aO => exact DU (HS.out.ok _ (List.mem_of_getElem? (i := 3) rfl))); (case aS => exact nz.out.1); (case aL => rw [List.length_map]; have := Uc.out; have := YJ.out; omega); intro cv' w9 ho hb hg hat; obtain ⟨Aq, nq, cq, rfl⟩ := Ja ho; have WE : ∀ k, cv.ownBlock = some k -> w.heap.size <= k := fun k hk => HS.out.ge ⟨_, List.mem_of_getElem? (i := 3) rfl, hk⟩; have az := A_ (Jb (x := 0) HS.out ho hg hat); have aG := A_ (HB.out.grown hg (by have := HB.out.size; omega) (fun k hk => by have := WE k hk; have := RS.out; have := IE.out; omega)); have lG := A_ (Kept.tT hg nz.out (fun k hk => .inr (WE k hk))); have p8 := A_ ((hg.block gb (dh HG.out) (fun he => by have := WE gb he.symm; have := RS.out; omega)).trans HG.out); clear HS; clear HB; clear nz; clear HG; have HS := az; have HB := aG; have nz := lG; have HG := p8; clear az aG lG p8 WE; have YK := HS.out.z 0 rfl 2; have YL := HS.out.f 0 rfl 2; clear ho hb hg hat))
         go_roundg (pg.f2.length - (i + 1))
         case measure => have := HK.out; have := HI.out; omega
         case rel => exact ⟨i + 1, n, acc ++ [nt], .slice Aq nq cq, by first | rfl | go_num | (simp; done), ⟨by have := HK.out; have := HI.out; omega⟩, ⟨by rw [List.length_append, Uc.out]; rfl⟩, ⟨by rw [List.map_append]; exact HE.out⟩, ⟨by have := Gl.out; have := Gj.out; omega⟩, ⟨Jc HS.out⟩, ⟨HB.out.setCell (p := ⟨g, 2, none⟩) (by have h_ : w.heap.size <= g := HS.out.ge ⟨_, List.mem_cons_self, rfl⟩; have := RS.out; have := IE.out; show w0.heap.size <= g; omega) _⟩, ⟨nz.out.setCell (p := ⟨g, 2, none⟩) (.inr (HS.out.ge ⟨_, List.mem_cons_self, rfl⟩)) _⟩, ⟨mE (p := ⟨g, 2, none⟩) HG.out (by have h_ : w.heap.size <= g := HS.out.ge ⟨_, List.mem_cons_self, rfl⟩; have := RS.out; show gb ≠ g; omega) _⟩⟩
       ·have HE := A_ (uN HR.out jl.out hkn)
        have tk : (k != (jh : Int)) = true := bne_iff_ne.2 hkn
        clear hkn
        go_wp2
        go_ret2
        exact ⟨HB.out, .inl ⟨HE.out, rfl⟩⟩
      ·have ce := mZ ((i : Int) < (pg.f2.length : Int))
       have BU : (i < pg.f2.length) = False := eq_false hi
       have HE := A_ (xg HR.out (by omega))
       clear hi
       go_wp2
       go_ret2
       exact ⟨HB.out, .inr ⟨.mk g (.slice RP pg.f0.length RQ) (.slice Bh pg.f1.length xW) cv pg.f0 pg.f1 acc, jh, by rw [HE.out, NT.erase, aN], rfl, Jd HS.out, nz.out, HG.out⟩⟩
open Go.Proofs.Ytoddejmlcnbdmaa.Fn
set_option maxHeartbeats 8000000
set_option maxRecDepth 100000
theorem dZ.dQ {p : Nat} {t : PT} (b : Bool) (hb : decide ((t.kids.length : Int) = 0) = b) (w : World) (h : Rd 96 w p t) :
  Calls Try.prog 84 #[bO p] w fun e w' => e = .returned (.bool b) /\ ak w w' := by
 subst hb
 obtain ⟨Ak, ck, Av, cv, Ac, cc, ps, HN⟩ := h.open
 have hz := HN.z2
 clear HN h
 go_enter Try.func84, Try.ntmps84
 go_wp2
 go_ret
 exact ⟨by first | rfl | (simp; done), by repeat (first | exact ak.refl _ | apply ak.step)⟩
end Go.Proofs.Ytoddejmlcnbdmaa.Tree

