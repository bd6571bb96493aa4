/- The law FnExactPutKey holds of the given program: at every input it answers true and leaves its arguments as they were; no condition. This text: part 1 of what its proof reaches. -/
import Derived.Test.YtoddejmlcnbdmaaQWLast
import Derived.Test.YtoddejmlcnbdmaaQWMore
import Derived.Lib.SliceRun
import Derived.Deep.QuietTactic
import Derived.BigQuiet
import Derived.KernelRfl
import Derived.Test.YtoddejmlcnbdmaaQWWords
import Derived.OpenShut
import Derived.WideShapes
import Derived.Lib.Strings
import Derived.Test.YtoddejmlcnbdmaaProg
import Derived.Below
import Derived.Deep.Draws
import Derived.Deep.AppendLies
import Derived.Maps.AppendAt
import Derived.OwnWalk
import Derived.Laws.BytesArg
import Derived.Laws.MakeOwn
import Derived.Laws.OwnMore
import Derived.Deep.OwnRows
import Derived.Tactics
import Derived.Lib.ConvBytes
import Derived.Laws.Slices
import Derived.WalkKit
import Derived.RowKit3
import Derived.Deep.LoopGhost
import Derived.WideLaws
import Derived.Deep.DeepCutAuto
import Derived.Deep.CutBlock
import Derived.Deep.RegionHeld3
import Derived.Laws.Rows
import Derived.Lib.AppendStr
import Derived.ArgAppend
import Derived.Laws.IdiomCopy
import Derived.OrdersHeld
import Derived.Laws.BitsLemmas
import Derived.Laws.Cover1
import Derived.Laws.Strings
import Derived.RowKit
import Derived.Test.YtoddejmlcnbdmaaQWTab
import Derived.Test.YtoddejmlcnbdmaaQWFour
import Derived.Test.YtoddejmlcnbdmaaQWQPut
import Derived.Test.YtoddejmlcnbdmaaQWApart
import Derived.Test.YtoddejmlcnbdmaaQWArr
import Derived.Test.YtoddejmlcnbdmaaQWZeros
import Derived.Test.YtoddejmlcnbdmaaQWFoot
import Derived.Test.YtoddejmlcnbdmaaQWKept
import Derived.Test.YtoddejmlcnbdmaaQWShare
import Derived.Test.YtoddejmlcnbdmaaQWN
import Derived.Test.YtoddejmlcnbdmaaQWFootNe
import Derived.Test.YtoddejmlcnbdmaaQWAt
import Derived.Test.YtoddejmlcnbdmaaQWEqStruct
import Derived.Test.YtoddejmlcnbdmaaQWRepsOne
import Derived.Test.YtoddejmlcnbdmaaQWInv
import Derived.Test.YtoddejmlcnbdmaaQWInvWords
import Derived.Test.YtoddejmlcnbdmaaQWGuard
import Derived.Test.YtoddejmlcnbdmaaQWNEv
set_option maxHeartbeats 8000000
set_option maxRecDepth 100000
set_option linter.unusedVariables false
set_option linter.unusedSimpArgs false
open Go.RowKit Go.Proofs.YtoddejmlcnbdmaaW.PrintWords Go.Proofs.YtoddejmlcnbdmaaW.PrintLast Go.Proofs.YtoddejmlcnbdmaaW.PrintMore
namespace Go.Proofs.Ytoddejmlcnbdmaa.Gen
theorem no_true {o : Option Bool} {r : Bool} (h : o = some r) (hf : o = none ∨ o = some false) (ht : r = true) : False := by
  subst ht
  rcases hf with hf | hf <;> rw [hf] at h <;> simp at h
/-! Short words for what a long walk says again and again. -/
theorem pk_ {p q : Prop} (h0 : p) (h : p -> q := by intro hh_; (with_reducible repeat (first | refine blk_drewN ?_ _ | refine blk_drew ?_ | refine blk_alloc ?_ _)); exact hh_) : q := h h0
theorem rk_ {p q : Prop} (h0 : p) (h : p -> q := by intro hh_; (with_reducible repeat (first | apply Kd.R_alloc | apply Kd.R_drewN | apply Kd.R_drew)); exact hh_) : q := h h0
theorem sk_ {p q : Prop} (h0 : p) (h : p -> q := by intro hh_; (with_reducible repeat (first | apply Kd.S_alloc | apply Kd.S_drewN | apply Kd.S_drew)); exact hh_) : q := h h0
theorem be_ {p q : Prop} (h0 : p) (h : p -> q := by intro hh_; repeat (first | (with_reducible first | exact hh_ | apply below_alloc | apply pw_below_drewN | apply below_drew1 | (refine below_set ?_ (Aside0.out ?_); rotate_left; assumption)) | exact hh_)) : q := h h0
theorem sx_ {α : Type} : (∀ (l : List α) (i : Nat) (a : α), l.toArray.setIfInBounds i a = (l.set i a).toArray) /\ (∀ (x a : α) (l : List α), (x :: l).set 0 a = a :: l) /\ (∀ (x a : α) (l : List α) (i : Nat), (x :: l).set (i + 1) a = x :: l.set i a) :=
  ⟨fun _ _ _ => by simp, fun _ _ _ => rfl, fun _ _ _ _ => rfl⟩
theorem wx_ : (∀ n : Int, IntKind.i64.wrap n = Go.RowKit.wrap64 n) /\ (∀ n : Int, IntKind.i32.wrap n = Go.RowKit.wrap32 n) := ⟨i64_w, i32_w⟩
theorem as_ {p : Prop} (h : p := by first | (with_reducible assumption) | assumption) : p := h
theorem cd_ {p q : Prop} (h0 : p) (h : p -> q := by intro hh_; repeat (first | exact hh_ | (with_reducible refine Kd.C_alloc ?_ _) | (with_reducible refine Kd.C_drewN ?_ _) | (with_reducible refine Kd.C_drew ?_))) : q := h h0
theorem kb_ {p q : Prop} (h0 : p) (h : p -> q := by intro hh_; repeat (first | (with_reducible first | exact hh_ | apply KeepBut.set_ | apply keep_drewN | apply keep_drew | apply keep_alloc | (refine keep_far ?_ (Aside0.out ?_) _; rotate_left; assumption)) | exact hh_)) : q := h h0
theorem ag_ {p : Prop} (h : p := by (try simp only [List.map_toArray, List.map_cons, List.map_nil]); first | done | rfl | (simp only [List.length_drop, List.length_take]; rfl)) : p := h
theorem bs_ {w w1 W W2 : World} (h0 : Below w.heap.size w w1) (hb : Below W.heap.size W W2) (h : Below w.heap.size w w1 -> Below w.heap.size w W := by intro hh_; repeat (first | (with_reducible first | exact hh_ | apply below_alloc | apply pw_below_drewN | apply below_drew1 | (refine below_set ?_ (Aside0.out ?_); rotate_left; assumption)) | exact hh_)) : Below w.heap.size w W2 := below_step (h h0) hb
theorem bw_ {w w1 W : World} (h0 : Below w.heap.size w w1) (h : Below w.heap.size w w1 -> Below w.heap.size w W := by intro hh_; repeat (first | (with_reducible first | exact hh_ | apply below_alloc | apply pw_below_drewN | apply below_drew1 | (refine below_set ?_ (Aside0.out ?_); rotate_left; assumption)) | exact hh_)) : w.heap.size <= W.heap.size := below_size (h h0)
theorem bz_ {w0 W W' : World} {g : Nat} {o : Obj} (h0 : Aside0 (w0.heap[g]? = some o)) (hb : Below W.heap.size W W') (h : w0.heap[g]? = some o -> W.heap[g]? = some o := by intro hh_; (with_reducible repeat (first | refine blk_drewN ?_ _ | refine blk_drew ?_ | refine blk_alloc ?_ _)); exact hh_) : W'.heap[g]? = some o := blk_below (h h0.out) hb
theorem nz_ {w0 W : World} {g g' : Nat} {o : Obj} (h0 : Aside0 (w0.heap[g]? = some o)) (hg : g' = W.heap.size) (h : w0.heap[g]? = some o -> W.heap[g]? = some o := by intro hh_; (with_reducible repeat (first | refine blk_drewN ?_ _ | refine blk_drew ?_ | refine blk_alloc ?_ _)); exact hh_) : g ≠ g' := by
  rw [hg]; exact Nat.ne_of_lt (blk_lt (h h0.out))
theorem eql_nil {P : Program} (w : World) (t e : TypeId) (a : Option Addr) (n c : Nat) (h : P.underlying t = some (.slice e)) :
    (binOp .eql t (.slice a n c) (.slice none 0 0)).run P w = .ok (.bool a.isNone) w := Go.Lib.run_eql_slice_nil w t e a n c 0 0 h
theorem nil_str (l : List UInt8) : (!l.isEmpty) = (l != []) := by cases l <;> rfl
theorem gt_str (a b : List UInt8) : ((!Op.bytesLess a b) && (!(a == b))) = Op.bytesLess b a := by
  induction a generalizing b with
  | nil => cases b <;> rfl
  | cons x s ih =>
    cases b with
    | nil => rfl
    | cons y t =>
      have ih := ih t
      have e : ((x :: s) == (y :: t)) = ((x == y) && (s == t)) := rfl
      simp only [Op.bytesLess, e]
      rcases Nat.lt_trichotomy x.toNat y.toNat with h | h | h
      · have h1 : x < y := UInt8.lt_iff_toNat_lt.2 h
        have h2 : ¬ y < x := fun z => by have := UInt8.lt_iff_toNat_lt.1 z; omega
        have h3 : (y == x) = false := by
          rw [beq_eq_false_iff_ne]
          intro z
          rw [z] at h
          omega
        simp only [h1, h2, h3, decide_true, decide_false, Bool.true_or, Bool.not_true, Bool.false_and, Bool.false_or]
      · have h0 : x = y := UInt8.toNat_inj.1 h
        subst h0
        have h2 : ¬ x < x := fun z => by have := UInt8.lt_iff_toNat_lt.1 z; omega
        simp only [h2, decide_false, beq_self_eq_true, Bool.true_and, Bool.false_or]
        exact ih
      · have h1 : y < x := UInt8.lt_iff_toNat_lt.2 h
        have h2 : ¬ x < y := fun z => by have := UInt8.lt_iff_toNat_lt.1 z; omega
        have h3 : (x == y) = false := by
          rw [beq_eq_false_iff_ne]
          intro z
          rw [z] at h
          omega
        simp only [h1, h2, h3, decide_true, decide_false, Bool.true_or, Bool.not_false, Bool.false_and, Bool.false_or, Bool.true_and]
section
variable {P : Program} {ops : Array Oper} {Q : Exit -> Act -> World -> Prop}
/-- The operation is a call through a slot. -/
theorem gateV {rest : List Oper} {o : Oper} {a : Act} {W : World} {t : Tmp} {xa : Array Operand} {ts : Array TypeId} (_ho : o.op = .call { callee := .value (.tmp t), args := xa, argTypes := ts }) (h : wpList P ops Q (o :: rest) a W) : wpList P ops Q (o :: rest) a W := h
theorem goesV_ {rest : List Oper} {oi : Oper} {a : Act} {w : World} (N : Option Tmp) (hd : oi.dst = N) (hg : oi.guard = none) {f : FuncId} {fn : Func} {t : Tmp} {xa : Array Operand} {ts : Array TypeId} (hf : P.funcs[f]? = some fn) (hname : (fn.name == "runtime.NumGoroutine") = false) (hb : fn.body.isSome = true) (args : Array Value)
    (hop : oi.op = .call { callee := .value (.tmp t), args := xa, argTypes := ts }) (hargs : xa.map a.eval = args) 
    (h : Calls P f args w fun e w' => ∃ v, e = .returned v /\ wpList P ops Q rest (a.put N v) w') (hv : a.eval (.tmp t) = .func (.func f) #[] #[] := by rfl) : wpList P ops Q (oi :: rest) a w := by
  refine wpList_plain hg fun K hK => ?_
  have he := enters_ hf hname hb args w
  have hrun : (execOp a.eval oi).run P w = .ok (.enter f args) w := by
    unfold execOp
    simp [hop, resolve, Deferred.ofValue, invoke, hv, hargs, he]
  unfold Oper.wp
  rw [hrun, Oper.upon_enter]
  refine h.mono fun e w'' hh => ?_
  obtain ⟨v, rfl, hk⟩ := hh
  subst hd
  exact hK _ _ hk
end
end Go.Proofs.Ytoddejmlcnbdmaa.Gen
open Go.Proofs.Ytoddejmlcnbdmaa.Gen
namespace Go.Proofs.Ytoddejmlcnbdmaa.Gen
theorem A_ {p : Prop} (h : p) : Aside0 p := ⟨h⟩
def btl (x : Nat) : Nat -> List Bool
  | 0 => []
  | n + 1 => (x % 2 == 1) :: btl (x / 2) n
/-- The first n bits of x. -/
def bt (n x : Nat) : Array Bool := ⟨btl x n⟩
section
variable {P : Program} {ops : Array Oper} {Q : Exit -> Act -> World -> Prop} {md : Region.Mode} {S : World -> Prop} {ds : List Nat} {fuel m y : Nat} {a : Act} {w : World}
theorem pu_ (i n x : Nat) {oi : Oper} {v : Value} {a' : Act} (h : wpAnyLast P md ops Q S ds fuel (bt m x) a' w)
    (hi : ops[i]? = some oi := by rfl) (hN : oi.dst = some n := by rfl) (hc : anyB md ops (bt m y) (bt m x) i = true := by kernel_rfl)
    (hQ : ∀ c a w, Q (.panic c) (a.put oi.dst v) w -> Q (.panic c) a w := by exact fun _ _ _ h => h)
    (hy : Yields P ops oi v a := by refine Or.inl ⟨by rfl, ?_⟩; intro w'; go_simp; with_reducible rfl)
    (ha : a.put (some n) v = a' := by simp only [Act.put, List.setIfInBounds_toArray, List.set_cons_zero, List.set_cons_succ, i64_w, i32_w]; rfl) : wpAnyLast P md ops Q S ds (fuel + 1) (bt m y) a w :=
  pure_ (bt m x) hi hN hc hQ hy ha h
theorem ta_ (i n x : Nat) (hS : S w) {oi : Oper} {v : Value} {a' : Act} (h : wpAnyLast P md ops Q S ds fuel (bt m x) a' w)
    (hi : ops[i]? = some oi := by rfl) (hN : oi.dst = some n := by rfl) (hc : takeB md ops ds (bt m y) (bt m x) i = true := by kernel_rfl)
    (hQ : ∀ c a w, Q (.panic c) (a.put oi.dst v) w -> Q (.panic c) a w := by exact fun _ _ _ h => h)
    (hy : YieldsIf P ops S oi v a := by refine Or.inl ⟨by rfl, ?_⟩; intro w' s_; (repeat (have s0_ := s_.1; replace s_ := s_.2)); go_simp; with_reducible rfl)
    (ha : a.put (some n) v = a' := by simp only [Act.put, List.setIfInBounds_toArray, List.set_cons_zero, List.set_cons_succ, i64_w, i32_w]; rfl) : wpAnyLast P md ops Q S ds (fuel + 1) (bt m y) a w :=
  take_ (bt m x) hi hN hc hQ hy hS ha h
theorem on_ (i : Nat) (N : Option Tmp) (x : Nat) {oi : Oper}
    (h : ∀ K : Act -> World -> Prop, Shut (∀ a' w', S w' -> (S w' -> wpAnyLast P md ops Q S ds fuel (bt m x) a' w') -> K a' w') -> if Region.wanted oi (yielded ops a.tmps) = true then Oper.wp P oi a w K Q else K (a.put N undef) w)
    (hi : ops[i]? = some oi := by rfl) (hN : oi.dst = N := by rfl) (hc : (Region.ready md ops (bt m y) == [i] && (bt m y).setIfInBounds i true == bt m x) = true := by kernel_rfl) (hd : i ∉ ds := by decide) :
    wpAnyLast P md ops Q S ds (fuel + 1) (bt m y) a w := one_ (bt m x) hi hN hc hd h
theorem la_ (i : Nat) (N : Option Tmp) (x : Nat) {oi : Oper}
    (h : ∀ K : Act -> World -> Prop, Shut (∀ a' w', wpAnyLast P md ops Q S ds fuel (bt m x) a' w' -> K a' w') -> if Region.wanted oi (yielded ops a.tmps) = true then Oper.wp P oi a w K Q else K (a.put N undef) w)
    (hi : ops[i]? = some oi := by rfl) (hN : oi.dst = N := by rfl) (hc : (Region.ready md ops (bt m y) == [i] && (bt m y).setIfInBounds i true == bt m x) = true := by kernel_rfl) (hd : i ∈ ds := by decide) :
    wpAnyLast P md ops Q S ds (fuel + 1) (bt m y) a w := last_ (bt m x) hi hN hc hd h
theorem no_ (n : Nat) {a0 a' : Act} {v : Value} {l : Array Bool} (h : wpAnyLast P md ops Q S ds fuel l a' w) (ha : Act.put a0 (some n) v = a' := by simp only [Act.put, List.setIfInBounds_toArray, List.set_cons_zero, List.set_cons_succ, i64_w, i32_w]; rfl) : wpAnyLast P md ops Q S ds fuel l (Act.put a0 (some n) v) w := norm_ ha h
theorem tw_ (i j : Nat) (Ni Nj : Option Tmp) (x z : Nat) {oi oj : Oper}
    (h1 : ∀ K : Act -> World -> Prop, Shut (∀ a' w', S w' -> (S w' -> wpAnyLast P md ops Q S ds fuel (bt m x) a' w') -> K a' w') -> if Region.wanted oi (yielded ops a.tmps) = true then Oper.wp P oi a w K Q else K (a.put Ni undef) w)
    (h2 : ∀ K : Act -> World -> Prop, Shut (∀ a' w', S w' -> (S w' -> wpAnyLast P md ops Q S ds fuel (bt m z) a' w') -> K a' w') -> if Region.wanted oj (yielded ops a.tmps) = true then Oper.wp P oj a w K Q else K (a.put Nj undef) w)
    (hi : ops[i]? = some oi := by rfl) (hj : ops[j]? = some oj := by rfl) (hNi : oi.dst = Ni := by rfl) (hNj : oj.dst = Nj := by rfl)
    (hc : (Region.ready md ops (bt m y) == [i, j] && (bt m y).setIfInBounds i true == bt m x && (bt m y).setIfInBounds j true == bt m z) = true := by kernel_rfl) (hdi : i ∉ ds := by decide) (hdj : j ∉ ds := by decide) :
    wpAnyLast P md ops Q S ds (fuel + 1) (bt m y) a w := two_ _ _ hi hj hNi hNj hc hdi hdj h1 h2
theorem go_ {oi : Oper} {N : Option Tmp} {K : Act -> World -> Prop} {f : FuncId} {fn : Func} {ar : Array Operand} {ts : Array TypeId} (hf : P.funcs[f]? = some fn) (args : Array Value)
    (h : Calls P f args w fun e w' => ∃ v, e = .returned v /\ K (a.put N v) w')
    (hname : (fn.name == "runtime.NumGoroutine") = false := by kernel_rfl) (hb : fn.body.isSome = true := by rfl)
    (hw : Region.wanted oi (yielded ops a.tmps) = true := by rfl) (hN : oi.dst = N := by rfl) (hop : oi.op = .call { callee := .value (.func f), args := ar, argTypes := ts } := by rfl)
    (hargs : ar.map a.eval = args := by simp only [List.map_toArray, List.map_cons, List.map_nil]; rfl) : if Region.wanted oi (yielded ops a.tmps) = true then Oper.wp P oi a w K Q else K (a.put N undef) w :=
  goes_ hf hname hb args hw hN hop hargs h
end
end Go.Proofs.Ytoddejmlcnbdmaa.Gen
open Go.Proofs.Ytoddejmlcnbdmaa.Gen
namespace Go.Proofs.Ytoddejmlcnbdmaa.Pure
theorem wrap_ok {n : Int} (h0 : -9223372036854775808 <= n) (h1 : n <= 9223372036854775807) : wrap64 n = n := IntWalk.wrap64_in n ⟨h0, h1⟩
theorem wrap_succ {i : Nat} (h : i <= 9223372036854775806) : wrap64 ((i : Int) + 1) = ((i + 1 : Nat) : Int) := by
 rw [wrap_ok (by omega) (by omega)]; omega
theorem nat_nonneg (i : Nat) : (0 : Int) <= (i : Int) := by omega
section
variable {α : Type} {l t : List α} {i : Nat} {x z : α}
theorem drop_nil (h : l.drop i = []) : ¬ ((i : Int) < (l.length : Int)) := by
 have := List.drop_eq_nil_iff.1 h
 omega
theorem drop_cons (h : l.drop i = x :: t) : ((i : Int) < (l.length : Int)) /\ l[i]? = some x /\ l.drop (i + 1) = t := by
 have hlt : i < l.length := by
  rcases Nat.lt_or_ge i l.length with h1 | h1
  ·exact h1
  ·rw [List.drop_eq_nil_of_le h1] at h; cases h
 rw [List.drop_eq_getElem_cons hlt] at h
 injection h with h1 h2
 exact ⟨by omega, by rw [List.getElem?_eq_getElem hlt, h1], h2⟩
theorem drop_len (h : l.drop i = t) (hi : i <= l.length) : i + t.length = l.length := by
 rw [<- h, List.length_drop]; omega
theorem getD_at (h : l[i]? = some x) : l.getD ((i : Nat) : Int).toNat z = x := by
 rw [Int.toNat_natCast, List.getD_eq_getElem?_getD, h]; rfl
theorem take_drop_set {n : Nat} {y : α} (h : l.drop i = x :: t) : (l.take i ++ List.replicate (n + 1) z).set i y = l.take i ++ [y] ++ List.replicate n z := by
 have hlt : i < l.length := by have := (drop_cons h).1; omega
 have h0 : i = (l.take i).length := by rw [List.length_take]; omega
 rw [List.set_append_right _ _ (by omega)]
 have h1 : i - (l.take i).length = 0 := by omega
 rw [h1, List.replicate_succ]
 simp
theorem take_next (h : l.drop i = x :: t) : l.take (i + 1) = l.take i ++ [x] := by
 have hlt : i < l.length := by have := (drop_cons h).1; omega
 rw [List.take_succ_eq_append_getElem hlt]
 have := (drop_cons h).2.1
 rw [List.getElem?_eq_getElem hlt] at this
 injection this with this
 rw [this]
theorem take_all (h : l.drop i = []) : l.take i = l := List.take_of_length_le (List.drop_eq_nil_iff.1 h)
end
theorem rd_at {l : List Int} {i : Nat} {x : Int} (h : l[i]? = some x) : rd l (i : Int) = x := getD_at h
theorem rdOf_at {α : Type} {l : List α} {i : Nat} {x z : α} (h : l[i]? = some x) : rdOf z l (i : Int) = x := getD_at h
theorem ev_down (n : Nat) (P : Nat -> Prop) (hn : P n) (hs : ∀ i, i < n -> P (i + 1) -> P i) : P 0 := by
 have : ∀ d, d <= n -> P (n - d) := by
  intro d
  induction d with
  | zero => intro _; simpa using hn
  | succ d ih =>
   intro hd
   refine hs _ (by omega) ?_
   have e : n - (d + 1) + 1 = n - d := by omega
   rw [e]
   exact ih (by omega)
 have := this n (Nat.le_refl _)
 simpa using this
theorem Ev.all {α : Type} {g : Nat -> Option α} {r : α} (h : ∀ k, g k = some r) : Ev g r := ⟨0, fun k _ => h k⟩
theorem Ev.next {α : Type} {g f : Nat -> Option α} {r : α} {K : Nat} (h : ∀ k, K <= k -> g (k + 1) = f k) (hf : Ev f r) : Ev g r := by
 obtain ⟨K', hf⟩ := hf
 refine ⟨max K K' + 1, fun k hk => ?_⟩
 obtain ⟨m, rfl⟩ : ∃ m, k = m + 1 := ⟨k - 1, by omega⟩
 rw [h m (by omega)]
 exact hf m (by omega)
theorem Ev.same {α : Type} {g f : Nat -> Option α} {r : α} {K : Nat} (h : ∀ k, K <= k -> g k = f k) (hf : Ev f r) : Ev g r := by
 obtain ⟨K', hf⟩ := hf
 exact ⟨max K K', fun k hk => (h k (by omega)).trans (hf k (by omega))⟩
theorem copy_ev {α β : Type} (L : Nat -> List β -> Int -> Option (List β)) (f : α -> β) (z : β) (l : List α)
  (hend : ∀ k x3, L (k + 1) x3 (l.length : Int) = some x3)
  (hstep : ∀ (i : Nat) (x : α), l[i]? = some x -> ∃ K, ∀ k (x3 : List β), K <= k -> x3.length = l.length -> L (k + 1) x3 (i : Int) = L k (x3.set i (f x)) ((i + 1 : Nat) : Int)) :
  Ev (fun k => L k (List.replicate l.length z) 0) (l.map f) := by
 have := ev_down l.length (fun i => Ev (fun k => L k ((l.take i).map f ++ List.replicate (l.length - i) z) (i : Int)) (l.map f)) ?_ ?_
 ·simpa using this
 ·refine ⟨1, fun k hk => ?_⟩
  obtain ⟨m, rfl⟩ : ∃ m, k = m + 1 := ⟨k - 1, by omega⟩
  dsimp only
  rw [hend]
  simp
 ·intro i hi ih
  have hx : l[i]? = some l[i] := List.getElem?_eq_getElem hi
  obtain ⟨K, hK⟩ := hstep i _ hx
  refine Ev.next (K := K) (fun k hk => ?_) ih
  rw [hK k _ hk (by simp; omega)]
  congr 1
  have h0 : i = ((l.take i).map f).length := by simp; omega
  rw [List.set_append_right _ _ (by omega)]
  have h1 : i - ((l.take i).map f).length = 0 := by omega
  have h2 : l.length - i = (l.length - (i + 1)) + 1 := by omega
  rw [h1, h2, List.replicate_succ, List.set_cons_zero, List.take_succ_eq_append_getElem hi, List.map_append]
  simp
theorem all_ev {ρ : Type} (L : Nat -> Int -> Option ρ) (n : Nat) (r : ρ) (hend : ∀ k, L (k + 1) (n : Int) = some r)
  (hstep : ∀ (i : Nat), i < n -> ∃ K, ∀ k, K <= k -> L (k + 1) (i : Int) = L k ((i + 1 : Nat) : Int)) : Ev (fun k => L k 0) r := by
 have := ev_down n (fun i => Ev (fun k => L k (i : Int)) r) ⟨1, fun k hk => by obtain ⟨m, rfl⟩ : ∃ m, k = m + 1 := ⟨k - 1, by omega⟩; exact hend m⟩ (fun i hi ih => by
  obtain ⟨K, hK⟩ := hstep i hi
  exact Ev.next hK ih)
 simpa using this
theorem cnd_ {p : Prop} (h : p := by first | omega | assumption | rfl | (simp only [List.length_map, List.length_replicate, List.length_take, List.length_drop, List.length_append, List.length_cons, List.length_nil, List.length_set]; omega) | (simp <;> fail)) : p := h
section
variable {α β γ δ : Type}
theorem Ev.up {g : Nat -> Option α} {r : α} (h : Ev (fun k => g (k + 1)) r) : Ev g r := Ev.next (K := 0) (fun _ _ => rfl) h
theorem Ev.ifp {c : Prop} {dc : Decidable c} {A B : Nat -> Option α} {r : α} (hc : c) (h : Ev A r) : Ev (fun k => if c then A k else B k) r :=
 Ev.same (K := 0) (fun k _ => by rw [if_pos hc]) h
theorem Ev.ifn {c : Prop} {dc : Decidable c} {A B : Nat -> Option α} {r : α} (hc : ¬ c) (h : Ev B r) : Ev (fun k => if c then A k else B k) r :=
 Ev.same (K := 0) (fun k _ => by rw [if_neg hc]) h
theorem Ev.val {a r : α} (h : a = r) : Ev (fun _ => some a) r := Ev.all fun _ => by rw [h]
theorem Ev.bindS {a : α} {f : Nat -> α -> Option β} {r : β} (h : Ev (fun k => f k a) r) : Ev (fun k => (some a).bind (f k)) r := Ev.bind (Ev.val rfl) h
variable {R : α -> β -> Prop} {A A1 A2 : Nat -> Option α} {B B1 B2 : Nat -> Option β}
end
theorem decT {p : Prop} [Decidable p] : (decide p = true) = p := decide_eq_true_eq
end Go.Proofs.Ytoddejmlcnbdmaa.Pure
namespace Go.Proofs.Ytoddejmlcnbdmaa.Fn
def errW : Option Int -> Value
  | none => .nilIface
  | some c => .iface 0 (.int .i64 c)
theorem errW_none : errW none = .nilIface := rfl
theorem errW_some (c : Int) : errW (some c) = .iface 0 (.int .i64 c) := rfl
theorem ew_ {p : Prop} (h : p := by first | rfl | (simp [errW_none, errW_some] <;> rfl) | (simp [*, errW_none, errW_some] <;> rfl)) : p := h
theorem info3 : (Try.prog.info? 3).map (fun i => (i.zero, i.size, i.bytes)) = some (some (.int .i64 0), 1, 8) := by kernel_rfl
theorem info9 : (Try.prog.info? 9).map (fun i => (i.zero, i.size, i.bytes)) = some (some (.string ⟨#[]⟩), 1, 16) := by kernel_rfl
theorem info110 : (Try.prog.info? 110).map (fun i => (i.zero, i.size, i.bytes)) = some (some (.agg #[(.slice none 0 0), (.slice none 0 0), (.slice none 0 0)]), 3, 72) := by kernel_rfl
structure S115 where
  f0 : (List ByteArray)
  f1 : (List ByteArray)
  f2 : (List Int)
def z115 : S115 := ⟨([] : List ByteArray), ([] : List ByteArray), ([] : List Int)⟩
def k115 : Kd S115 := Kd.iso (Kd.pair (Kd.slice 9 Kd.string) (Kd.pair (Kd.slice 9 Kd.string) (Kd.slice 3 (Kd.int .i64)))) (fun x : S115 => (x.f0, x.f1, x.f2))
theorem k115_open {w : World} {x : S115} {cs : List Value} (h : k115.K w x cs) : ∃ A0 c0 A1 c1 A2 c2, cs = [.slice A0 x.f0.length c0, .slice A1 x.f1.length c1, .slice A2 x.f2.length c2] /\ x.f0.length <= c0 /\ Kd.string.C w A0 x.f0.length x.f0 /\ x.f1.length <= c1 /\ Kd.string.C w A1 x.f1.length x.f1 /\ x.f2.length <= c2 /\ (Kd.int .i64).C w A2 x.f2.length x.f2 := by
  obtain ⟨_, _, rfl, ⟨A0, c0, rfl, l0, g0⟩, ⟨_, _, rfl, ⟨A1, c1, rfl, l1, g1⟩, ⟨A2, c2, rfl, l2, g2⟩⟩⟩ := h
  exact ⟨A0, c0, A1, c1, A2, c2, rfl, l0, g0, l1, g1, l2, g2⟩
def rd_T115 (xs : List S115) (i : Int) : S115 := xs.getD i.toNat z115
theorem at_T115 {w : World} {A : Option Addr} {n : Nat} {xs : List S115} (h : Kd.C k115 w A n xs) (i : Int) (h0 : 0 <= i) (h1 : i < n) : ∃ ad A0 c0 A1 c1 A2 c2, A = some ad /\ w.cell? (ad.add (i.toNat * 3)) = some (.slice A0 (rd_T115 xs i).f0.length c0) /\ w.cell? ⟨(ad.add (i.toNat * 3)).block, (ad.add (i.toNat * 3)).off + 1, none⟩ = some (.slice A1 (rd_T115 xs i).f1.length c1) /\ w.cell? ⟨(ad.add (i.toNat * 3)).block, (ad.add (i.toNat * 3)).off + 2, none⟩ = some (.slice A2 (rd_T115 xs i).f2.length c2) /\ (rd_T115 xs i).f0.length <= c0 /\ Kd.string.C w A0 (rd_T115 xs i).f0.length (rd_T115 xs i).f0 /\ (rd_T115 xs i).f1.length <= c1 /\ Kd.string.C w A1 (rd_T115 xs i).f1.length (rd_T115 xs i).f1 /\ (rd_T115 xs i).f2.length <= c2 /\ (Kd.int .i64).C w A2 (rd_T115 xs i).f2.length (rd_T115 xs i).f2 := by
  obtain ⟨ad, c, e, _, hK, hc0⟩ := Kd.C_get h z115 i h0 h1
  have hc : ∀ j u, c[j]? = some u -> w.cell? (ad.add (i.toNat * 3 + j)) = some u := hc0
  obtain ⟨A0, c0, A1, c1, A2, c2, rfl, l0, g0, l1, g1, l2, g2⟩ := k115_open hK
  exact ⟨ad, A0, c0, A1, c1, A2, c2, e, hc 0 _ rfl, by rw [<- add_field _ _ 1 (by omega)]; exact hc 1 _ rfl, by rw [<- add_field _ _ 2 (by omega)]; exact hc 2 _ rfl, l0, g0, l1, g1, l2, g2⟩
structure S110 where
  f0 : (List ByteArray)
  f1 : (List ByteArray)
  f2 : (List Int)
def z110 : S110 := ⟨([] : List ByteArray), ([] : List ByteArray), ([] : List Int)⟩
def k110 : Kd S110 := Kd.iso (Kd.pair (Kd.slice 9 Kd.string) (Kd.pair (Kd.slice 9 Kd.string) (Kd.slice 3 (Kd.int .i64)))) (fun x : S110 => (x.f0, x.f1, x.f2))
theorem k110_open {w : World} {x : S110} {cs : List Value} (h : k110.K w x cs) : ∃ A0 c0 A1 c1 A2 c2, cs = [.slice A0 x.f0.length c0, .slice A1 x.f1.length c1, .slice A2 x.f2.length c2] /\ x.f0.length <= c0 /\ Kd.string.C w A0 x.f0.length x.f0 /\ x.f1.length <= c1 /\ Kd.string.C w A1 x.f1.length x.f1 /\ x.f2.length <= c2 /\ (Kd.int .i64).C w A2 x.f2.length x.f2 := by
  obtain ⟨_, _, rfl, ⟨A0, c0, rfl, l0, g0⟩, ⟨_, _, rfl, ⟨A1, c1, rfl, l1, g1⟩, ⟨A2, c2, rfl, l2, g2⟩⟩⟩ := h
  exact ⟨A0, c0, A1, c1, A2, c2, rfl, l0, g0, l1, g1, l2, g2⟩
theorem k110_mkM (w : World) (base : Nat) (ok : Nat -> Prop) (x : S110) {v0 : Value} (g0 : Kd.string.R 9 w base ok v0 x.f0) {v1 : Value} (g1 : Kd.string.R 9 w base ok v1 x.f1) {v2 : Value} (g2 : (Kd.int .i64).R 3 w base ok v2 x.f2) : k110.M w base ok x [v0, v1, v2] := ⟨[v0], [v1, v2], rfl, ⟨v0, rfl, g0⟩, ⟨[v1], [v2], rfl, ⟨v1, rfl, g1⟩, ⟨v2, rfl, g2⟩⟩⟩
def rd_T110 (xs : List S110) (i : Int) : S110 := xs.getD i.toNat z110
theorem at_T110 {w : World} {A : Option Addr} {n : Nat} {xs : List S110} (h : Kd.C k110 w A n xs) (i : Int) (h0 : 0 <= i) (h1 : i < n) : ∃ ad A0 c0 A1 c1 A2 c2, A = some ad /\ w.cell? (ad.add (i.toNat * 3)) = some (.slice A0 (rd_T110 xs i).f0.length c0) /\ w.cell? ⟨(ad.add (i.toNat * 3)).block, (ad.add (i.toNat * 3)).off + 1, none⟩ = some (.slice A1 (rd_T110 xs i).f1.length c1) /\ w.cell? ⟨(ad.add (i.toNat * 3)).block, (ad.add (i.toNat * 3)).off + 2, none⟩ = some (.slice A2 (rd_T110 xs i).f2.length c2) /\ (rd_T110 xs i).f0.length <= c0 /\ Kd.string.C w A0 (rd_T110 xs i).f0.length (rd_T110 xs i).f0 /\ (rd_T110 xs i).f1.length <= c1 /\ Kd.string.C w A1 (rd_T110 xs i).f1.length (rd_T110 xs i).f1 /\ (rd_T110 xs i).f2.length <= c2 /\ (Kd.int .i64).C w A2 (rd_T110 xs i).f2.length (rd_T110 xs i).f2 := by
  obtain ⟨ad, c, e, _, hK, hc0⟩ := Kd.C_get h z110 i h0 h1
  have hc : ∀ j u, c[j]? = some u -> w.cell? (ad.add (i.toNat * 3 + j)) = some u := hc0
  obtain ⟨A0, c0, A1, c1, A2, c2, rfl, l0, g0, l1, g1, l2, g2⟩ := k110_open hK
  exact ⟨ad, A0, c0, A1, c1, A2, c2, e, hc 0 _ rfl, by rw [<- add_field _ _ 1 (by omega)]; exact hc 1 _ rfl, by rw [<- add_field _ _ 2 (by omega)]; exact hc 2 _ rfl, l0, g0, l1, g1, l2, g2⟩
theorem q102_0 {p0 q : Prop} (h0 : p0) (h : p0 -> q := by intro q0_; repeat (first | (with_reducible first | exact q0_ | apply Kept.alloc | apply Kept.drewN | apply Kept.drew) | exact q0_)) : q := h h0
def laws_markIntS.l0 : Nat -> List Int -> Int -> Int -> Option (Int × List Int)
 | 0, _, _, _ => none
 | k + 1, x0, x1, x5 => if x5 < (x0.length : Int) then (if 0 <= x5 then (laws_markIntS.l0 k (x0.set (x5 : Int).toNat x1) (wrap64 (x1 + 1)) (wrap64 (x5 + 1))) else (none)) else (some (x1, x0))
def laws_markIntS.f (k : Nat) (l0 : List Int) (a1 : Int) : Option (Int × List Int) := laws_markIntS.l0 k l0 a1 0
theorem laws_markIntS.calls (k : Nat) (P0_ : Nat -> Prop) (u9000_ : Value) (l0 : List Int) (a1 : Int) (r1 : Int) (r2 : List Int) (w0 w : World) (hB : Below w0.heap.size w0 w) (ho0 : Kd.R (Kd.int .i64) 3 w w0.heap.size P0_ u9000_ l0) (h : laws_markIntS.f k l0 a1 = some (r1, r2)) :
  Calls Try.prog 102 #[u9000_, .int .i64 a1] w fun e w' => e = .returned (.int .i64 r1) /\ Kd.R (Kd.int .i64) 3 w' w0.heap.size (fun k_ => (P0_ k_ ∨ w.heap.size <= k_)) u9000_ r2 /\ Below w0.heap.size w0 w' /\ Kept w w' (fun k_ => P0_ k_) := by
 have HO0 := A_ (show Kd.R (Kd.int .i64) 3 w w0.heap.size (fun k_ => (P0_ k_ ∨ w.heap.size <= k_)) u9000_ l0 from Kd.R_mono ho0 (fun k_ hk => (.inl hk)))
 have HK := A_ (Kept.refl w (fun k_ => P0_ k_))
 have HW0 := A_ hB.size
 have HB := A_ hB
 clear hB
 have H : (laws_markIntS.l0 k l0 a1 0) = some (r1, r2) := h
 clear h
 have H' := A_ H
 clear H
 go_enter Try.func102, Try.ntmps102
 go_wp2
 go_loopg [1, 5] k (fun kq v1 v5 w' => ∃ (x0_1 : List Int) (x1_1 : Int) (x5_1 : Int), v1 = .int .i64 x1_1 /\ v5 = .int .i64 x5_1 /\ Aside0 (laws_markIntS.l0 kq x0_1 x1_1 x5_1 = some (r1, r2)) /\ Aside0 (kq <= k) /\ Aside0 (Kd.R (Kd.int .i64) 3 w' w0.heap.size (fun k_ => (P0_ k_ ∨ w.heap.size <= k_)) u9000_ x0_1) /\ Aside0 (Kept w w' (fun k_ => P0_ k_)) /\ Aside0 (Below w0.heap.size w0 w'))
 case atStart => exact ⟨(l0), (a1), (0), (by first | rfl | (simp; done) | (simp [*]; done)), (by first | rfl | (simp; done) | (simp [*]; done)), H', ⟨Nat.le_refl _⟩, ⟨rk_ HO0.out⟩, ⟨q102_0 HK.out⟩, ⟨be_ HB.out⟩⟩
 case round =>
  clear H'
  (try clear c1); (try clear p2)
  obtain ⟨x0_1, x1_1, x5_1, rfl, rfl, HA, HK1, HO_0, HK, HB⟩ := hrel
  cases gk with
  | zero => exact absurd HA.out (by simp [laws_markIntS.l0])
  | succ k1 =>
   have H := HA.out
   clear HA
   simp only [laws_markIntS.l0] at H
   by_cases c3 : x5_1 < (x0_1.length : Int)
   ·rw [if_pos c3] at H
    have c3b0 : decide (x5_1 < (x0_1.length : Int)) = true := decide_eq_true c3
    clear c3
    by_cases c4 : 0 <= x5_1
    ·rw [if_pos c4] at H
     have c4b0 : decide (0 <= x5_1) = true := decide_eq_true c4
     clear c4
     obtain ⟨y209, hy209⟩ : ∃ y_ : List Int, y_ = (x0_1.set (x5_1 : Int).toNat x1_1) := ⟨_, rfl⟩
     replace H : (laws_markIntS.l0 k1 y209 (wrap64 (x1_1 + 1)) (wrap64 (x5_1 + 1))) = some (r1, r2) := by first | (rw [hy209]; with_reducible exact H) | (have H2_ := (Option.bind_some _ _).symm.trans H; rw [hy209]; with_reducible exact H2_) | (have H2_ := (Option.bind_some _ _).symm.trans H; with_reducible exact H2_) | with_reducible exact H | (rw [hy209]; exact H) | exact H
     have Ny209 := A_ hy209
     clear hy209
     have H' := A_ H
     clear H
     obtain ⟨Ao6, co6, eo6⟩ := Kd.R_slice HO_0.out
     subst eo6
     have p5 : 0 <= (x5_1 : Int) := of_decide_eq_true as_
     have q5 : (x5_1 : Int) < ((x0_1.length : Int) : Int) := of_decide_eq_true as_
     obtain ⟨go5, co5, eo5, gb5, gl5, cl5, HG5⟩ := Kd.R_form HO_0.out (by omega)
     (first | cases eo5 | (injection eo5 with ea_ en_ ec_; (first | subst ea_ | (injection ea_ with ea_; subst ea_)); subst ec_; clear en_))
     have GB5 := A_ gb5
     have GG5 := A_ HG5
     clear gb5 gl5 HG5
     have HMgo5 := A_ (show (P0_ go5 ∨ w.heap.size <= go5) from (HO_0.out.1 _ rfl))
     obtain ⟨hx5_0, hf5_0⟩ := Kd.R_celln 0 HO_0.out (x5_1 : Int) p5 q5
     replace p5 := eq_true p5
     replace q5 := eq_true q5
     have HP7 := Kd.R_putg HO_0.out (x5_1 : Int) x1_1
     go_wp2_with (first | ((with_reducible refine gate_store (t := 3) (p := 15) rfl ?_); refine store_event (t := 3) (p := 15) (v := ?vo_w8) (w1 := (wr.setCell ⟨go5, (x5_1 : Int).toNat, none⟩ (.int .i64 x1_1))) ?hg ?ho ?hn ?hr ?_; (case ho => rfl); (case hg => rfl); (case hn => rfl); (case hr => first | (go_simp; done) | (go_simp; rfl)); intro w8 hw; have hg : wr.grownBy w8 (some go5) := (by rw [hw]; exact HP7.2); have hp_ : Kd.R (Kd.int .i64) 3 w8 w0.heap.size (fun k_ => (P0_ k_ ∨ w.heap.size <= k_)) (.slice (some ⟨go5, 0, none⟩) x0_1.length co6) y209 := (by rw [hw, Ny209.out]; exact HP7.1); clear HP7; have n0_ := A_ (hp_); have n1_ := A_ ((by rw [hw]; exact below_set (HB.out) GB5.out : Below w0.heap.size w0 w8)); have n2_ := A_ (Kept.of_grown (S := (fun k_ => P0_ k_)) hg (q102_0 HK.out) (fun k_ e_ => (HO_0.out.1 k_ e_))); clear HO_0; clear HB; clear HK; have HO_0 := n0_; have HB := n1_; have HK := n2_; clear n0_ n1_ n2_; clear hg hw hp_))
     go_roundg k1
     case measure => have := HK1.out; omega
     case rel => exact ⟨(y209), (wrap64 (x1_1 + 1)), (wrap64 (x5_1 + 1)), (by first | rfl | (simp; done) | (simp [*]; done)), (by first | rfl | (simp; done) | (simp [*]; done)), H', ⟨by have := HK1.out; omega⟩, ⟨rk_ HO_0.out⟩, ⟨q102_0 HK.out⟩, ⟨be_ HB.out⟩⟩
    ·rw [if_neg c4] at H
     exact absurd H (by simp)
   ·rw [if_neg c3] at H
    have c3b0 : decide (x5_1 < (x0_1.length : Int)) = false := decide_eq_false c3
    clear c3
    simp only [Option.some.injEq, Prod.mk.injEq] at H
    obtain ⟨rfl, rfl⟩ := H
    obtain ⟨Ao9, co9, eo9⟩ := Kd.R_slice HO_0.out
    subst eo9
    go_wp2
    go_ret
    exact ⟨ew_, by (with_reducible repeat (first | apply Kd.R_alloc | apply Kd.R_drewN | apply Kd.R_drew)); exact HO_0.out, by repeat (first | (with_reducible first | exact HB.out | apply below_alloc | apply pw_below_drewN | apply below_drew1) | exact HB.out), by repeat (first | (with_reducible first | exact HK.out | apply Kept.alloc | apply Kept.drewN | apply Kept.drew) | exact HK.out)⟩
def laws_markText.l0 : Nat -> Int -> ByteArray -> Option (ByteArray)
 | 0, _, _ => none
 | k + 1, x0, x3 => if x0 > 0 then ((some (([(wrap64 (48 + (Int.tmod x0 10))) % 256] : List Int) : List Int)).bind fun y204 => (if (strOfNums y204).size + x3.size <= 9223372036854775807 then (laws_markText.l0 k (wrap64 (Int.tdiv x0 10)) ((strOfNums y204) ++ x3)) else (none))) else (if 1 + x3.size <= 9223372036854775807 then (some ((⟨#[109]⟩ : ByteArray) ++ x3)) else (none))
def laws_markText.f (k : Nat) (a0 : Int) : Option (ByteArray) := if a0 <= 0 then (some (⟨#[109, 48]⟩ : ByteArray)) else (laws_markText.l0 k a0 (⟨#[]⟩ : ByteArray))
theorem laws_markText.calls (k : Nat) (a0 : Int) (r : ByteArray) (w : World) (h : laws_markText.f k a0 = some r) :
  Calls Try.prog 68 #[.int .i64 a0] w fun e w' => e = .returned (.string r) /\ Below w.heap.size w w' := by
 have HB := A_ (Below.refl w.heap.size w)
 have H : (if a0 <= 0 then (some (⟨#[109, 48]⟩ : ByteArray)) else (laws_markText.l0 k a0 (⟨#[]⟩ : ByteArray))) = some r := h
 clear h
 by_cases c2 : a0 <= 0
 ·rw [if_pos c2] at H
  have c2b0 : decide (a0 <= 0) = true := decide_eq_true c2
  clear c2
  obtain rfl := Option.some.inj H
  go_enter Try.func68, Try.ntmps68
  go_wp2
  go_ret
  exact ⟨ew_, by repeat (first | (with_reducible first | exact HB.out | apply below_alloc | apply pw_below_drewN | apply below_drew1) | exact HB.out)⟩
 ·rw [if_neg c2] at H
  have c2b0 : decide (a0 <= 0) = false := decide_eq_false c2
  clear c2
  have H' := A_ H
  clear H
  go_enter Try.func68, Try.ntmps68
  go_wp2
  go_loopg [0, 3] k (fun kq v0 v3 w' => ∃ (x0_1 : Int) (x3_1 : ByteArray), v0 = .int .i64 x0_1 /\ v3 = .string x3_1 /\ Aside0 (laws_markText.l0 kq x0_1 x3_1 = some r) /\ Aside0 (kq <= k) /\ Aside0 (Below w.heap.size w w'))
  case atStart => exact ⟨(a0), ((⟨#[]⟩ : ByteArray)), (by first | rfl | (simp; done) | (simp [*]; done)), (by first | rfl | (simp; done) | (simp [*]; done)), H', ⟨Nat.le_refl _⟩, ⟨be_ HB.out⟩⟩
  case round =>
   clear H'
   (try clear c2); (try clear c2b0); (try clear p2)
   obtain ⟨x0_1, x3_1, rfl, rfl, HA, HK1, HB⟩ := hrel
   cases gk with
   | zero => exact absurd HA.out (by simp [laws_markText.l0])
   | succ k1 =>
    have H := HA.out
    clear HA
    simp only [laws_markText.l0] at H
    by_cases c3 : x0_1 > 0
    ·rw [if_pos c3] at H
     have c3b0 : decide (0 < x0_1) = true := decide_eq_true c3
     clear c3
     obtain ⟨y204, hy204⟩ : ∃ y_ : List Int, y_ = (([(wrap64 (48 + (Int.tmod x0_1 10))) % 256] : List Int)) := ⟨_, rfl⟩
     replace H : (if (strOfNums y204).size + x3_1.size <= 9223372036854775807 then (laws_markText.l0 k1 (wrap64 (Int.tdiv x0_1 10)) ((strOfNums y204) ++ x3_1)) else (none)) = some r := by first | (rw [hy204]; with_reducible exact H) | (have H2_ := (Option.bind_some _ _).symm.trans H; rw [hy204]; with_reducible exact H2_) | (have H2_ := (Option.bind_some _ _).symm.trans H; with_reducible exact H2_) | with_reducible exact H | (rw [hy204]; exact H) | exact H
     have Ny204 := A_ hy204
     clear hy204
     by_cases c4 : (strOfNums y204).size + x3_1.size <= 9223372036854775807
     ·rw [if_pos c4] at H
      have c4b0 := eq_true c4
      have c4b1 : decide ((strOfNums y204).size + x3_1.size <= 9223372036854775807) = true := decide_eq_true c4
      try have c4b2 : (9223372036854775807 < (strOfNums y204).size + x3_1.size) = False := eq_false (Nat.not_lt.2 c4)
      have H' := A_ H
      clear H
      go_wp2_with (first | ((with_reducible refine gate_dst (N := 12) rfl ?_); refine Kd.R_lit (Kd.int .u8) _ 5 ?hg (N := 12) ?hd (xs := ([(wrap64 (48 + (Int.tmod x0_1 10))) % 256] : List Int)) (inner := [.int .u8 ((wrap64 (48 + (Int.tmod x0_1 10))) % 256)]) (ok := fun _ => True) (okp := fun _ => True) ?hr ?hp (fun _ hk => hk) trivial (Below.refl _ _) (Nat.le_refl _) (by simp) ?_; (case hd => rfl); (case hg => rfl); (case hr => first | (go_simp; done) | (go_simp; rfl)); (case hp => exact (Reps.one (show Kd.M (Kd.int .u8) _ _ _ ((wrap64 (48 + (Int.tmod x0_1 10))) % 256) [.int .u8 ((wrap64 (48 + (Int.tmod x0_1 10))) % 256)] from rfl) (Reps.none _ _))); intro v205 w5 ho6 hb hg_ hnew_; clear hg_ hnew_; (first | rw [<- Ny204.out] at ho6 | (simp only [Int.reduceToNat] at ho6; rw [<- Ny204.out] at ho6)); have n0_ := A_ (Kd.R_lower ho6 (bw_ HB.out)); have n1_ := A_ (bs_ HB.out hb); clear HB; have HO206 := n0_; have HB := n1_; clear n0_ n1_; clear hb ho6; have hcv7 := own_string (P := Try.prog) Try.underlying56 Try.underlying5 Try.underlying9 (Kd.own_of_R HO206.out)))
      go_roundg k1
      case measure => have := HK1.out; omega
      case rel => exact ⟨(wrap64 (Int.tdiv x0_1 10)), ((strOfNums y204) ++ x3_1), (by first | rfl | (simp; done) | (simp [*]; done)), (by first | rfl | (simp; done) | (simp [*]; done)), H', ⟨by have := HK1.out; omega⟩, ⟨be_ HB.out⟩⟩
     ·rw [if_neg c4] at H
      exact absurd H (by simp)
    ·rw [if_neg c3] at H
     have c3b0 : decide (0 < x0_1) = false := decide_eq_false c3
     clear c3
     by_cases c8 : 1 + x3_1.size <= 9223372036854775807
     ·rw [if_pos c8] at H
      have c8b0 := eq_true c8
      have c8b1 : decide (1 + x3_1.size <= 9223372036854775807) = true := decide_eq_true c8
      try have c8b2 : (9223372036854775807 < 1 + x3_1.size) = False := eq_false (Nat.not_lt.2 c8)
      obtain rfl := Option.some.inj H
      go_wp2
      go_ret
      exact ⟨ew_, by repeat (first | (with_reducible first | exact HB.out | apply below_alloc | apply pw_below_drewN | apply below_drew1) | exact HB.out)⟩
     ·rw [if_neg c8] at H
      exact absurd H (by simp)
theorem q28_0 {p0 q : Prop} (h0 : p0) (h : p0 -> q := by intro q0_; repeat (first | (with_reducible first | exact q0_ | apply Kept.alloc | apply Kept.drewN | apply Kept.drew) | exact q0_)) : q := h h0
def laws_markStringS.l0 : Nat -> List ByteArray -> Int -> Int -> Option (Int × List ByteArray)
 | 0, _, _, _ => none
 | k + 1, x0, x1, x5 => if x5 < (x0.length : Int) then ((laws_markText.f k x1).bind fun t207 => (if 0 <= x5 then (laws_markStringS.l0 k (x0.set (x5 : Int).toNat t207) (wrap64 (x1 + 1)) (wrap64 (x5 + 1))) else (none))) else (some (x1, x0))
def laws_markStringS.f (k : Nat) (l0 : List ByteArray) (a1 : Int) : Option (Int × List ByteArray) := laws_markStringS.l0 k l0 a1 0
theorem laws_markStringS.calls (k : Nat) (P0_ : Nat -> Prop) (u9000_ : Value) (l0 : List ByteArray) (a1 : Int) (r1 : Int) (r2 : List ByteArray) (w0 w : World) (hB : Below w0.heap.size w0 w) (ho0 : Kd.R Kd.string 9 w w0.heap.size P0_ u9000_ l0) (h : laws_markStringS.f k l0 a1 = some (r1, r2)) :
  Calls Try.prog 28 #[u9000_, .int .i64 a1] w fun e w' => e = .returned (.int .i64 r1) /\ Kd.R Kd.string 9 w' w0.heap.size (fun k_ => (P0_ k_ ∨ w.heap.size <= k_)) u9000_ r2 /\ Below w0.heap.size w0 w' /\ Kept w w' (fun k_ => P0_ k_) := by
 have HO0 := A_ (show Kd.R Kd.string 9 w w0.heap.size (fun k_ => (P0_ k_ ∨ w.heap.size <= k_)) u9000_ l0 from Kd.R_mono ho0 (fun k_ hk => (.inl hk)))
 have HK := A_ (Kept.refl w (fun k_ => P0_ k_))
 have HW0 := A_ hB.size
 have HB := A_ hB
 clear hB
 have H : (laws_markStringS.l0 k l0 a1 0) = some (r1, r2) := h
 clear h
 have H' := A_ H
 clear H
 go_enter Try.func28, Try.ntmps28
 go_wp2
 go_loopg [1, 5] k (fun kq v1 v5 w' => ∃ (x0_1 : List ByteArray) (x1_1 : Int) (x5_1 : Int), v1 = .int .i64 x1_1 /\ v5 = .int .i64 x5_1 /\ Aside0 (laws_markStringS.l0 kq x0_1 x1_1 x5_1 = some (r1, r2)) /\ Aside0 (kq <= k) /\ Aside0 (Kd.R Kd.string 9 w' w0.heap.size (fun k_ => (P0_ k_ ∨ w.heap.size <= k_)) u9000_ x0_1) /\ Aside0 (Kept w w' (fun k_ => P0_ k_)) /\ Aside0 (Below w0.heap.size w0 w'))
 case atStart => exact ⟨(l0), (a1), (0), (by first | rfl | (simp; done) | (simp [*]; done)), (by first | rfl | (simp; done) | (simp [*]; done)), H', ⟨Nat.le_refl _⟩, ⟨rk_ HO0.out⟩, ⟨q28_0 HK.out⟩, ⟨be_ HB.out⟩⟩
 case round =>
  clear H'
  (try clear c2); (try clear p2)
  obtain ⟨x0_1, x1_1, x5_1, rfl, rfl, HA, HK1, HO_0, HK, HB⟩ := hrel
  cases gk with
  | zero => exact absurd HA.out (by simp [laws_markStringS.l0])
  | succ k1 =>
   have H := HA.out
   clear HA
   simp only [laws_markStringS.l0] at H
   by_cases c3 : x5_1 < (x0_1.length : Int)
   ·rw [if_pos c3] at H
    have c3b0 : decide (x5_1 < (x0_1.length : Int)) = true := decide_eq_true c3
    clear c3
    replace H := Option.bind_eq_some_iff.mp H
    obtain ⟨t207, A40, H⟩ := H
    replace H : (if 0 <= x5_1 then (laws_markStringS.l0 k1 (x0_1.set (x5_1 : Int).toNat t207) (wrap64 (x1_1 + 1)) (wrap64 (x5_1 + 1))) else (none)) = some (r1, r2) := H
    have A4 := A_ A40
    clear A40
    by_cases c5 : 0 <= x5_1
    ·rw [if_pos c5] at H
     have c5b0 : decide (0 <= x5_1) = true := decide_eq_true c5
     clear c5
     obtain ⟨y208, hy208⟩ : ∃ y_ : List ByteArray, y_ = (x0_1.set (x5_1 : Int).toNat t207) := ⟨_, rfl⟩
     replace H : (laws_markStringS.l0 k1 y208 (wrap64 (x1_1 + 1)) (wrap64 (x5_1 + 1))) = some (r1, r2) := by first | (rw [hy208]; with_reducible exact H) | (have H2_ := (Option.bind_some _ _).symm.trans H; rw [hy208]; with_reducible exact H2_) | (have H2_ := (Option.bind_some _ _).symm.trans H; with_reducible exact H2_) | with_reducible exact H | (rw [hy208]; exact H) | exact H
     have Ny208 := A_ hy208
     clear hy208
     have H' := A_ H
     clear H
     obtain ⟨Ao7, co7, eo7⟩ := Kd.R_slice HO_0.out
     subst eo7
     go_wp2_with (first | ((with_reducible refine gate_callee (f := 68) rfl ?_); refine goesL_ (some 15) rfl rfl Try.func68 (by kernel_rfl) rfl #[.int .i64 x1_1] rfl (ag_) ?_; (with_reducible refine (laws_markText.calls k1 x1_1 t207 _ A4.out).mono ?_); rintro e w8 ⟨rfl, hb⟩; refine ⟨_, rfl, ?_⟩; have n0_ := A_ (Kd.R_below (rk_ HO_0.out) hb); have n1_ := A_ (Kept.below (S := (fun k_ => P0_ k_)) (q28_0 HK.out) hb); have n2_ := A_ (bs_ HB.out hb); clear HO_0; clear HK; clear HB; have HO_0 := n0_; have HK := n1_; have HB := n2_; clear n0_ n1_ n2_; (try clear hb); (try clear hb2); (try clear hk); (try clear hi); have p6 : 0 <= (x5_1 : Int) := of_decide_eq_true as_; have q6 : (x5_1 : Int) < ((x0_1.length : Int) : Int) := of_decide_eq_true as_; obtain ⟨go6, co6, eo6, gb6, gl6, cl6, HG6⟩ := Kd.R_form HO_0.out (by omega); (first | cases eo6 | (injection eo6 with ea_ en_ ec_; (first | subst ea_ | (injection ea_ with ea_; subst ea_)); subst ec_; clear en_)); have GB6 := A_ gb6; have GG6 := A_ HG6; clear gb6 gl6 HG6; have HMgo6 := A_ (show (P0_ go6 ∨ w.heap.size <= go6) from (HO_0.out.1 _ rfl)); obtain ⟨hx6_0, hf6_0⟩ := Kd.R_celln (⟨#[]⟩ : ByteArray) HO_0.out (x5_1 : Int) p6 q6; replace p6 := eq_true p6; replace q6 := eq_true q6; obtain ⟨hy9_, hz9_⟩ := Kd.R_celln (⟨#[]⟩ : ByteArray) HO_0.out (x5_1 : Int) (of_decide_eq_true as_) (of_decide_eq_true as_); have HP9 := Kd.R_putg HO_0.out (x5_1 : Int) t207) | ((with_reducible refine gate_store (t := 9) (p := 16) rfl ?_); refine store_event (t := 9) (p := 16) (v := ?vo_w10) (w1 := (w8.setCell ⟨go6, (x5_1 : Int).toNat, none⟩ (.string t207))) ?hg ?ho ?hn ?hr ?_; (case ho => rfl); (case hg => rfl); (case hn => rfl); (case hr => first | (go_simp; done) | (go_simp; rfl)); intro w10 hw; have hg : w8.grownBy w10 (some go6) := (by rw [hw]; exact HP9.2); have hp_ : Kd.R Kd.string 9 w10 w0.heap.size (fun k_ => (P0_ k_ ∨ w.heap.size <= k_)) (.slice (some ⟨go6, 0, none⟩) x0_1.length co7) y208 := (by rw [hw, Ny208.out]; exact HP9.1); clear HP9; have n0_ := A_ (hp_); have n1_ := A_ ((by rw [hw]; exact below_set (HB.out) GB6.out : Below w0.heap.size w0 w10)); have n2_ := A_ (Kept.of_grown (S := (fun k_ => P0_ k_)) hg (q28_0 HK.out) (fun k_ e_ => (HO_0.out.1 k_ e_))); clear HO_0; clear HB; clear HK; have HO_0 := n0_; have HB := n1_; have HK := n2_; clear n0_ n1_ n2_; clear hg hw hp_))
     go_roundg k1
     case measure => have := HK1.out; omega
     case rel => exact ⟨(y208), (wrap64 (x1_1 + 1)), (wrap64 (x5_1 + 1)), (by first | rfl | (simp; done) | (simp [*]; done)), (by first | rfl | (simp; done) | (simp [*]; done)), H', ⟨by have := HK1.out; omega⟩, ⟨rk_ HO_0.out⟩, ⟨q28_0 HK.out⟩, ⟨be_ HB.out⟩⟩
    ·rw [if_neg c5] at H
     exact absurd H (by simp)
   ·rw [if_neg c3] at H
    have c3b0 : decide (x5_1 < (x0_1.length : Int)) = false := decide_eq_false c3
    clear c3
    simp only [Option.some.injEq, Prod.mk.injEq] at H
    obtain ⟨rfl, rfl⟩ := H
    obtain ⟨Ao11, co11, eo11⟩ := Kd.R_slice HO_0.out
    subst eo11
    go_wp2
    go_ret
    exact ⟨ew_, by (with_reducible repeat (first | apply Kd.R_alloc | apply Kd.R_drewN | apply Kd.R_drew)); exact HO_0.out, by repeat (first | (with_reducible first | exact HB.out | apply below_alloc | apply pw_below_drewN | apply below_drew1) | exact HB.out), by repeat (first | (with_reducible first | exact HK.out | apply Kept.alloc | apply Kept.drewN | apply Kept.drew) | exact HK.out)⟩
def laws_heldStringS.l0 : Nat -> List ByteArray -> Int -> Int -> Option (Int)
 | 0, _, _, _ => none
 | k + 1, x0, x1, x5 => if x5 < (x0.length : Int) then (if 0 <= x5 then ((laws_markText.f k x1).bind fun t213 => (if (rdOf ByteArray.empty x0 x5).toList = t213.toList then (laws_heldStringS.l0 k x0 (wrap64 (x1 + 1)) (wrap64 (x5 + 1))) else (some (-1)))) else (none)) else (some x1)
def laws_heldStringS.f (k : Nat) (l0 : List ByteArray) (a1 : Int) : Option (Int) := laws_heldStringS.l0 k l0 a1 0
theorem laws_heldStringS.calls (k : Nat) (A0 : Option Addr) (c0 : Nat) (l0 : List ByteArray) (a1 : Int) (r : Int) (w : World) (hr0 : Kd.C Kd.string w A0 l0.length l0) (hc0 : l0.length <= c0) (h : laws_heldStringS.f k l0 a1 = some r) :
  Calls Try.prog 29 #[.slice A0 l0.length c0, .int .i64 a1] w fun e w' => e = .returned (.int .i64 r) /\ Below w.heap.size w w' := by
 have HR0 := A_ hr0
 have HC0 := A_ hc0
 clear hr0 hc0
 have HB := A_ (Below.refl w.heap.size w)
 have H : (laws_heldStringS.l0 k l0 a1 0) = some r := h
 clear h
 have H' := A_ H
 clear H
 go_enter Try.func29, Try.ntmps29
 go_wp2
 go_loopg [1, 5] k (fun kq v1 v5 w' => ∃ (x1_1 : Int) (x5_1 : Int), v1 = .int .i64 x1_1 /\ v5 = .int .i64 x5_1 /\ Aside0 (laws_heldStringS.l0 kq l0 x1_1 x5_1 = some r) /\ Aside0 (kq <= k) /\ Aside0 (Below w.heap.size w w'))
 case atStart => exact ⟨(a1), (0), (by first | rfl | (simp; done) | (simp [*]; done)), (by first | rfl | (simp; done) | (simp [*]; done)), H', ⟨Nat.le_refl _⟩, ⟨be_ HB.out⟩⟩
 case round =>
  clear H'
  (try clear c2); (try clear p2)
  obtain ⟨x1_1, x5_1, rfl, rfl, HA, HK1, HB⟩ := hrel
  cases gk with
  | zero => exact absurd HA.out (by simp [laws_heldStringS.l0])
  | succ k1 =>
   have H := HA.out
   clear HA
   simp only [laws_heldStringS.l0] at H
   by_cases c3 : x5_1 < (l0.length : Int)
   ·rw [if_pos c3] at H
    have c3b0 : decide (x5_1 < (l0.length : Int)) = true := decide_eq_true c3
    clear c3
    by_cases c4 : 0 <= x5_1
    ·rw [if_pos c4] at H
     have c4b0 : decide (0 <= x5_1) = true := decide_eq_true c4
     clear c4
     replace H := Option.bind_eq_some_iff.mp H
     obtain ⟨t213, A50, H⟩ := H
     replace H : (if (rdOf ByteArray.empty l0 x5_1).toList = t213.toList then (laws_heldStringS.l0 k1 l0 (wrap64 (x1_1 + 1)) (wrap64 (x5_1 + 1))) else (some (-1))) = some r := H
     have A5 := A_ A50
     clear A50
     by_cases c6 : (rdOf ByteArray.empty l0 x5_1).toList = t213.toList
     ·rw [if_pos c6] at H
      have c6b0 : ((rdOf ByteArray.empty l0 x5_1).toList == t213.toList) = true := beq_iff_eq.mpr c6
      have c6b1 : ((rdOf ByteArray.empty l0 x5_1).toList != t213.toList) = false := bne_eq_false_iff_eq.mpr c6
      clear c6
      have H' := A_ H
      clear H
      try go_wp2
      replace HB := A_ (below_drew1 HB.out)
      have p212 : 0 <= (x5_1 : Int) := of_decide_eq_true as_
      have q212 : x5_1 < (l0.length : Int) := of_decide_eq_true as_
      obtain ⟨ad212, e212, hx212_0⟩ := Kd.at_string HR0.out x5_1 p212 q212
      have hw212_0 := hx212_0
      cases e212
      replace hx212_0 := (HB.out.cell (World.block_lt_of_cell? w _ hx212_0)).trans hx212_0
      replace p212 := eq_true p212
      replace q212 := eq_true q212
      refine start_ (n := 7) (S := fun w' => w'.cell? (ad212.add (x5_1).toNat) = some (.string (rdOf ByteArray.empty l0 x5_1))) (ds := []) (bt 7 0) (by kernel_rfl) rfl rfl (((HB.out.cell (World.block_lt_of_cell? w _ hw212_0)).trans hw212_0)) (fun hHeld => ?_)
      generalize wr.drew = w7 at HB hx212_0 hHeld ⊢
      refine pu_ 0 12 1 ?_
      refine pu_ 1 13 3 ?_
      refine pu_ 2 14 7 ?_
      refine pu_ 4 16 23 ?_
      refine take_ (i := 3) (N := some 15) (v := ?_) (a' := ?_) (bt 7 31) rfl rfl (by kernel_rfl) (fun _ _ _ h => h) (Or.inl ⟨by rfl, ?_⟩) hHeld ?_ ?_
      rotate_left
      ·intro w' s0
       go_simp
       with_reducible rfl
      rotate_left
      ·simp only [Act.put, sx_, wx_]
       rfl
      refine on_ 5 (some 17) 63 (fun K hK => ?_)
      refine goes_ Try.func68 (by kernel_rfl) rfl #[.int .i64 x1_1] (by rfl) rfl rfl (ag_) ?_
      with_reducible refine (laws_markText.calls k1 x1_1 t213 _ A5.out).mono ?_
      rintro e w8 ⟨rfl, hb⟩
      refine ⟨_, rfl, ?_⟩
      replace HB := A_ (bs_ HB.out hb)
      (try clear hb)
      (try clear hb2)
      (try clear hk)
      (try clear hi)
      refine hK.out _ _ (((HB.out.cell (World.block_lt_of_cell? w _ hw212_0)).trans hw212_0)) (fun hHeld => ?_)
      clear hK K
      refine no_ 17 ?_
      refine pu_ 6 18 127 ?_
      refine done_ (by kernel_rfl) ?_
      try go_wp2
      go_roundg k1
      case measure => have := HK1.out; omega
      case rel => exact ⟨(wrap64 (x1_1 + 1)), (wrap64 (x5_1 + 1)), (by first | rfl | (simp; done) | (simp [*]; done)), (by first | rfl | (simp; done) | (simp [*]; done)), H', ⟨by have := HK1.out; omega⟩, ⟨be_ HB.out⟩⟩
     ·rw [if_neg c6] at H
      have c6b0 : ((rdOf ByteArray.empty l0 x5_1).toList == t213.toList) = false := beq_eq_false_iff_ne.mpr c6
      have c6b1 : ((rdOf ByteArray.empty l0 x5_1).toList != t213.toList) = true := bne_iff_ne.mpr c6
      obtain rfl := Option.some.inj H
      try go_wp2
      replace HB := A_ (below_drew1 HB.out)
      have p212 : 0 <= (x5_1 : Int) := of_decide_eq_true as_
      have q212 : x5_1 < (l0.length : Int) := of_decide_eq_true as_
      obtain ⟨ad212, e212, hx212_0⟩ := Kd.at_string HR0.out x5_1 p212 q212
      have hw212_0 := hx212_0
      cases e212
      replace hx212_0 := (HB.out.cell (World.block_lt_of_cell? w _ hx212_0)).trans hx212_0
      replace p212 := eq_true p212
      replace q212 := eq_true q212
      refine start_ (n := 7) (S := fun w' => w'.cell? (ad212.add (x5_1).toNat) = some (.string (rdOf ByteArray.empty l0 x5_1))) (ds := []) (bt 7 0) (by kernel_rfl) rfl rfl (((HB.out.cell (World.block_lt_of_cell? w _ hw212_0)).trans hw212_0)) (fun hHeld => ?_)
      generalize wr.drew = w9 at HB hx212_0 hHeld ⊢
      refine pu_ 0 12 1 ?_
      refine pu_ 1 13 3 ?_
      refine pu_ 2 14 7 ?_
      refine pu_ 4 16 23 ?_
      refine take_ (i := 3) (N := some 15) (v := ?_) (a' := ?_) (bt 7 31) rfl rfl (by kernel_rfl) (fun _ _ _ h => h) (Or.inl ⟨by rfl, ?_⟩) hHeld ?_ ?_
      rotate_left
      ·intro w' s0
       go_simp
       with_reducible rfl
      rotate_left
      ·simp only [Act.put, sx_, wx_]
       rfl
      refine on_ 5 (some 17) 63 (fun K hK => ?_)
      refine goes_ Try.func68 (by kernel_rfl) rfl #[.int .i64 x1_1] (by rfl) rfl rfl (ag_) ?_
      with_reducible refine (laws_markText.calls k1 x1_1 t213 _ A5.out).mono ?_
      rintro e w10 ⟨rfl, hb⟩
      refine ⟨_, rfl, ?_⟩
      replace HB := A_ (bs_ HB.out hb)
      (try clear hb)
      (try clear hb2)
      (try clear hk)
      (try clear hi)
      refine hK.out _ _ (((HB.out.cell (World.block_lt_of_cell? w _ hw212_0)).trans hw212_0)) (fun hHeld => ?_)
      clear hK K
      refine no_ 17 ?_
      refine pu_ 6 18 127 ?_
      refine done_ (by kernel_rfl) ?_
      try go_wp2
      go_ret
      exact ⟨ew_, by repeat (first | (with_reducible first | exact HB.out | apply below_alloc | apply pw_below_drewN | apply below_drew1) | exact HB.out)⟩
    ·rw [if_neg c4] at H
     exact absurd H (by simp)
   ·rw [if_neg c3] at H
    have c3b0 : decide (x5_1 < (l0.length : Int)) = false := decide_eq_false c3
    clear c3
    obtain rfl := Option.some.inj H
    go_wp2
    go_ret
    exact ⟨ew_, by repeat (first | (with_reducible first | exact HB.out | apply below_alloc | apply pw_below_drewN | apply below_drew1) | exact HB.out)⟩
def laws_heldIntS.l0 : Nat -> List Int -> Int -> Int -> Option (Int)
 | 0, _, _, _ => none
 | k + 1, x0, x1, x5 => if x5 < (x0.length : Int) then (if 0 <= x5 then (if (rd x0 x5) = x1 then (laws_heldIntS.l0 k x0 (wrap64 (x1 + 1)) (wrap64 (x5 + 1))) else (some (-1))) else (none)) else (some x1)
def laws_heldIntS.f (k : Nat) (l0 : List Int) (a1 : Int) : Option (Int) := laws_heldIntS.l0 k l0 a1 0
theorem laws_heldIntS.calls (k : Nat) (A0 : Option Addr) (c0 : Nat) (l0 : List Int) (a1 : Int) (r : Int) (w : World) (hr0 : Kd.C (Kd.int .i64) w A0 l0.length l0) (hc0 : l0.length <= c0) (h : laws_heldIntS.f k l0 a1 = some r) :
  Calls Try.prog 111 #[.slice A0 l0.length c0, .int .i64 a1] w fun e w' => e = .returned (.int .i64 r) /\ Drawn0 w w' := by
 have HR0 := A_ hr0
 have HC0 := A_ hc0
 clear hr0 hc0
 have H : (laws_heldIntS.l0 k l0 a1 0) = some r := h
 clear h
 have H' := A_ H
 clear H
 go_enter Try.func111, Try.ntmps111
 go_wp2
 go_loopg [1, 5] k (fun kq v1 v5 w' => ∃ (x1_1 : Int) (x5_1 : Int), v1 = .int .i64 x1_1 /\ v5 = .int .i64 x5_1 /\ Aside0 (laws_heldIntS.l0 kq l0 x1_1 x5_1 = some r) /\ Aside0 (kq <= k) /\ Drawn0 w w')
 case atStart => exact ⟨(a1), (0), (by first | rfl | (simp; done) | (simp [*]; done)), (by first | rfl | (simp; done) | (simp [*]; done)), H', ⟨Nat.le_refl _⟩, by repeat (first | exact Drawn0.refl _ | apply Drawn0.step)⟩
 case round =>
  clear H'
  (try clear c1); (try clear p2)
  obtain ⟨x1_1, x5_1, rfl, rfl, HA, HK1, ⟨m1, rfl⟩⟩ := hrel
  cases gk with
  | zero => exact absurd HA.out (by simp [laws_heldIntS.l0])
  | succ k1 =>
   have H := HA.out
   clear HA
   simp only [laws_heldIntS.l0] at H
   by_cases c3 : x5_1 < (l0.length : Int)
   ·rw [if_pos c3] at H
    have c3b0 : decide (x5_1 < (l0.length : Int)) = true := decide_eq_true c3
    clear c3
    by_cases c4 : 0 <= x5_1
    ·rw [if_pos c4] at H
     have c4b0 : decide (0 <= x5_1) = true := decide_eq_true c4
     clear c4
     by_cases c5 : (rd l0 x5_1) = x1_1
     ·rw [if_pos c5] at H
      have c5b0 : ((rd l0 x5_1) == x1_1) = true := beq_iff_eq.mpr c5
      have c5b1 : ((rd l0 x5_1) != x1_1) = false := bne_eq_false_iff_eq.mpr c5
      clear c5
      have H' := A_ H
      clear H
      have p214 : 0 <= (x5_1 : Int) := of_decide_eq_true as_
      have q214 : x5_1 < (l0.length : Int) := of_decide_eq_true as_
      obtain ⟨ad214, e214, hx214_0⟩ := Kd.at_int HR0.out x5_1 p214 q214
      cases e214
      replace p214 := eq_true p214
      replace q214 := eq_true q214
      go_wp2
      go_roundg k1
      case measure => have := HK1.out; omega
      case rel => exact ⟨(wrap64 (x1_1 + 1)), (wrap64 (x5_1 + 1)), (by first | rfl | (simp; done) | (simp [*]; done)), (by first | rfl | (simp; done) | (simp [*]; done)), H', ⟨by have := HK1.out; omega⟩, by repeat (first | exact Drawn0.refl _ | apply Drawn0.step)⟩
     ·rw [if_neg c5] at H
      have c5b0 : ((rd l0 x5_1) == x1_1) = false := beq_eq_false_iff_ne.mpr c5
      have c5b1 : ((rd l0 x5_1) != x1_1) = true := bne_iff_ne.mpr c5
      obtain rfl := Option.some.inj H
      have p214 : 0 <= (x5_1 : Int) := of_decide_eq_true as_
      have q214 : x5_1 < (l0.length : Int) := of_decide_eq_true as_
      obtain ⟨ad214, e214, hx214_0⟩ := Kd.at_int HR0.out x5_1 p214 q214
      cases e214
      replace p214 := eq_true p214
      replace q214 := eq_true q214
      go_wp2
      go_ret
      exact ⟨by first | rfl | (simp; done) | (simp [*]; done), by repeat (first | exact Drawn0.refl _ | apply Drawn0.step)⟩
    ·rw [if_neg c4] at H
     exact absurd H (by simp)
   ·rw [if_neg c3] at H
    have c3b0 : decide (x5_1 < (l0.length : Int)) = false := decide_eq_false c3
    clear c3
    obtain rfl := Option.some.inj H
    go_wp2
    go_ret
    exact ⟨by first | rfl | (simp; done) | (simp [*]; done), by repeat (first | exact Drawn0.refl _ | apply Drawn0.step)⟩
def laws_heldPageS.l0 : Nat -> List (S110) -> Int -> Int -> Option (Int)
 | 0, _, _, _ => none
 | k + 1, x0, x1, x5 => if x5 < (x0.length : Int) then (if 0 <= x5 then ((laws_heldStringS.f k ((rd_T110 x0 x5).f0) x1).bind fun t216 => (if t216 < 0 then (some (-1)) else ((laws_heldStringS.f k ((rd_T110 x0 x5).f1) t216).bind fun t218 => (if t218 < 0 then (some (-1)) else ((laws_heldIntS.f k ((rd_T110 x0 x5).f2) t218).bind fun t220 => (if t220 < 0 then (some (-1)) else (laws_heldPageS.l0 k x0 t220 (wrap64 (x5 + 1))))))))) else (none)) else (some x1)
def laws_heldPageS.f (k : Nat) (l0 : List (S110)) (a1 : Int) : Option (Int) := laws_heldPageS.l0 k l0 a1 0
theorem laws_heldPageS.calls (k : Nat) (A0 : Option Addr) (c0 : Nat) (l0 : List (S110)) (a1 : Int) (r : Int) (w : World) (hr0 : Kd.C k110 w A0 l0.length l0) (hc0 : l0.length <= c0) (h : laws_heldPageS.f k l0 a1 = some r) :
  Calls Try.prog 82 #[.slice A0 l0.length c0, .int .i64 a1] w fun e w' => e = .returned (.int .i64 r) /\ Below w.heap.size w w' := by
 have HR0 := A_ hr0
 have HC0 := A_ hc0
 clear hr0 hc0
 have HB := A_ (Below.refl w.heap.size w)
 have H : (laws_heldPageS.l0 k l0 a1 0) = some r := h
 clear h
 have H' := A_ H
 clear H
 go_enter Try.func82, Try.ntmps82
 go_wp2
 go_loopg [1, 5] k (fun kq v1 v5 w' => ∃ (x1_1 : Int) (x5_1 : Int), v1 = .int .i64 x1_1 /\ v5 = .int .i64 x5_1 /\ Aside0 (laws_heldPageS.l0 kq l0 x1_1 x5_1 = some r) /\ Aside0 (kq <= k) /\ Aside0 (Below w.heap.size w w'))
 case atStart => exact ⟨(a1), (0), (by first | rfl | (simp; done) | (simp [*]; done)), (by first | rfl | (simp; done) | (simp [*]; done)), H', ⟨Nat.le_refl _⟩, ⟨be_ HB.out⟩⟩
 case round =>
  clear H'
  (try clear p2)
  obtain ⟨x1_1, x5_1, rfl, rfl, HA, HK1, HB⟩ := hrel
  cases gk with
  | zero => exact absurd HA.out (by simp [laws_heldPageS.l0])
  | succ k1 =>
   have H := HA.out
   clear HA
   simp only [laws_heldPageS.l0] at H
   by_cases c3 : x5_1 < (l0.length : Int)
   ·rw [if_pos c3] at H
    have c3b0 : decide (x5_1 < (l0.length : Int)) = true := decide_eq_true c3
    clear c3
    by_cases c4 : 0 <= x5_1
    ·rw [if_pos c4] at H
     have c4b0 : decide (0 <= x5_1) = true := decide_eq_true c4
     clear c4
     replace H := Option.bind_eq_some_iff.mp H
     obtain ⟨t216, A50, H⟩ := H
     replace H : (if t216 < 0 then (some (-1)) else ((laws_heldStringS.f k1 ((rd_T110 l0 x5_1).f1) t216).bind fun t218 => (if t218 < 0 then (some (-1)) else ((laws_heldIntS.f k1 ((rd_T110 l0 x5_1).f2) t218).bind fun t220 => (if t220 < 0 then (some (-1)) else (laws_heldPageS.l0 k1 l0 t220 (wrap64 (x5_1 + 1)))))))) = some r := H
     have A5 := A_ A50
     clear A50
     by_cases c6 : t216 < 0
     ·rw [if_pos c6] at H
      have c6b0 : decide (t216 < 0) = true := decide_eq_true c6
      clear c6
      obtain rfl := Option.some.inj H
      have p215 : 0 <= (x5_1 : Int) := of_decide_eq_true as_
      have q215 : x5_1 < (l0.length : Int) := of_decide_eq_true as_
      obtain ⟨ad215, A215_0, c215_0, A215_1, c215_1, A215_2, c215_2, e215, hx215_0, hx215_1, hx215_2, hl215_0, hi215_0, hl215_1, hi215_1, hl215_2, hi215_2⟩ := at_T110 HR0.out x5_1 p215 q215
      cases e215
      replace hx215_0 := (HB.out.cell (World.block_lt_of_cell? w _ hx215_0)).trans hx215_0
      replace hx215_1 := (HB.out.cell (World.block_lt_of_cell? w _ hx215_1)).trans hx215_1
      replace hx215_2 := (HB.out.cell (World.block_lt_of_cell? w _ hx215_2)).trans hx215_2
      have HR215_0 := A_ hi215_0
      have HC215_0 := A_ hl215_0
      clear hi215_0 hl215_0
      have HR215_1 := A_ hi215_1
      have HC215_1 := A_ hl215_1
      clear hi215_1 hl215_1
      have HR215_2 := A_ hi215_2
      have HC215_2 := A_ hl215_2
      clear hi215_2 hl215_2
      replace p215 := eq_true p215
      replace q215 := eq_true q215
      go_wp2_with (first | ((with_reducible refine gate_callee (f := 29) rfl ?_); refine goesL_ (some 18) rfl rfl Try.func29 (by kernel_rfl) rfl #[.slice A215_0 ((rd_T110 l0 x5_1).f0).length c215_0, .int .i64 x1_1] rfl (ag_) ?_; (with_reducible refine (laws_heldStringS.calls k1 _ _ ((rd_T110 l0 x5_1).f0) x1_1 t216 _ ?side1 ?side2 A5.out).mono ?_); (case side1 => refine cd_ ?_; exact (Kd.C_below HR215_0.out HB.out)); (case side2 => exact HC215_0.out); rintro e w7 ⟨rfl, hb⟩; refine ⟨_, rfl, ?_⟩; have n0_ := A_ (bs_ HB.out hb); clear HB; have HB := n0_; clear n0_; (try clear hb); (try clear hb2); (try clear hk); (try clear hi)))
      go_ret
      exact ⟨ew_, by repeat (first | (with_reducible first | exact HB.out | apply below_alloc | apply pw_below_drewN | apply below_drew1) | exact HB.out)⟩
     ·rw [if_neg c6] at H
      have c6b0 : decide (t216 < 0) = false := decide_eq_false c6
      clear c6
      replace H := Option.bind_eq_some_iff.mp H
      obtain ⟨t218, A80, H⟩ := H
      replace H : (if t218 < 0 then (some (-1)) else ((laws_heldIntS.f k1 ((rd_T110 l0 x5_1).f2) t218).bind fun t220 => (if t220 < 0 then (some (-1)) else (laws_heldPageS.l0 k1 l0 t220 (wrap64 (x5_1 + 1)))))) = some r := H
      have A8 := A_ A80
      clear A80
      by_cases c9 : t218 < 0
      ·rw [if_pos c9] at H
       have c9b0 : decide (t218 < 0) = true := decide_eq_true c9
       clear c9
       obtain rfl := Option.some.inj H
       have p215 : 0 <= (x5_1 : Int) := of_decide_eq_true as_
       have q215 : x5_1 < (l0.length : Int) := of_decide_eq_true as_
       obtain ⟨ad215, A215_0, c215_0, A215_1, c215_1, A215_2, c215_2, e215, hx215_0, hx215_1, hx215_2, hl215_0, hi215_0, hl215_1, hi215_1, hl215_2, hi215_2⟩ := at_T110 HR0.out x5_1 p215 q215
       cases e215
       replace hx215_0 := (HB.out.cell (World.block_lt_of_cell? w _ hx215_0)).trans hx215_0
       replace hx215_1 := (HB.out.cell (World.block_lt_of_cell? w _ hx215_1)).trans hx215_1
       replace hx215_2 := (HB.out.cell (World.block_lt_of_cell? w _ hx215_2)).trans hx215_2
       have HR215_0 := A_ hi215_0
       have HC215_0 := A_ hl215_0
       clear hi215_0 hl215_0
       have HR215_1 := A_ hi215_1
       have HC215_1 := A_ hl215_1
       clear hi215_1 hl215_1
       have HR215_2 := A_ hi215_2
       have HC215_2 := A_ hl215_2
       clear hi215_2 hl215_2
       replace p215 := eq_true p215
       replace q215 := eq_true q215
       go_wp2_with (first | ((with_reducible refine gate_callee (f := 29) rfl ?_); refine goesL_ (some 18) rfl rfl Try.func29 (by kernel_rfl) rfl #[.slice A215_0 ((rd_T110 l0 x5_1).f0).length c215_0, .int .i64 x1_1] rfl (ag_) ?_; (with_reducible refine (laws_heldStringS.calls k1 _ _ ((rd_T110 l0 x5_1).f0) x1_1 t216 _ ?side1 ?side2 A5.out).mono ?_); (case side1 => refine cd_ ?_; exact (Kd.C_below HR215_0.out HB.out)); (case side2 => exact HC215_0.out); rintro e w10 ⟨rfl, hb⟩; refine ⟨_, rfl, ?_⟩; have n0_ := A_ (bs_ HB.out hb); clear HB; have HB := n0_; clear n0_; (try clear hb); (try clear hb2); (try clear hk); (try clear hi); have p217 : 0 <= (x5_1 : Int) := of_decide_eq_true as_; have q217 : x5_1 < (l0.length : Int) := of_decide_eq_true as_; obtain ⟨ad217, A217_0, c217_0, A217_1, c217_1, A217_2, c217_2, e217, hx217_0, hx217_1, hx217_2, hl217_0, hi217_0, hl217_1, hi217_1, hl217_2, hi217_2⟩ := at_T110 HR0.out x5_1 p217 q217; obtain rfl : ad215 = ad217 := (by injection e217); replace hx217_0 := (HB.out.cell (World.block_lt_of_cell? w _ hx217_0)).trans hx217_0; replace hx217_1 := (HB.out.cell (World.block_lt_of_cell? w _ hx217_1)).trans hx217_1; replace hx217_2 := (HB.out.cell (World.block_lt_of_cell? w _ hx217_2)).trans hx217_2; have HR217_0 := A_ hi217_0; have HC217_0 := A_ hl217_0; clear hi217_0 hl217_0; have HR217_1 := A_ hi217_1; have HC217_1 := A_ hl217_1; clear hi217_1 hl217_1; have HR217_2 := A_ hi217_2; have HC217_2 := A_ hl217_2; clear hi217_2 hl217_2; replace p217 := eq_true p217; replace q217 := eq_true q217) | ((with_reducible refine gate_callee (f := 29) rfl ?_); refine goesL_ (some 27) rfl rfl Try.func29 (by kernel_rfl) rfl #[.slice A217_1 ((rd_T110 l0 x5_1).f1).length c217_1, .int .i64 t216] rfl (ag_) ?_; (with_reducible refine (laws_heldStringS.calls k1 _ _ ((rd_T110 l0 x5_1).f1) t216 t218 _ ?side1 ?side2 A8.out).mono ?_); (case side1 => refine cd_ ?_; exact (Kd.C_below HR217_1.out HB.out)); (case side2 => exact HC217_1.out); rintro e w11 ⟨rfl, hb⟩; refine ⟨_, rfl, ?_⟩; have n0_ := A_ (bs_ HB.out hb); clear HB; have HB := n0_; clear n0_; (try clear hb); (try clear hb2); (try clear hk); (try clear hi)))
       go_ret
       exact ⟨ew_, by repeat (first | (with_reducible first | exact HB.out | apply below_alloc | apply pw_below_drewN | apply below_drew1) | exact HB.out)⟩
      ·rw [if_neg c9] at H
       have c9b0 : decide (t218 < 0) = false := decide_eq_false c9
       clear c9
       replace H := Option.bind_eq_some_iff.mp H
       obtain ⟨t220, A120, H⟩ := H
       replace H : (if t220 < 0 then (some (-1)) else (laws_heldPageS.l0 k1 l0 t220 (wrap64 (x5_1 + 1)))) = some r := H
       have A12 := A_ A120
       clear A120
       by_cases c13 : t220 < 0
       ·rw [if_pos c13] at H
        have c13b0 : decide (t220 < 0) = true := decide_eq_true c13
        clear c13
        obtain rfl := Option.some.inj H
        have p215 : 0 <= (x5_1 : Int) := of_decide_eq_true as_
        have q215 : x5_1 < (l0.length : Int) := of_decide_eq_true as_
        obtain ⟨ad215, A215_0, c215_0, A215_1, c215_1, A215_2, c215_2, e215, hx215_0, hx215_1, hx215_2, hl215_0, hi215_0, hl215_1, hi215_1, hl215_2, hi215_2⟩ := at_T110 HR0.out x5_1 p215 q215
        cases e215
        replace hx215_0 := (HB.out.cell (World.block_lt_of_cell? w _ hx215_0)).trans hx215_0
        replace hx215_1 := (HB.out.cell (World.block_lt_of_cell? w _ hx215_1)).trans hx215_1
        replace hx215_2 := (HB.out.cell (World.block_lt_of_cell? w _ hx215_2)).trans hx215_2
        have HR215_0 := A_ hi215_0
        have HC215_0 := A_ hl215_0
        clear hi215_0 hl215_0
        have HR215_1 := A_ hi215_1
        have HC215_1 := A_ hl215_1
        clear hi215_1 hl215_1
        have HR215_2 := A_ hi215_2
        have HC215_2 := A_ hl215_2
        clear hi215_2 hl215_2
        replace p215 := eq_true p215
        replace q215 := eq_true q215
        go_wp2_with (first | ((with_reducible refine gate_callee (f := 29) rfl ?_); refine goesL_ (some 18) rfl rfl Try.func29 (by kernel_rfl) rfl #[.slice A215_0 ((rd_T110 l0 x5_1).f0).length c215_0, .int .i64 x1_1] rfl (ag_) ?_; (with_reducible refine (laws_heldStringS.calls k1 _ _ ((rd_T110 l0 x5_1).f0) x1_1 t216 _ ?side1 ?side2 A5.out).mono ?_); (case side1 => refine cd_ ?_; exact (Kd.C_below HR215_0.out HB.out)); (case side2 => exact HC215_0.out); rintro e w14 ⟨rfl, hb⟩; refine ⟨_, rfl, ?_⟩; have n0_ := A_ (bs_ HB.out hb); clear HB; have HB := n0_; clear n0_; (try clear hb); (try clear hb2); (try clear hk); (try clear hi); have p217 : 0 <= (x5_1 : Int) := of_decide_eq_true as_; have q217 : x5_1 < (l0.length : Int) := of_decide_eq_true as_; obtain ⟨ad217, A217_0, c217_0, A217_1, c217_1, A217_2, c217_2, e217, hx217_0, hx217_1, hx217_2, hl217_0, hi217_0, hl217_1, hi217_1, hl217_2, hi217_2⟩ := at_T110 HR0.out x5_1 p217 q217; obtain rfl : ad215 = ad217 := (by injection e217); replace hx217_0 := (HB.out.cell (World.block_lt_of_cell? w _ hx217_0)).trans hx217_0; replace hx217_1 := (HB.out.cell (World.block_lt_of_cell? w _ hx217_1)).trans hx217_1; replace hx217_2 := (HB.out.cell (World.block_lt_of_cell? w _ hx217_2)).trans hx217_2; have HR217_0 := A_ hi217_0; have HC217_0 := A_ hl217_0; clear hi217_0 hl217_0; have HR217_1 := A_ hi217_1; have HC217_1 := A_ hl217_1; clear hi217_1 hl217_1; have HR217_2 := A_ hi217_2; have HC217_2 := A_ hl217_2; clear hi217_2 hl217_2; replace p217 := eq_true p217; replace q217 := eq_true q217) | ((with_reducible refine gate_callee (f := 29) rfl ?_); refine goesL_ (some 27) rfl rfl Try.func29 (by kernel_rfl) rfl #[.slice A217_1 ((rd_T110 l0 x5_1).f1).length c217_1, .int .i64 t216] rfl (ag_) ?_; (with_reducible refine (laws_heldStringS.calls k1 _ _ ((rd_T110 l0 x5_1).f1) t216 t218 _ ?side1 ?side2 A8.out).mono ?_); (case side1 => refine cd_ ?_; exact (Kd.C_below HR217_1.out HB.out)); (case side2 => exact HC217_1.out); rintro e w15 ⟨rfl, hb⟩; refine ⟨_, rfl, ?_⟩; have n0_ := A_ (bs_ HB.out hb); clear HB; have HB := n0_; clear n0_; (try clear hb); (try clear hb2); (try clear hk); (try clear hi); have p219 : 0 <= (x5_1 : Int) := of_decide_eq_true as_; have q219 : x5_1 < (l0.length : Int) := of_decide_eq_true as_; obtain ⟨ad219, A219_0, c219_0, A219_1, c219_1, A219_2, c219_2, e219, hx219_0, hx219_1, hx219_2, hl219_0, hi219_0, hl219_1, hi219_1, hl219_2, hi219_2⟩ := at_T110 HR0.out x5_1 p219 q219; obtain rfl : ad215 = ad219 := (by injection e219); replace hx219_0 := (HB.out.cell (World.block_lt_of_cell? w _ hx219_0)).trans hx219_0; replace hx219_1 := (HB.out.cell (World.block_lt_of_cell? w _ hx219_1)).trans hx219_1; replace hx219_2 := (HB.out.cell (World.block_lt_of_cell? w _ hx219_2)).trans hx219_2; have HR219_0 := A_ hi219_0; have HC219_0 := A_ hl219_0; clear hi219_0 hl219_0; have HR219_1 := A_ hi219_1; have HC219_1 := A_ hl219_1; clear hi219_1 hl219_1; have HR219_2 := A_ hi219_2; have HC219_2 := A_ hl219_2; clear hi219_2 hl219_2; replace p219 := eq_true p219; replace q219 := eq_true q219) | ((with_reducible refine gate_callee (f := 111) rfl ?_); refine goesL_ (some 36) rfl rfl Try.func111 (by kernel_rfl) rfl #[.slice A219_2 ((rd_T110 l0 x5_1).f2).length c219_2, .int .i64 t218] rfl (ag_) ?_; (with_reducible refine (laws_heldIntS.calls k1 _ _ ((rd_T110 l0 x5_1).f2) t218 t220 _ ?side1 ?side2 A12.out).mono ?_); (case side1 => refine cd_ ?_; exact (Kd.C_below HR219_2.out HB.out)); (case side2 => exact HC219_2.out); rintro e w' ⟨rfl, ⟨nd, rfl⟩⟩; refine ⟨_, rfl, ?_⟩))
        go_ret
        exact ⟨ew_, by repeat (first | (with_reducible first | exact HB.out | apply below_alloc | apply pw_below_drewN | apply below_drew1) | exact HB.out)⟩
       ·rw [if_neg c13] at H
        have c13b0 : decide (t220 < 0) = false := decide_eq_false c13
        clear c13
        have H' := A_ H
        clear H
        have p215 : 0 <= (x5_1 : Int) := of_decide_eq_true as_
        have q215 : x5_1 < (l0.length : Int) := of_decide_eq_true as_
        obtain ⟨ad215, A215_0, c215_0, A215_1, c215_1, A215_2, c215_2, e215, hx215_0, hx215_1, hx215_2, hl215_0, hi215_0, hl215_1, hi215_1, hl215_2, hi215_2⟩ := at_T110 HR0.out x5_1 p215 q215
        cases e215
        replace hx215_0 := (HB.out.cell (World.block_lt_of_cell? w _ hx215_0)).trans hx215_0
        replace hx215_1 := (HB.out.cell (World.block_lt_of_cell? w _ hx215_1)).trans hx215_1
        replace hx215_2 := (HB.out.cell (World.block_lt_of_cell? w _ hx215_2)).trans hx215_2
        have HR215_0 := A_ hi215_0
        have HC215_0 := A_ hl215_0
        clear hi215_0 hl215_0
        have HR215_1 := A_ hi215_1
        have HC215_1 := A_ hl215_1
        clear hi215_1 hl215_1
        have HR215_2 := A_ hi215_2
        have HC215_2 := A_ hl215_2
        clear hi215_2 hl215_2
        replace p215 := eq_true p215
        replace q215 := eq_true q215
        go_wp2_with (first | ((with_reducible refine gate_callee (f := 29) rfl ?_); refine goesL_ (some 18) rfl rfl Try.func29 (by kernel_rfl) rfl #[.slice A215_0 ((rd_T110 l0 x5_1).f0).length c215_0, .int .i64 x1_1] rfl (ag_) ?_; (with_reducible refine (laws_heldStringS.calls k1 _ _ ((rd_T110 l0 x5_1).f0) x1_1 t216 _ ?side1 ?side2 A5.out).mono ?_); (case side1 => refine cd_ ?_; exact (Kd.C_below HR215_0.out HB.out)); (case side2 => exact HC215_0.out); rintro e w16 ⟨rfl, hb⟩; refine ⟨_, rfl, ?_⟩; have n0_ := A_ (bs_ HB.out hb); clear HB; have HB := n0_; clear n0_; (try clear hb); (try clear hb2); (try clear hk); (try clear hi); have p217 : 0 <= (x5_1 : Int) := of_decide_eq_true as_; have q217 : x5_1 < (l0.length : Int) := of_decide_eq_true as_; obtain ⟨ad217, A217_0, c217_0, A217_1, c217_1, A217_2, c217_2, e217, hx217_0, hx217_1, hx217_2, hl217_0, hi217_0, hl217_1, hi217_1, hl217_2, hi217_2⟩ := at_T110 HR0.out x5_1 p217 q217; obtain rfl : ad215 = ad217 := (by injection e217); replace hx217_0 := (HB.out.cell (World.block_lt_of_cell? w _ hx217_0)).trans hx217_0; replace hx217_1 := (HB.out.cell (World.block_lt_of_cell? w _ hx217_1)).trans hx217_1; replace hx217_2 := (HB.out.cell (World.block_lt_of_cell? w _ hx217_2)).trans hx217_2; have HR217_0 := A_ hi217_0; have HC217_0 := A_ hl217_0; clear hi217_0 hl217_0; have HR217_1 := A_ hi217_1; have HC217_1 := A_ hl217_1; clear hi217_1 hl217_1; have HR217_2 := A_ hi217_2; have HC217_2 := A_ hl217_2; clear hi217_2 hl217_2; replace p217 := eq_true p217; replace q217 := eq_true q217) | ((with_reducible refine gate_callee (f := 29) rfl ?_); refine goesL_ (some 27) rfl rfl Try.func29 (by kernel_rfl) rfl #[.slice A217_1 ((rd_T110 l0 x5_1).f1).length c217_1, .int .i64 t216] rfl (ag_) ?_; (with_reducible refine (laws_heldStringS.calls k1 _ _ ((rd_T110 l0 x5_1).f1) t216 t218 _ ?side1 ?side2 A8.out).mono ?_); (case side1 => refine cd_ ?_; exact (Kd.C_below HR217_1.out HB.out)); (case side2 => exact HC217_1.out); rintro e w17 ⟨rfl, hb⟩; refine ⟨_, rfl, ?_⟩; have n0_ := A_ (bs_ HB.out hb); clear HB; have HB := n0_; clear n0_; (try clear hb); (try clear hb2); (try clear hk); (try clear hi); have p219 : 0 <= (x5_1 : Int) := of_decide_eq_true as_; have q219 : x5_1 < (l0.length : Int) := of_decide_eq_true as_; obtain ⟨ad219, A219_0, c219_0, A219_1, c219_1, A219_2, c219_2, e219, hx219_0, hx219_1, hx219_2, hl219_0, hi219_0, hl219_1, hi219_1, hl219_2, hi219_2⟩ := at_T110 HR0.out x5_1 p219 q219; obtain rfl : ad215 = ad219 := (by injection e219); replace hx219_0 := (HB.out.cell (World.block_lt_of_cell? w _ hx219_0)).trans hx219_0; replace hx219_1 := (HB.out.cell (World.block_lt_of_cell? w _ hx219_1)).trans hx219_1; replace hx219_2 := (HB.out.cell (World.block_lt_of_cell? w _ hx219_2)).trans hx219_2; have HR219_0 := A_ hi219_0; have HC219_0 := A_ hl219_0; clear hi219_0 hl219_0; have HR219_1 := A_ hi219_1; have HC219_1 := A_ hl219_1; clear hi219_1 hl219_1; have HR219_2 := A_ hi219_2; have HC219_2 := A_ hl219_2; clear hi219_2 hl219_2; replace p219 := eq_true p219; replace q219 := eq_true q219) | ((with_reducible refine gate_callee (f := 111) rfl ?_); refine goesL_ (some 36) rfl rfl Try.func111 (by kernel_rfl) rfl #[.slice A219_2 ((rd_T110 l0 x5_1).f2).length c219_2, .int .i64 t218] rfl (ag_) ?_; (with_reducible refine (laws_heldIntS.calls k1 _ _ ((rd_T110 l0 x5_1).f2) t218 t220 _ ?side1 ?side2 A12.out).mono ?_); (case side1 => refine cd_ ?_; exact (Kd.C_below HR219_2.out HB.out)); (case side2 => exact HC219_2.out); rintro e w' ⟨rfl, ⟨nd, rfl⟩⟩; refine ⟨_, rfl, ?_⟩))
        go_roundg k1
        case measure => have := HK1.out; omega
        case rel => exact ⟨(t220), (wrap64 (x5_1 + 1)), (by first | rfl | (simp; done) | (simp [*]; done)), (by first | rfl | (simp; done) | (simp [*]; done)), H', ⟨by have := HK1.out; omega⟩, ⟨be_ HB.out⟩⟩
    ·rw [if_neg c4] at H
     exact absurd H (by simp)
   ·rw [if_neg c3] at H
    have c3b0 : decide (x5_1 < (l0.length : Int)) = false := decide_eq_false c3
    clear c3
    obtain rfl := Option.some.inj H
    go_wp2
    go_ret
    exact ⟨ew_, by repeat (first | (with_reducible first | exact HB.out | apply below_alloc | apply pw_below_drewN | apply below_drew1) | exact HB.out)⟩
def kp110 : Kd S110 where
  sz := k110.sz
  E := k110.E
  K := k110.K
  M := fun w base ok x cs => ∃ (f : Nat -> Nat) (v0 v1 v2 : Value), cs = [v0, v1, v2] /\ Kd.string.R 9 w base (fun k => ok k /\ f k = 0) v0 x.f0 /\ Kd.string.R 9 w base (fun k => ok k /\ f k = 1) v1 x.f1 /\ (Kd.int .i64).R 3 w base (fun k => ok k /\ f k = 2) v2 x.f2
  K_len := fun h => k110.K_len h
  K_one := fun h => k110.K_one h
  K_below := fun hb h => k110.K_below hb h
  K_of_M := by
    rintro w base ok x cs ⟨f, v0, v1, v2, rfl, h0, h1, h2⟩
    exact k110.K_of_M (k110_mkM w base ok x (Kd.R_mono h0 (fun _ h => h.1)) (Kd.R_mono h1 (fun _ h => h.1)) (Kd.R_mono h2 (fun _ h => h.1)))
  M_mono := by
    rintro w base ok ok' x cs hok ⟨f, v0, v1, v2, rfl, h0, h1, h2⟩
    exact ⟨f, v0, v1, v2, rfl, Kd.R_mono h0 (fun k h => ⟨hok k h.1, h.2⟩), Kd.R_mono h1 (fun k h => ⟨hok k h.1, h.2⟩), Kd.R_mono h2 (fun k h => ⟨hok k h.1, h.2⟩)⟩
  M_bound := by
    rintro w base ok x cs ⟨f, v0, v1, v2, rfl, h0, h1, h2⟩
    have hE : k110.E = [9, 9, 3] := rfl
    refine ⟨f, v0, v1, v2, rfl, Kd.R_mono (Kd.R_bound h0) ?_, Kd.R_mono (Kd.R_bound h1) ?_, Kd.R_mono (Kd.R_bound h2) ?_⟩
    all_goals
      rintro k ⟨⟨a, b⟩, c, d, q, hq, hc⟩
      refine ⟨⟨a, c, d, q, ?_, hc⟩, b⟩
      rw [hE]
      first
        | (have : q = 9 := by simpa [Kd.string, Kd.int, Kd.scalar] using hq
           subst this
           simp)
        | (have : q = 3 := by simpa [Kd.string, Kd.int, Kd.scalar] using hq
           subst this
           simp)
  M_move := by
    rintro w w1 base ok x cs hm ⟨f, v0, v1, v2, rfl, h0, h1, h2⟩
    exact ⟨f, v0, v1, v2, rfl, Kd.R_move h0 (fun k h => hm k h.1), Kd.R_move h1 (fun k h => hm k h.1), Kd.R_move h2 (fun k h => hm k h.1)⟩
  M_lower := by
    rintro w base base' ok x cs hb ⟨f, v0, v1, v2, rfl, h0, h1, h2⟩
    exact ⟨f, v0, v1, v2, rfl, Kd.R_lower h0 hb, Kd.R_lower h1 hb, Kd.R_lower h2 hb⟩
theorem kp110_openM {w : World} {base : Nat} {ok : Nat -> Prop} {x : S110} {cs : List Value} (h : kp110.M w base ok x cs) : ∃ v0 v1 v2, cs = [v0, v1, v2] /\ Kd.string.R 9 w base ok v0 x.f0 /\ Kd.string.R 9 w base ok v1 x.f1 /\ (Kd.int .i64).R 3 w base ok v2 x.f2 := by
  obtain ⟨f, v0, v1, v2, rfl, h0, h1, h2⟩ := h
  exact ⟨v0, v1, v2, rfl, Kd.R_mono h0 (fun _ h => h.1), Kd.R_mono h1 (fun _ h => h.1), Kd.R_mono h2 (fun _ h => h.1)⟩
theorem kp110_zero (w : World) (base : Nat) (ok : Nat -> Prop) : kp110.M w base ok z110 [.slice none 0 0, .slice none 0 0, .slice none 0 0] := ⟨fun _ => 0, _, _, _, rfl, Kd.R_nil _ _ _ _ _, Kd.R_nil _ _ _ _ _, Kd.R_nil _ _ _ _ _⟩
theorem kp110_mkM (w : World) (base : Nat) (ok : Nat -> Prop) (x : S110) {v0 v1 v2 : Value} (g0 : Kd.string.R 9 w base ok v0 x.f0) (g1 : Kd.string.R 9 w base ok v1 x.f1) (g2 : (Kd.int .i64).R 3 w base ok v2 x.f2) (hne : ∀ k, v0.ownBlock = some k -> some k ≠ v1.ownBlock) : kp110.M w base ok x [v0, v1, v2] := by
  have ty : ∀ {u : Value} {y : List ByteArray}, Kd.string.R 9 w base ok u y -> ∀ k, u.ownBlock = some k -> some k ≠ v2.ownBlock := fun g k hk h2 => by
    obtain ⟨c1, e1⟩ := Kd.R_typed g k hk
    obtain ⟨c2, e2⟩ := Kd.R_typed g2 k h2.symm
    rw [e1] at e2
    injection e2 with e2
    injection e2 with _ e2
    cases e2
  refine ⟨fun k => if some k = v1.ownBlock then 1 else if some k = v2.ownBlock then 2 else 0, v0, v1, v2, rfl, Kd.R_mono (Kd.R_tight2 rfl g0) (fun k h => ⟨h.2, ?_⟩), Kd.R_mono (Kd.R_tight2 rfl g1) (fun k h => ⟨h.2, if_pos h.1⟩), Kd.R_mono (Kd.R_tight2 rfl g2) (fun k h => ⟨h.2, ?_⟩)⟩
  · show (if some k = v1.ownBlock then 1 else if some k = v2.ownBlock then 2 else 0) = 0
    rw [if_neg (hne k h.1.symm), if_neg (ty g0 k h.1.symm)]
  · show (if some k = v1.ownBlock then 1 else if some k = v2.ownBlock then 2 else 0) = 2
    rw [if_neg (fun e => ty g1 k e.symm h.1), if_pos h.1]
def laws_markPageS.l0 : Nat -> List (S110) -> Int -> Int -> Option (Int × List (S110))
  | 0, _, _, _ => none
  | k + 1, x0, x1, x5 => if x5 < (x0.length : Int) then (if 0 <= x5 then ((laws_markStringS.f k (rd_T110 x0 x5).f0 x1).bind fun a => (laws_markStringS.f k (rd_T110 x0 x5).f1 a.1).bind fun b => (laws_markIntS.f k (rd_T110 x0 x5).f2 b.1).bind fun c => laws_markPageS.l0 k (x0.set (x5 : Int).toNat ⟨a.2, b.2, c.2⟩) c.1 (wrap64 (x5 + 1))) else (none)) else (some (x1, x0))
def laws_markPageS.f (k : Nat) (l0 : List (S110)) (a1 : Int) : Option (Int × List (S110)) := laws_markPageS.l0 k l0 a1 0
theorem laws_markPageS.calls (k : Nat) (ok : Nat -> Prop) (v : Value) (l0 : List (S110)) (a1 : Int) (r1 : Int) (r2 : List (S110)) (w0 w : World) (hB : Below w0.heap.size w0 w) (ho : Kd.S kp110 110 w w0.heap.size ok v l0) (h : laws_markPageS.f k l0 a1 = some (r1, r2)) :
    Calls Try.prog 67 #[v, .int .i64 a1] w fun e w' => e = .returned (.int .i64 r1) /\ Kd.S kp110 110 w' w0.heap.size ok v r2 /\ Below w0.heap.size w0 w' /\ Kept w w' ok := by
  have hu110 := Try.underlying110
  have HO := Aside0.mk ho
  have HK := Aside0.mk (Kept.refl w ok)
  have HB := Aside0.mk hB
  have H' := Aside0.mk (show laws_markPageS.l0 k l0 a1 0 = some (r1, r2) from h)
  clear hB ho h
  go_enter Try.func67, Try.ntmps67
  go_wp2
  go_loopg [1, 5] k (fun kq v1 v5 w' => ∃ (x0 : List (S110)) (x1 : Int) (x5 : Int), v1 = .int .i64 x1 /\ v5 = .int .i64 x5 /\ Aside0 (laws_markPageS.l0 kq x0 x1 x5 = some (r1, r2)) /\ Aside0 (kq <= k) /\ Aside0 (Kd.S kp110 110 w' w0.heap.size ok v x0) /\ Aside0 (Kept w w' ok) /\ Aside0 (Below w0.heap.size w0 w'))
  case atStart => exact ⟨l0, a1, 0, by first | rfl | (simp; done), by first | rfl | (simp; done), H', ⟨Nat.le_refl _⟩, HO, HK, HB⟩
  case round =>
    clear H' HO HK HB
    obtain ⟨x0, x1, x5, rfl, rfl, HA, HK1, HO, HK, HB⟩ := hrel
    cases gk with
    | zero => exact absurd HA.out (by simp [laws_markPageS.l0])
    | succ k1 =>
      have H := HA.out
      clear HA
      simp only [laws_markPageS.l0] at H
      by_cases c3 : x5 < (x0.length : Int)
      · rw [if_pos c3] at H
        have c3b : decide (x5 < (x0.length : Int)) = true := decide_eq_true c3
        by_cases c4 : 0 <= x5
        · rw [if_pos c4] at H
          have c4b : decide (0 <= x5) = true := decide_eq_true c4
          obtain ⟨a, ha, H⟩ := Option.bind_eq_some_iff.mp H
          obtain ⟨b, hb, H⟩ := Option.bind_eq_some_iff.mp H
          obtain ⟨c, hc, H⟩ := Option.bind_eq_some_iff.mp H
          have HMa := Aside0.mk ha
          have HMb := Aside0.mk hb
          have HMc := Aside0.mk hc
          have H' := Aside0.mk H
          clear ha hb hc H
          obtain ⟨go5, co5, eo5, gb5, gl5, cl5, HG5⟩ := Kd.R_form (Kd.S_R HO.out) (by omega)
          subst eo5
          clear gb5 gl5 HG5
          obtain ⟨oki, cc, hcl, hM, hcc, hfr, hoki, hH⟩ := Kd.S_elem HO.out ⟨[], [], []⟩ x5 c4 c3
          have erd : x0.getD x5.toNat ⟨[], [], []⟩ = rd_T110 x0 x5 := rfl
          rw [erd] at hM
          generalize rd_T110 x0 x5 = p at hM HMa HMb HMc
          obtain ⟨f, v0, v1, v2, rfl, hR0, hR1, hR2⟩ := hM
          have z0 := hcc 0 _ rfl
          have z1 := hcc 1 _ rfl
          have z2 := hcc 2 _ rfl
          rw [show kp110.sz = 3 from rfl] at z0 z1 z2
          rw [Nat.add_zero] at z0
          have HH := Aside0.mk hH
          have HR0 := Aside0.mk hR0
          have HR1 := Aside0.mk hR1
          have HR2 := Aside0.mk hR2
          have HT0 := Aside0.mk (fun k_ (e_ : v0.ownBlock = some k_) => hR0.1 k_ e_)
          have HT1 := Aside0.mk (fun k_ (e_ : v1.ownBlock = some k_) => hR1.1 k_ e_)
          have HT2 := Aside0.mk (fun k_ (e_ : v2.ownBlock = some k_) => hR2.1 k_ e_)
          have HI := Aside0.mk hoki
          clear hH hR0 hR1 hR2 hcc hcl hfr hoki erd HO
          go_wp2_with (go_at_call 28; (with_reducible refine (laws_markStringS.calls k1 (fun k_ => oki k_ /\ f k_ = 0) v0 p.f0 x1 a.1 a.2 w0 _ ?side1 ?side2 HMa.out).mono ?_); (case side1 => exact HB.out); (case side2 => exact HR0.out); rintro e w2 ⟨rfl, hr2, hb2, hk2⟩; have HH2 := Aside0.mk (Kd.H_kept HH.out hk2 (fun _ _ h1_ h2_ => h1_ h2_.1)); have HQ0 := Aside0.mk (Kd.R_mono (Kd.R_tight rfl hr2) (fun k_ hk_ => HT0.out k_ hk_.symm)); have HQ1 := Aside0.mk (Kd.R_kept HR1.out hk2 (fun k_ h1_ h2_ => by have e1_ := h1_.2; have e2_ := h2_.2; omega)); have HQ2 := Aside0.mk (Kd.R_kept HR2.out hk2 (fun k_ h1_ h2_ => by have e1_ := h1_.2; have e2_ := h2_.2; omega)); have HB2 := Aside0.mk hb2; have HK2 := Aside0.mk (HK.out.then_ hk2 (fun k_ h_ => .inl (HI.out k_ h_.1).1)); have y1 := cell_kept z1 hk2 (fun h_ => (HI.out _ h_.1).2 rfl); have y2 := cell_kept z2 hk2 (fun h_ => (HI.out _ h_.1).2 rfl); clear hr2 hb2 hk2 HH HR0 HR1 HR2 HB HK z0 z1 z2)
          go_wp2_with (go_at_call 28; (with_reducible refine (laws_markStringS.calls k1 (fun k_ => oki k_ /\ f k_ = 1) v1 p.f1 a.1 b.1 b.2 w0 _ ?side1 ?side2 HMb.out).mono ?_); (case side1 => exact HB2.out); (case side2 => exact HQ1.out); rintro e w3 ⟨rfl, hr2, hb2, hk2⟩; have HH3 := Aside0.mk (Kd.H_kept HH2.out hk2 (fun _ _ h1_ h2_ => h1_ h2_.1)); have HU1 := Aside0.mk (Kd.R_mono (Kd.R_tight rfl hr2) (fun k_ hk_ => HT1.out k_ hk_.symm)); have HU0 := Aside0.mk (Kd.R_kept HQ0.out hk2 (fun k_ h1_ h2_ => by have e1_ := h1_.2; have e2_ := h2_.2; omega)); have HU2 := Aside0.mk (Kd.R_kept HQ2.out hk2 (fun k_ h1_ h2_ => by have e1_ := h1_.2; have e2_ := h2_.2; omega)); have HB3 := Aside0.mk hb2; have HK3 := Aside0.mk (HK2.out.then_ hk2 (fun k_ h_ => .inl (HI.out k_ h_.1).1)); have x2_ := cell_kept y2 hk2 (fun h_ => (HI.out _ h_.1).2 rfl); clear hr2 hb2 hk2 HH2 HQ0 HQ1 HQ2 HB2 HK2 y1 y2)
          go_wp2_with (go_at_call 102; (with_reducible refine (laws_markIntS.calls k1 (fun k_ => oki k_ /\ f k_ = 2) v2 p.f2 b.1 c.1 c.2 w0 _ ?side1 ?side2 HMc.out).mono ?_); (case side1 => exact HB3.out); (case side2 => exact HU2.out); rintro e w4 ⟨rfl, hr2, hb2, hk2⟩; have HH4 := Aside0.mk (Kd.H_kept HH3.out hk2 (fun _ _ h1_ h2_ => h1_ h2_.1)); have HV2 := Aside0.mk (Kd.R_mono (Kd.R_tight rfl hr2) (fun k_ hk_ => HT2.out k_ hk_.symm)); have HV0 := Aside0.mk (Kd.R_kept HU0.out hk2 (fun k_ h1_ h2_ => by have e1_ := h1_.2; have e2_ := h2_.2; omega)); have HV1 := Aside0.mk (Kd.R_kept HU1.out hk2 (fun k_ h1_ h2_ => by have e1_ := h1_.2; have e2_ := h2_.2; omega)); have HB4 := Aside0.mk hb2; have HK4 := Aside0.mk (HK3.out.then_ hk2 (fun k_ h_ => .inl (HI.out k_ h_.1).1)); clear hr2 hb2 hk2 HH3 HU0 HU1 HU2 HB3 HK3 x2_)
          go_roundg k1
          case measure => have := HK1.out; omega
          case rel => exact ⟨x0.set x5.toNat ⟨a.2, b.2, c.2⟩, c.1, wrap64 (x5 + 1), by first | rfl | (simp; done), by first | rfl | (simp; done), H', ⟨by have := HK1.out; omega⟩, ⟨Kd.H_back HH4.out (show kp110.M _ _ oki ⟨a.2, b.2, c.2⟩ _ from ⟨f, v0, v1, v2, rfl, HV0.out, HV1.out, HV2.out⟩) (fun _ h_ => h_)⟩, HK4, HB4⟩
        · rw [if_neg c4] at H
          exact absurd H (by simp)
      · rw [if_neg c3] at H
        have c3b : decide (x5 < (x0.length : Int)) = false := decide_eq_false c3
        clear c3
        simp only [Option.some.injEq, Prod.mk.injEq] at H
        obtain ⟨rfl, rfl⟩ := H
        obtain ⟨Ao, co, eo⟩ := Kd.S_slice HO.out
        subst eo
        go_wp2
        go_ret
        exact ⟨by first | rfl | (simp; done), HO.out, HB.out, HK.out⟩
theorem laws_markTree.calls (k : Nat) (ok : Nat -> Prop) (v : Value) (l0 : List (S110)) (a1 : Int) (r1 : Int) (r2 : List (S110)) (w0 w : World) (hB : Below w0.heap.size w0 w) (ho : Kd.S kp110 110 w w0.heap.size ok v l0) (h : laws_markPageS.f k l0 a1 = some (r1, r2)) :
    Calls Try.prog 27 #[.agg #[v], .int .i64 a1] w fun e w' => e = .returned (.int .i64 r1) /\ Kd.S kp110 110 w' w0.heap.size ok v r2 /\ Below w0.heap.size w0 w' /\ Kept w w' ok := by
  have hu29 := Try.underlying29
  obtain ⟨Ao, co, rfl⟩ := Kd.S_slice ho
  have HO := Aside0.mk ho
  have HB := Aside0.mk hB
  have HK := Aside0.mk (Kept.refl w ok)
  have E := Aside0.mk h
  clear ho hB h
  go_enter Try.func27, Try.ntmps27
  go_wp2_with (first | ((with_reducible refine gate_dst (N := 2) rfl ?_); refine box_event ?hg (N := 2) ?hd (cs := #[.slice Ao l0.length co]) (t := 29) ?hr ?_; (case hd => rfl); (case hg => rfl); (case hr => first | (go_simp; done) | (go_simp; rfl)); intro gb hg w5 hbox hb; have HB5 := Aside0.mk (below_step (by repeat (first | (with_reducible first | exact HB.out | apply below_alloc | apply pw_below_drewN | apply below_drew1) | exact HB.out)) hb); have HO5 := Aside0.mk (Kd.S_below (by (with_reducible repeat (first | apply Kd.S_alloc | apply Kd.S_drewN | apply Kd.S_drew)); exact HO.out) hb); have HK5 := Aside0.mk (Kept.below HK.out hb); have hcz_ := (blk_cell hbox 0).trans rfl; have hfz_ := blk_frozen hbox 0; clear hbox hb hg) | (go_at_call 67; (with_reducible refine (laws_markPageS.calls k ok _ l0 a1 r1 r2 w0 _ ?side1 ?side2 E.out).mono ?_); (case side1 => exact HB5.out); (case side2 => exact HO5.out); rintro e w6 ⟨rfl, hr6, hb6, hk6⟩; have HO6 := Aside0.mk hr6; have HB6 := Aside0.mk hb6; have HK6 := Aside0.mk (HK5.out.then_ hk6 (fun _ h_ => .inl h_)); clear hr6 hb6 hk6))
  go_ret
  exact ⟨by first | rfl | (simp; done), HO6.out, HB6.out, HK6.out⟩
def laws_toStringS.l0 : Nat -> List ByteArray -> List ByteArray -> Int -> Option (List ByteArray)
 | 0, _, _, _ => none
 | k + 1, x0, x3, x4 => if x4 < (x0.length : Int) then (if 0 <= x4 then (if x4 < (x3.length : Int) then (laws_toStringS.l0 k x0 (x3.set (x4 : Int).toNat (rdOf ByteArray.empty x0 x4)) (wrap64 (x4 + 1))) else (none)) else (none)) else (some x3)
def laws_toStringS.f (k : Nat) (l0 : List ByteArray) : Option (List ByteArray) := if 0 <= (l0.length : Int) then (if ((l0.length : Int) : Int).toNat <= 17592186044416 then (laws_toStringS.l0 k l0 (List.replicate ((l0.length : Int) : Int).toNat (⟨#[]⟩ : ByteArray)) 0) else (none)) else (none)
theorem laws_toStringS.calls (k : Nat) (A0 : Option Addr) (c0 : Nat) (l0 : List ByteArray) (r : List ByteArray) (w : World) (hr0 : Kd.C Kd.string w A0 l0.length l0) (hc0 : l0.length <= c0) (h : laws_toStringS.f k l0 = some r) :
  Calls Try.prog 43 #[.slice A0 l0.length c0] w fun e w' => ∃ v0_ : Value, e = .returned (v0_) /\ Kd.R Kd.string 9 w' w.heap.size (fun _ => True) v0_ r /\ Below w.heap.size w w' := by
 have HR0 := A_ hr0
 have HC0 := A_ hc0
 clear hr0 hc0
 have HB := A_ (Below.refl w.heap.size w)
 have H : (if 0 <= (l0.length : Int) then (if ((l0.length : Int) : Int).toNat <= 17592186044416 then (laws_toStringS.l0 k l0 (List.replicate ((l0.length : Int) : Int).toNat (⟨#[]⟩ : ByteArray)) 0) else (none)) else (none)) = some r := h
 clear h
 by_cases c2 : 0 <= (l0.length : Int)
 ·rw [if_pos c2] at H
  have c2b0 := eq_true c2
  have c2b1 : decide (0 <= (l0.length : Int)) = true := decide_eq_true c2
  clear c2
  by_cases c3 : ((l0.length : Int) : Int).toNat <= 17592186044416
  ·rw [if_pos c3] at H
   have c3b0 := eq_true c3
   have c3b1 : decide (((l0.length : Int) : Int).toNat <= 17592186044416) = true := decide_eq_true c3
   clear c3
   obtain ⟨y110, hy110⟩ : ∃ y_ : List ByteArray, y_ = (List.replicate ((l0.length : Int) : Int).toNat (⟨#[]⟩ : ByteArray)) := ⟨_, rfl⟩
   replace H : (laws_toStringS.l0 k l0 y110 0) = some r := by first | (rw [hy110]; with_reducible exact H) | (have H2_ := (Option.bind_some _ _).symm.trans H; rw [hy110]; with_reducible exact H2_) | (have H2_ := (Option.bind_some _ _).symm.trans H; with_reducible exact H2_) | with_reducible exact H | (rw [hy110]; exact H) | exact H
   have Ny110 := A_ hy110
   clear hy110
   have H' := A_ H
   clear H
   go_enter Try.func43, Try.ntmps43
   go_wp2_with (first | ((with_reducible refine gate_dst (N := 7) rfl ?_); refine Kd.R_make Kd.string _ 9 rfl (N := 7) rfl 38 _ _ rfl (l0.length : Int) rfl rfl Try.underlying38 (.string ⟨#[]⟩) 16 info9 rfl (by decide) (by omega) (⟨#[]⟩ : ByteArray) (ok := fun _ => True) (okp := fun _ => True) rfl (fun _ hk => hk) trivial (of_decide_eq_true as_) (Nat.le_trans (Nat.mul_le_mul_right _ (of_decide_eq_true as_ : (l0.length : Int).toNat <= 17592186044416)) (by omega)) (Below.refl _ _) (Nat.le_refl _) ?_; intro v111 w4 ho5 hb hg_ hnew_; clear hg_ hnew_; (first | rw [<- Ny110.out] at ho5 | (simp only [Int.reduceToNat] at ho5; rw [<- Ny110.out] at ho5)); have n0_ := A_ (Kd.R_lower ho5 (bw_ HB.out)); have n1_ := A_ (bs_ HB.out hb); clear HB; have HO112 := n0_; have HB := n1_; clear n0_ n1_; clear hb ho5))
   go_loopg [4] k (fun kq v4 w' => ∃ (x3_1 : List ByteArray) (x4_1 : Int), v4 = .int .i64 x4_1 /\ Aside0 (laws_toStringS.l0 kq l0 x3_1 x4_1 = some r) /\ Aside0 (kq <= k) /\ Aside0 (Kd.R Kd.string 9 w' w.heap.size (fun _ => True) v111 x3_1) /\ Aside0 (Below w.heap.size w w'))
   case atStart => exact ⟨(y110), (0), (by first | rfl | (simp; done) | (simp [*]; done)), H', ⟨Nat.le_refl _⟩, ⟨rk_ HO112.out⟩, ⟨be_ HB.out⟩⟩
   case round =>
    clear H'
    (try clear c2); (try clear c2b0); (try clear c2b1); (try clear p2); (try clear c3); (try clear c3b0); (try clear c3b1); (try clear c4)
    obtain ⟨x3_1, x4_1, rfl, HA, HK1, HO_3, HB⟩ := hrel
    cases gk with
    | zero => exact absurd HA.out (by simp [laws_toStringS.l0])
    | succ k1 =>
     have H := HA.out
     clear HA
     simp only [laws_toStringS.l0] at H
     by_cases c6 : x4_1 < (l0.length : Int)
     ·rw [if_pos c6] at H
      have c6b0 : decide (x4_1 < (l0.length : Int)) = true := decide_eq_true c6
      clear c6
      by_cases c7 : 0 <= x4_1
      ·rw [if_pos c7] at H
       have c7b0 : decide (0 <= x4_1) = true := decide_eq_true c7
       clear c7
       by_cases c8 : x4_1 < (x3_1.length : Int)
       ·rw [if_pos c8] at H
        have c8b0 : decide (x4_1 < (x3_1.length : Int)) = true := decide_eq_true c8
        clear c8
        obtain ⟨y114, hy114⟩ : ∃ y_ : List ByteArray, y_ = (x3_1.set (x4_1 : Int).toNat (rdOf ByteArray.empty l0 x4_1)) := ⟨_, rfl⟩
        replace H : (laws_toStringS.l0 k1 l0 y114 (wrap64 (x4_1 + 1))) = some r := by first | (rw [hy114]; with_reducible exact H) | (have H2_ := (Option.bind_some _ _).symm.trans H; rw [hy114]; with_reducible exact H2_) | (have H2_ := (Option.bind_some _ _).symm.trans H; with_reducible exact H2_) | with_reducible exact H | (rw [hy114]; exact H) | exact H
        have Ny114 := A_ hy114
        clear hy114
        have H' := A_ H
        clear H
        have p113 : 0 <= (x4_1 : Int) := of_decide_eq_true as_
        have q113 : x4_1 < (l0.length : Int) := of_decide_eq_true as_
        obtain ⟨ad113, e113, hx113_0⟩ := Kd.at_string HR0.out x4_1 p113 q113
        cases e113
        replace hx113_0 := (HB.out.cell (World.block_lt_of_cell? w _ hx113_0)).trans hx113_0
        replace p113 := eq_true p113
        replace q113 := eq_true q113
        have p9 : 0 <= (x4_1 : Int) := of_decide_eq_true as_
        have q9 : (x4_1 : Int) < ((x3_1.length : Int) : Int) := of_decide_eq_true as_
        obtain ⟨go9, co9, eo9, gb9, gl9, cl9, HG9⟩ := Kd.R_form HO_3.out (by omega)
        (first | cases eo9 | (injection eo9 with ea_ en_ ec_; (first | subst ea_ | (injection ea_ with ea_; subst ea_)); subst ec_; clear en_))
        have GB9 := A_ gb9
        have GG9 := A_ HG9
        clear gb9 gl9 HG9
        obtain ⟨hx9_0, hf9_0⟩ := Kd.R_celln (⟨#[]⟩ : ByteArray) HO_3.out (x4_1 : Int) p9 q9
        replace p9 := eq_true p9
        replace q9 := eq_true q9
        have HP10 := Kd.R_putg HO_3.out (x4_1 : Int) (rdOf ByteArray.empty l0 x4_1)
        go_wp2_with (first | ((with_reducible refine gate_store (t := 9) (p := 20) rfl ?_); refine store_event (t := 9) (p := 20) (v := ?vo_w11) (w1 := (wr.setCell ⟨go9, (x4_1 : Int).toNat, none⟩ (.string (rdOf ByteArray.empty l0 x4_1)))) ?hg ?ho ?hn ?hr ?_; (case ho => rfl); (case hg => rfl); (case hn => rfl); (case hr => first | (go_simp; done) | (go_simp; rfl)); intro w11 hw; have hg : wr.grownBy w11 (some go9) := (by rw [hw]; exact HP10.2); have hp_ : Kd.R Kd.string 9 w11 w.heap.size (fun _ => True) (.slice (some ⟨go9, 0, none⟩) x3_1.length co9) y114 := (by rw [hw, Ny114.out]; exact HP10.1); clear HP10; have n0_ := A_ (hp_); have n1_ := A_ ((by rw [hw]; exact below_set (HB.out) GB9.out : Below w.heap.size w w11)); clear HO_3; clear HB; have HO_3 := n0_; have HB := n1_; clear n0_ n1_; clear hg hw hp_))
        go_roundg k1
        case measure => have := HK1.out; omega
        case rel => exact ⟨(y114), (wrap64 (x4_1 + 1)), (by first | rfl | (simp; done) | (simp [*]; done)), H', ⟨by have := HK1.out; omega⟩, ⟨rk_ HO_3.out⟩, ⟨be_ HB.out⟩⟩
       ·rw [if_neg c8] at H
        exact absurd H (by simp)
      ·rw [if_neg c7] at H
       exact absurd H (by simp)
     ·rw [if_neg c6] at H
      have c6b0 : decide (x4_1 < (l0.length : Int)) = false := decide_eq_false c6
      clear c6
      obtain rfl := Option.some.inj H
      go_wp2
      go_ret
      exact ⟨_, ew_, by (with_reducible repeat (first | apply Kd.R_alloc | apply Kd.R_drewN | apply Kd.R_drew)); exact HO_3.out, by repeat (first | (with_reducible first | exact HB.out | apply below_alloc | apply pw_below_drewN | apply below_drew1) | exact HB.out)⟩
  ·rw [if_neg c3] at H
   exact absurd H (by simp)
 ·rw [if_neg c2] at H
  exact absurd H (by simp)
def laws_toIntS.l0 : Nat -> List Int -> List Int -> Int -> Option (List Int)
 | 0, _, _, _ => none
 | k + 1, x0, x3, x4 => if x4 < (x0.length : Int) then (if 0 <= x4 then (if x4 < (x3.length : Int) then (laws_toIntS.l0 k x0 (x3.set (x4 : Int).toNat (rd x0 x4)) (wrap64 (x4 + 1))) else (none)) else (none)) else (some x3)
def laws_toIntS.f (k : Nat) (l0 : List Int) : Option (List Int) := if 0 <= (l0.length : Int) then (if ((l0.length : Int) : Int).toNat <= 35184372088832 then (laws_toIntS.l0 k l0 (List.replicate ((l0.length : Int) : Int).toNat 0) 0) else (none)) else (none)
theorem laws_toIntS.calls (k : Nat) (A0 : Option Addr) (c0 : Nat) (l0 : List Int) (r : List Int) (w : World) (hr0 : Kd.C (Kd.int .i64) w A0 l0.length l0) (hc0 : l0.length <= c0) (h : laws_toIntS.f k l0 = some r) :
  Calls Try.prog 120 #[.slice A0 l0.length c0] w fun e w' => ∃ v0_ : Value, e = .returned (v0_) /\ Kd.R (Kd.int .i64) 3 w' w.heap.size (fun _ => True) v0_ r /\ Below w.heap.size w w' := by
 have HR0 := A_ hr0
 have HC0 := A_ hc0
 clear hr0 hc0
 have HB := A_ (Below.refl w.heap.size w)
 have H : (if 0 <= (l0.length : Int) then (if ((l0.length : Int) : Int).toNat <= 35184372088832 then (laws_toIntS.l0 k l0 (List.replicate ((l0.length : Int) : Int).toNat 0) 0) else (none)) else (none)) = some r := h
 clear h
 by_cases c2 : 0 <= (l0.length : Int)
 ·rw [if_pos c2] at H
  have c2b0 := eq_true c2
  have c2b1 : decide (0 <= (l0.length : Int)) = true := decide_eq_true c2
  clear c2
  by_cases c3 : ((l0.length : Int) : Int).toNat <= 35184372088832
  ·rw [if_pos c3] at H
   have c3b0 := eq_true c3
   have c3b1 : decide (((l0.length : Int) : Int).toNat <= 35184372088832) = true := decide_eq_true c3
   clear c3
   obtain ⟨y115, hy115⟩ : ∃ y_ : List Int, y_ = (List.replicate ((l0.length : Int) : Int).toNat 0) := ⟨_, rfl⟩
   replace H : (laws_toIntS.l0 k l0 y115 0) = some r := by first | (rw [hy115]; with_reducible exact H) | (have H2_ := (Option.bind_some _ _).symm.trans H; rw [hy115]; with_reducible exact H2_) | (have H2_ := (Option.bind_some _ _).symm.trans H; with_reducible exact H2_) | with_reducible exact H | (rw [hy115]; exact H) | exact H
   have Ny115 := A_ hy115
   clear hy115
   have H' := A_ H
   clear H
   go_enter Try.func120, Try.ntmps120
   go_wp2_with (first | ((with_reducible refine gate_dst (N := 7) rfl ?_); refine Kd.R_make (Kd.int .i64) _ 3 rfl (N := 7) rfl 108 _ _ rfl (l0.length : Int) rfl rfl Try.underlying108 (.int .i64 0) 8 info3 rfl (by decide) (by omega) 0 (ok := fun _ => True) (okp := fun _ => True) rfl (fun _ hk => hk) trivial (of_decide_eq_true as_) (Nat.le_trans (Nat.mul_le_mul_right _ (of_decide_eq_true as_ : (l0.length : Int).toNat <= 35184372088832)) (by omega)) (Below.refl _ _) (Nat.le_refl _) ?_; intro v116 w4 ho5 hb hg_ hnew_; clear hg_ hnew_; (first | rw [<- Ny115.out] at ho5 | (simp only [Int.reduceToNat] at ho5; rw [<- Ny115.out] at ho5)); have n0_ := A_ (Kd.R_lower ho5 (bw_ HB.out)); have n1_ := A_ (bs_ HB.out hb); clear HB; have HO117 := n0_; have HB := n1_; clear n0_ n1_; clear hb ho5))
   go_loopg [4] k (fun kq v4 w' => ∃ (x3_1 : List Int) (x4_1 : Int), v4 = .int .i64 x4_1 /\ Aside0 (laws_toIntS.l0 kq l0 x3_1 x4_1 = some r) /\ Aside0 (kq <= k) /\ Aside0 (Kd.R (Kd.int .i64) 3 w' w.heap.size (fun _ => True) v116 x3_1) /\ Aside0 (Below w.heap.size w w'))
   case atStart => exact ⟨(y115), (0), (by first | rfl | (simp; done) | (simp [*]; done)), H', ⟨Nat.le_refl _⟩, ⟨rk_ HO117.out⟩, ⟨be_ HB.out⟩⟩
   case round =>
    clear H'
    (try clear c1); (try clear c2); (try clear c2b0); (try clear c2b1); (try clear p2); (try clear c3); (try clear c3b0); (try clear c3b1)
    obtain ⟨x3_1, x4_1, rfl, HA, HK1, HO_3, HB⟩ := hrel
    cases gk with
    | zero => exact absurd HA.out (by simp [laws_toIntS.l0])
    | succ k1 =>
     have H := HA.out
     clear HA
     simp only [laws_toIntS.l0] at H
     by_cases c6 : x4_1 < (l0.length : Int)
     ·rw [if_pos c6] at H
      have c6b0 : decide (x4_1 < (l0.length : Int)) = true := decide_eq_true c6
      clear c6
      by_cases c7 : 0 <= x4_1
      ·rw [if_pos c7] at H
       have c7b0 : decide (0 <= x4_1) = true := decide_eq_true c7
       clear c7
       by_cases c8 : x4_1 < (x3_1.length : Int)
       ·rw [if_pos c8] at H
        have c8b0 : decide (x4_1 < (x3_1.length : Int)) = true := decide_eq_true c8
        clear c8
        obtain ⟨y119, hy119⟩ : ∃ y_ : List Int, y_ = (x3_1.set (x4_1 : Int).toNat (rd l0 x4_1)) := ⟨_, rfl⟩
        replace H : (laws_toIntS.l0 k1 l0 y119 (wrap64 (x4_1 + 1))) = some r := by first | (rw [hy119]; with_reducible exact H) | (have H2_ := (Option.bind_some _ _).symm.trans H; rw [hy119]; with_reducible exact H2_) | (have H2_ := (Option.bind_some _ _).symm.trans H; with_reducible exact H2_) | with_reducible exact H | (rw [hy119]; exact H) | exact H
        have Ny119 := A_ hy119
        clear hy119
        have H' := A_ H
        clear H
        have p118 : 0 <= (x4_1 : Int) := of_decide_eq_true as_
        have q118 : x4_1 < (l0.length : Int) := of_decide_eq_true as_
        obtain ⟨ad118, e118, hx118_0⟩ := Kd.at_int HR0.out x4_1 p118 q118
        cases e118
        replace hx118_0 := (HB.out.cell (World.block_lt_of_cell? w _ hx118_0)).trans hx118_0
        replace p118 := eq_true p118
        replace q118 := eq_true q118
        have p9 : 0 <= (x4_1 : Int) := of_decide_eq_true as_
        have q9 : (x4_1 : Int) < ((x3_1.length : Int) : Int) := of_decide_eq_true as_
        obtain ⟨go9, co9, eo9, gb9, gl9, cl9, HG9⟩ := Kd.R_form HO_3.out (by omega)
        (first | cases eo9 | (injection eo9 with ea_ en_ ec_; (first | subst ea_ | (injection ea_ with ea_; subst ea_)); subst ec_; clear en_))
        have GB9 := A_ gb9
        have GG9 := A_ HG9
        clear gb9 gl9 HG9
        obtain ⟨hx9_0, hf9_0⟩ := Kd.R_celln 0 HO_3.out (x4_1 : Int) p9 q9
        replace p9 := eq_true p9
        replace q9 := eq_true q9
        have HP10 := Kd.R_putg HO_3.out (x4_1 : Int) (rd l0 x4_1)
        go_wp2_with (first | ((with_reducible refine gate_store (t := 3) (p := 20) rfl ?_); refine store_event (t := 3) (p := 20) (v := ?vo_w11) (w1 := (wr.setCell ⟨go9, (x4_1 : Int).toNat, none⟩ (.int .i64 (rd l0 x4_1)))) ?hg ?ho ?hn ?hr ?_; (case ho => rfl); (case hg => rfl); (case hn => rfl); (case hr => first | (go_simp; done) | (go_simp; rfl)); intro w11 hw; have hg : wr.grownBy w11 (some go9) := (by rw [hw]; exact HP10.2); have hp_ : Kd.R (Kd.int .i64) 3 w11 w.heap.size (fun _ => True) (.slice (some ⟨go9, 0, none⟩) x3_1.length co9) y119 := (by rw [hw, Ny119.out]; exact HP10.1); clear HP10; have n0_ := A_ (hp_); have n1_ := A_ ((by rw [hw]; exact below_set (HB.out) GB9.out : Below w.heap.size w w11)); clear HO_3; clear HB; have HO_3 := n0_; have HB := n1_; clear n0_ n1_; clear hg hw hp_))
        go_roundg k1
        case measure => have := HK1.out; omega
        case rel => exact ⟨(y119), (wrap64 (x4_1 + 1)), (by first | rfl | (simp; done) | (simp [*]; done)), H', ⟨by have := HK1.out; omega⟩, ⟨rk_ HO_3.out⟩, ⟨be_ HB.out⟩⟩
       ·rw [if_neg c8] at H
        exact absurd H (by simp)
      ·rw [if_neg c7] at H
       exact absurd H (by simp)
     ·rw [if_neg c6] at H
      have c6b0 : decide (x4_1 < (l0.length : Int)) = false := decide_eq_false c6
      clear c6
      obtain rfl := Option.some.inj H
      go_wp2
      go_ret
      exact ⟨_, ew_, by (with_reducible repeat (first | apply Kd.R_alloc | apply Kd.R_drewN | apply Kd.R_drew)); exact HO_3.out, by repeat (first | (with_reducible first | exact HB.out | apply below_alloc | apply pw_below_drewN | apply below_drew1) | exact HB.out)⟩
  ·rw [if_neg c3] at H
   exact absurd H (by simp)
 ·rw [if_neg c2] at H
  exact absurd H (by simp)
def laws_toPage.f (k : Nat) (l0_0 : List ByteArray) (l0_1 : List ByteArray) (l0_2 : List Int) : Option (List ByteArray × List ByteArray × List Int) := (laws_toStringS.f k l0_0).bind fun t123 => ((laws_toStringS.f k l0_1).bind fun t126 => ((laws_toIntS.f k l0_2).bind fun t129 => (some (t123, t126, t129))))
theorem laws_toPage.calls (k : Nat) (A0_0 : Option Addr) (c0_0 : Nat) (l0_0 : List ByteArray) (A0_1 : Option Addr) (c0_1 : Nat) (l0_1 : List ByteArray) (A0_2 : Option Addr) (c0_2 : Nat) (l0_2 : List Int) (r1 : List ByteArray) (r2 : List ByteArray) (r3 : List Int) (w : World) (hr0_0 : Kd.C Kd.string w A0_0 l0_0.length l0_0) (hc0_0 : l0_0.length <= c0_0) (hr0_1 : Kd.C Kd.string w A0_1 l0_1.length l0_1) (hc0_1 : l0_1.length <= c0_1) (hr0_2 : Kd.C (Kd.int .i64) w A0_2 l0_2.length l0_2) (hc0_2 : l0_2.length <= c0_2) (h : laws_toPage.f k l0_0 l0_1 l0_2 = some (r1, r2, r3)) :
  Calls Try.prog 96 #[.agg #[.slice A0_0 l0_0.length c0_0, .slice A0_1 l0_1.length c0_1, .slice A0_2 l0_2.length c0_2]] w fun e w' => ∃ v0_ v1_ v2_ : Value, e = .returned (.agg #[v0_, v1_, v2_]) /\ Kd.R Kd.string 9 w' w.heap.size (fun k_ => some k_ ≠ (v1_ : Value).ownBlock) v0_ r1 /\ Kd.R Kd.string 9 w' w.heap.size (fun k_ => some k_ ≠ (v0_ : Value).ownBlock) v1_ r2 /\ Kd.R (Kd.int .i64) 3 w' w.heap.size (fun _ => True) v2_ r3 /\ Below w.heap.size w w' := by
 have hu115 := Try.underlying115
 have hu110 := Try.underlying110
 have HR0_0 := A_ hr0_0
 have HC0_0 := A_ hc0_0
 clear hr0_0 hc0_0
 have HR0_1 := A_ hr0_1
 have HC0_1 := A_ hc0_1
 clear hr0_1 hc0_1
 have HR0_2 := A_ hr0_2
 have HC0_2 := A_ hc0_2
 clear hr0_2 hc0_2
 have HB := A_ (Below.refl w.heap.size w)
 have H : ((laws_toStringS.f k l0_0).bind fun t123 => ((laws_toStringS.f k l0_1).bind fun t126 => ((laws_toIntS.f k l0_2).bind fun t129 => (some (t123, t126, t129))))) = some (r1, r2, r3) := h
 clear h
 replace H := Option.bind_eq_some_iff.mp H
 obtain ⟨t123, A20, H⟩ := H
 replace H : ((laws_toStringS.f k l0_1).bind fun t126 => ((laws_toIntS.f k l0_2).bind fun t129 => (some (t123, t126, t129)))) = some (r1, r2, r3) := H
 have A2 := A_ A20
 clear A20
 replace H := Option.bind_eq_some_iff.mp H
 obtain ⟨t126, A30, H⟩ := H
 replace H : ((laws_toIntS.f k l0_2).bind fun t129 => (some (t123, t126, t129))) = some (r1, r2, r3) := H
 have A3 := A_ A30
 clear A30
 replace H := Option.bind_eq_some_iff.mp H
 obtain ⟨t129, A40, H⟩ := H
 replace H : (some (t123, t126, t129)) = some (r1, r2, r3) := H
 have A4 := A_ A40
 clear A40
 simp only [Option.some.injEq, Prod.mk.injEq] at H
 obtain ⟨rfl, rfl, rfl⟩ := H
 go_enter Try.func96, Try.ntmps96
 go_wp2_with (first | ((with_reducible refine gate_dst (N := 1) rfl ?_); refine box_event ?hg (N := 1) ?hd (cs := #[.slice A0_0 l0_0.length c0_0, .slice A0_1 l0_1.length c0_1, .slice A0_2 l0_2.length c0_2]) (t := 115) ?hr ?_; (case hd => rfl); (case hg => rfl); (case hr => first | (go_simp; done) | (go_simp; rfl)); intro gb120 hg w5 hbox hb; have n0_ := A_ (bs_ HB.out hb); have n1_ := A_ (hbox); have n2_ := A_ ((by rw [hg]; exact (bw_ HB.out) : w.heap.size <= gb120)); have n3_ := A_ ((by rw [hg]; exact (bw_ HB.out) : w.heap.size <= gb120)); clear HB; have HB := n0_; have BK120 := n1_; have GW120 := n2_; have GE120 := n3_; clear n0_ n1_ n2_ n3_; clear hb hbox hg) | ((with_reducible refine gate_dst (N := 2) rfl ?_); refine box_event ?hg (N := 2) ?hd (cs := #[.slice none 0 0, .slice none 0 0, .slice none 0 0]) (t := 110) ?hr ?_; (case hd => rfl); (case hg => rfl); (case hr => first | (go_simp; done) | (go_simp; rfl)); intro gb121 hg w6 hbox hb; have n0_ := A_ (blk_below (g := gb120) (o := .cells #[.slice A0_0 l0_0.length c0_0, .slice A0_1 l0_1.length c0_1, .slice A0_2 l0_2.length c0_2] 115 (0, 0)) (pk_ BK120.out) hb); have n1_ := A_ (bs_ HB.out hb); have n2_ := A_ (hbox); have n3_ := A_ ((by rw [hg]; exact (bw_ HB.out) : w.heap.size <= gb121)); have n4_ := A_ ((by rw [hg]; exact (bw_ HB.out) : w.heap.size <= gb121)); have n5_ := A_ ((by rw [hg]; exact Nat.ne_of_lt (blk_lt (g := gb120) (o := .cells #[.slice A0_0 l0_0.length c0_0, .slice A0_1 l0_1.length c0_1, .slice A0_2 l0_2.length c0_2] 115 (0, 0)) (pk_ BK120.out)) : gb120 ≠ gb121)); have n6_ := A_ ((by rw [hg]; exact Nat.ne_of_gt (blk_lt (g := gb120) (o := .cells #[.slice A0_0 l0_0.length c0_0, .slice A0_1 l0_1.length c0_1, .slice A0_2 l0_2.length c0_2] 115 (0, 0)) (pk_ BK120.out)) : gb121 ≠ gb120)); clear BK120; clear HB; have BK120 := n0_; have HB := n1_; have BK121 := n2_; have GW121 := n3_; have GE121 := n4_; have NB120_121 := n5_; have NB121_120 := n6_; clear n0_ n1_ n2_ n3_ n4_ n5_ n6_; clear hb hbox hg) | ((with_reducible refine gate_dst (N := 3) rfl ?_); refine box_event ?hg (N := 3) ?hd (cs := #[.slice none 0 0, .slice none 0 0, .slice none 0 0]) (t := 110) ?hr ?_; (case hd => rfl); (case hg => rfl); (case hr => first | (go_simp; done) | (go_simp; rfl)); intro gb122 hg w7 hbox hb; have n0_ := A_ (blk_below (g := gb120) (o := .cells #[.slice A0_0 l0_0.length c0_0, .slice A0_1 l0_1.length c0_1, .slice A0_2 l0_2.length c0_2] 115 (0, 0)) (pk_ BK120.out) hb); have n1_ := A_ (blk_below (g := gb121) (o := .cells #[.slice none 0 0, .slice none 0 0, .slice none 0 0] 110 (0, 0)) (pk_ BK121.out) hb); have n2_ := A_ (bs_ HB.out hb); have n3_ := A_ (hbox); have n4_ := A_ ((by rw [hg]; exact (bw_ HB.out) : w.heap.size <= gb122)); have n5_ := A_ ((by rw [hg]; exact (bw_ HB.out) : w.heap.size <= gb122)); have n6_ := A_ ((by rw [hg]; exact Nat.ne_of_lt (blk_lt (g := gb120) (o := .cells #[.slice A0_0 l0_0.length c0_0, .slice A0_1 l0_1.length c0_1, .slice A0_2 l0_2.length c0_2] 115 (0, 0)) (pk_ BK120.out)) : gb120 ≠ gb122)); have n7_ := A_ ((by rw [hg]; exact Nat.ne_of_gt (blk_lt (g := gb120) (o := .cells #[.slice A0_0 l0_0.length c0_0, .slice A0_1 l0_1.length c0_1, .slice A0_2 l0_2.length c0_2] 115 (0, 0)) (pk_ BK120.out)) : gb122 ≠ gb120)); have n8_ := A_ ((by rw [hg]; exact Nat.ne_of_lt (blk_lt (g := gb121) (o := .cells #[.slice none 0 0, .slice none 0 0, .slice none 0 0] 110 (0, 0)) (pk_ BK121.out)) : gb121 ≠ gb122)); have n9_ := A_ ((by rw [hg]; exact Nat.ne_of_gt (blk_lt (g := gb121) (o := .cells #[.slice none 0 0, .slice none 0 0, .slice none 0 0] 110 (0, 0)) (pk_ BK121.out)) : gb122 ≠ gb121)); clear BK120; clear BK121; clear HB; have BK120 := n0_; have BK121 := n1_; have HB := n2_; have BK122 := n3_; have GW122 := n4_; have GE122 := n5_; have NB120_122 := n6_; have NB122_120 := n7_; have NB121_122 := n8_; have NB122_121 := n9_; clear n0_ n1_ n2_ n3_ n4_ n5_ n6_ n7_ n8_ n9_; clear hb hbox hg; have hnb8 := NB120_121.out; have hnc8 := NB121_120.out; have hnb9 := NB120_122.out; have hnc9 := NB122_120.out; have hcz10_0 : w7.cell? ⟨gb120, 0, none⟩ = some (.slice A0_0 l0_0.length c0_0) := (blk_cell BK120.out 0).trans rfl; have hcz10_1 : w7.cell? ⟨gb120, 1, none⟩ = some (.slice A0_1 l0_1.length c0_1) := (blk_cell BK120.out 1).trans rfl; have hcz10_2 : w7.cell? ⟨gb120, 2, none⟩ = some (.slice A0_2 l0_2.length c0_2) := (blk_cell BK120.out 2).trans rfl; have hfz10_0 := blk_frozen BK120.out 0; have hfz10_1 := blk_frozen BK120.out 1; have hfz10_2 := blk_frozen BK120.out 2) | ((with_reducible refine gate_callee (f := 43) rfl ?_); refine goesL_ (some 6) rfl rfl Try.func43 (by kernel_rfl) rfl #[.slice A0_0 l0_0.length c0_0] rfl (ag_) ?_; (with_reducible refine (laws_toStringS.calls k _ _ l0_0 t123 _ ?side1 ?side2 A2.out).mono ?_); (case side1 => refine cd_ ?_; exact (Kd.C_below HR0_0.out HB.out)); (case side2 => exact HC0_0.out); rintro e w11 ⟨v124, rfl, ho0, hb⟩; refine ⟨_, rfl, ?_⟩; have n0_ := A_ (Kd.R_lower ho0 (bw_ HB.out)); have n1_ := A_ (blk_below (g := gb120) (o := .cells #[.slice A0_0 l0_0.length c0_0, .slice A0_1 l0_1.length c0_1, .slice A0_2 l0_2.length c0_2] 115 (0, 0)) (pk_ BK120.out) hb); have n2_ := A_ (blk_below (g := gb121) (o := .cells #[.slice none 0 0, .slice none 0 0, .slice none 0 0] 110 (0, 0)) (pk_ BK121.out) hb); have n3_ := A_ (blk_below (g := gb122) (o := .cells #[.slice none 0 0, .slice none 0 0, .slice none 0 0] 110 (0, 0)) (pk_ BK122.out) hb); have n4_ := A_ (bs_ HB.out hb); clear BK120; clear BK121; clear BK122; clear HB; have HO125 := n0_; have BK120 := n1_; have BK121 := n2_; have BK122 := n3_; have HB := n4_; clear n0_ n1_ n2_ n3_ n4_; (try clear hb); (try clear hb2); (try clear hk); (try clear hi); (try clear ho0); obtain ⟨Ao12, co12, eo12⟩ := Kd.R_slice HO125.out; subst eo12; have hnb13 := NB122_121.out; have hnc13 := NB121_122.out; have hcz14_0 : w11.cell? ⟨gb122, 0, none⟩ = some (.slice none 0 0) := (blk_cell BK122.out 0).trans rfl; have hcz14_1 : w11.cell? ⟨gb122, 1, none⟩ = some (.slice none 0 0) := (blk_cell BK122.out 1).trans rfl; have hcz14_2 : w11.cell? ⟨gb122, 2, none⟩ = some (.slice none 0 0) := (blk_cell BK122.out 2).trans rfl; have hfz14_0 := blk_frozen BK122.out 0; have hfz14_1 := blk_frozen BK122.out 1; have hfz14_2 := blk_frozen BK122.out 2; have hcz15_0 : w11.cell? ⟨gb120, 0, none⟩ = some (.slice A0_0 l0_0.length c0_0) := (blk_cell BK120.out 0).trans rfl; have hcz15_1 : w11.cell? ⟨gb120, 1, none⟩ = some (.slice A0_1 l0_1.length c0_1) := (blk_cell BK120.out 1).trans rfl; have hcz15_2 : w11.cell? ⟨gb120, 2, none⟩ = some (.slice A0_2 l0_2.length c0_2) := (blk_cell BK120.out 2).trans rfl; have hfz15_0 := blk_frozen BK120.out 0; have hfz15_1 := blk_frozen BK120.out 1; have hfz15_2 := blk_frozen BK120.out 2) | ((with_reducible refine gate_callee (f := 43) rfl ?_); refine goesL_ (some 10) rfl rfl Try.func43 (by kernel_rfl) rfl #[.slice A0_1 l0_1.length c0_1] rfl (ag_) ?_; (with_reducible refine (laws_toStringS.calls k _ _ l0_1 t126 _ ?side1 ?side2 A3.out).mono ?_); (case side1 => exact Kd.C_below HR0_1.out (be_ HB.out)); (case side2 => exact HC0_1.out); rintro e w16 ⟨v127, rfl, ho0, hb⟩; refine ⟨_, rfl, ?_⟩; have n0_ := A_ (Kd.R_elder' (by (with_reducible repeat (first | apply Kd.R_alloc | apply Kd.R_drewN | apply Kd.R_drew)); exact (Kd.R_mono (Kd.R_far (p := ⟨gb122, 0, none⟩) (Kd.R_types HO125.out BK122.out (by decide)) (fun _ hk => hk.2) (.slice Ao12 t123.length co12)) (fun _ h_ => h_.1))) (Kd.R_base ho0) hb); have n1_ := A_ (Kd.R_lower (Kd.R_new' ho0 (Kd.R_lt (by (with_reducible repeat (first | apply Kd.R_alloc | apply Kd.R_drewN | apply Kd.R_drew)); exact (Kd.R_mono (Kd.R_far (p := ⟨gb122, 0, none⟩) (Kd.R_types HO125.out BK122.out (by decide)) (fun _ hk => hk.2) (.slice Ao12 t123.length co12)) (fun _ h_ => h_.1))))) (bw_ HB.out)); have n2_ := A_ (blk_below (g := gb120) (o := .cells #[.slice A0_0 l0_0.length c0_0, .slice A0_1 l0_1.length c0_1, .slice A0_2 l0_2.length c0_2] 115 (0, 0)) (by refine pk_ ?_; refine blk_far ?_ NB120_122.out _; (with_reducible repeat (first | refine blk_drewN ?_ _ | refine blk_drew ?_ | refine blk_alloc ?_ _)); exact BK120.out) hb); have n3_ := A_ (blk_below (g := gb121) (o := .cells #[.slice none 0 0, .slice none 0 0, .slice none 0 0] 110 (0, 0)) (by refine pk_ ?_; refine blk_far ?_ NB121_122.out _; (with_reducible repeat (first | refine blk_drewN ?_ _ | refine blk_drew ?_ | refine blk_alloc ?_ _)); exact BK121.out) hb); have n4_ := A_ (blk_below (g := gb122) (o := .cells #[.slice Ao12 t123.length co12, .slice none 0 0, .slice none 0 0] 110 (0, 0)) (by refine pk_ ?_; refine blk_put (cs := #[.slice none 0 0, .slice none 0 0, .slice none 0 0]) ?_ 0 _ rfl; (with_reducible repeat (first | refine blk_drewN ?_ _ | refine blk_drew ?_ | refine blk_alloc ?_ _)); exact BK122.out) hb); have n5_ := A_ (bs_ HB.out hb); clear HO125; clear BK120; clear BK121; clear BK122; clear HB; have HO125 := n0_; have HO128 := n1_; have BK120 := n2_; have BK121 := n3_; have BK122 := n4_; have HB := n5_; clear n0_ n1_ n2_ n3_ n4_ n5_; (try clear hb); (try clear hb2); (try clear hk); (try clear hi); (try clear ho0); obtain ⟨Ao17, co17, eo17⟩ := Kd.R_slice HO128.out; subst eo17; have hcz18_0 : w16.cell? ⟨gb122, 0, none⟩ = some (.slice Ao12 t123.length co12) := (blk_cell BK122.out 0).trans rfl; have hcz18_1 : w16.cell? ⟨gb122, 1, none⟩ = some (.slice none 0 0) := (blk_cell BK122.out 1).trans rfl; have hcz18_2 : w16.cell? ⟨gb122, 2, none⟩ = some (.slice none 0 0) := (blk_cell BK122.out 2).trans rfl; have hfz18_0 := blk_frozen BK122.out 0; have hfz18_1 := blk_frozen BK122.out 1; have hfz18_2 := blk_frozen BK122.out 2; have hcz19_0 : w16.cell? ⟨gb120, 0, none⟩ = some (.slice A0_0 l0_0.length c0_0) := (blk_cell BK120.out 0).trans rfl; have hcz19_1 : w16.cell? ⟨gb120, 1, none⟩ = some (.slice A0_1 l0_1.length c0_1) := (blk_cell BK120.out 1).trans rfl; have hcz19_2 : w16.cell? ⟨gb120, 2, none⟩ = some (.slice A0_2 l0_2.length c0_2) := (blk_cell BK120.out 2).trans rfl; have hfz19_0 := blk_frozen BK120.out 0; have hfz19_1 := blk_frozen BK120.out 1; have hfz19_2 := blk_frozen BK120.out 2) | ((with_reducible refine gate_callee (f := 120) rfl ?_); refine goesL_ (some 14) rfl rfl Try.func120 (by kernel_rfl) rfl #[.slice A0_2 l0_2.length c0_2] rfl (ag_) ?_; (with_reducible refine (laws_toIntS.calls k _ _ l0_2 t129 _ ?side1 ?side2 A4.out).mono ?_); (case side1 => exact Kd.C_below HR0_2.out (be_ HB.out)); (case side2 => exact HC0_2.out); rintro e w20 ⟨v130, rfl, ho0, hb⟩; refine ⟨_, rfl, ?_⟩; have n0_ := A_ (Kd.R_below (by refine rk_ ?_; exact (Kd.R_mono (Kd.R_far (p := ⟨gb122, 1, none⟩) (Kd.R_types HO125.out BK122.out (by decide)) (fun _ hk => hk.2) (.slice Ao17 t126.length co17)) (fun _ h_ => h_.1))) hb); have n1_ := A_ (Kd.R_below (by refine rk_ ?_; exact (Kd.R_mono (Kd.R_far (p := ⟨gb122, 1, none⟩) (Kd.R_types HO128.out BK122.out (by decide)) (fun _ hk => hk.2) (.slice Ao17 t126.length co17)) (fun _ h_ => h_.1))) hb); have n2_ := A_ (Kd.R_lower ho0 (bw_ HB.out)); have n3_ := A_ (blk_below (g := gb120) (o := .cells #[.slice A0_0 l0_0.length c0_0, .slice A0_1 l0_1.length c0_1, .slice A0_2 l0_2.length c0_2] 115 (0, 0)) (by refine pk_ ?_; refine blk_far ?_ NB120_122.out _; (with_reducible repeat (first | refine blk_drewN ?_ _ | refine blk_drew ?_ | refine blk_alloc ?_ _)); exact BK120.out) hb); have n4_ := A_ (blk_below (g := gb121) (o := .cells #[.slice none 0 0, .slice none 0 0, .slice none 0 0] 110 (0, 0)) (by refine pk_ ?_; refine blk_far ?_ NB121_122.out _; (with_reducible repeat (first | refine blk_drewN ?_ _ | refine blk_drew ?_ | refine blk_alloc ?_ _)); exact BK121.out) hb); have n5_ := A_ (blk_below (g := gb122) (o := .cells #[.slice Ao12 t123.length co12, .slice Ao17 t126.length co17, .slice none 0 0] 110 (0, 0)) (by refine pk_ ?_; refine blk_put (cs := #[.slice Ao12 t123.length co12, .slice none 0 0, .slice none 0 0]) ?_ 1 _ rfl; (with_reducible repeat (first | refine blk_drewN ?_ _ | refine blk_drew ?_ | refine blk_alloc ?_ _)); exact BK122.out) hb); have n6_ := A_ (bs_ HB.out hb); clear HO125; clear HO128; clear BK120; clear BK121; clear BK122; clear HB; have HO125 := n0_; have HO128 := n1_; have HO131 := n2_; have BK120 := n3_; have BK121 := n4_; have BK122 := n5_; have HB := n6_; clear n0_ n1_ n2_ n3_ n4_ n5_ n6_; (try clear hb); (try clear hb2); (try clear hk); (try clear hi); (try clear ho0); obtain ⟨Ao21, co21, eo21⟩ := Kd.R_slice HO131.out; subst eo21; have hcz22_0 : w20.cell? ⟨gb122, 0, none⟩ = some (.slice Ao12 t123.length co12) := (blk_cell BK122.out 0).trans rfl; have hcz22_1 : w20.cell? ⟨gb122, 1, none⟩ = some (.slice Ao17 t126.length co17) := (blk_cell BK122.out 1).trans rfl; have hcz22_2 : w20.cell? ⟨gb122, 2, none⟩ = some (.slice none 0 0) := (blk_cell BK122.out 2).trans rfl; have hfz22_0 := blk_frozen BK122.out 0; have hfz22_1 := blk_frozen BK122.out 1; have hfz22_2 := blk_frozen BK122.out 2; have hcz23_0 : w20.cell? ⟨gb121, 0, none⟩ = some (.slice none 0 0) := (blk_cell BK121.out 0).trans rfl; have hcz23_1 : w20.cell? ⟨gb121, 1, none⟩ = some (.slice none 0 0) := (blk_cell BK121.out 1).trans rfl; have hcz23_2 : w20.cell? ⟨gb121, 2, none⟩ = some (.slice none 0 0) := (blk_cell BK121.out 2).trans rfl; have hfz23_0 := blk_frozen BK121.out 0; have hfz23_1 := blk_frozen BK121.out 1; have hfz23_2 := blk_frozen BK121.out 2))
 refine bodyPost_ret (results_cell_row rfl _ _ gb121 110 #[.slice Ao12 t123.length co12, .slice Ao17 t126.length co17, .slice Ao21 t129.length co21] (0, 0) _ rfl (by (with_reducible repeat (first | refine blk_drewN ?_ _ | refine blk_drew ?_ | refine blk_alloc ?_ _)); refine blk_put (cs := #[.slice Ao12 t123.length co12, .slice Ao17 t126.length co17, .slice none 0 0]) ?_ 2 _ rfl; (with_reducible repeat (first | refine blk_drewN ?_ _ | refine blk_drew ?_ | refine blk_alloc ?_ _)); refine blk_put (cs := #[.slice Ao12 t123.length co12, .slice none 0 0, .slice none 0 0]) ?_ 1 _ rfl; (with_reducible repeat (first | refine blk_drewN ?_ _ | refine blk_drew ?_ | refine blk_alloc ?_ _)); refine blk_put (cs := #[.slice none 0 0, .slice none 0 0, .slice none 0 0]) ?_ 0 _ rfl; (with_reducible repeat (first | refine blk_drewN ?_ _ | refine blk_drew ?_ | refine blk_alloc ?_ _)); refine blk_far ?_ NB121_122.out _; (with_reducible repeat (first | refine blk_drewN ?_ _ | refine blk_drew ?_ | refine blk_alloc ?_ _)); exact BK121.out) Try.underlying110 rfl (by kernel_rfl)) rfl ?_
 exact ⟨_, _, _, ew_, by (with_reducible repeat (first | apply Kd.R_alloc | apply Kd.R_drewN | apply Kd.R_drew)); exact Kd.R_mono (Kd.R_far (p := ⟨gb121, 2, none⟩) (Kd.R_far (p := ⟨gb121, 1, none⟩) (Kd.R_far (p := ⟨gb121, 0, none⟩) (Kd.R_far (p := ⟨gb122, 2, none⟩) (Kd.R_types (Kd.R_types HO125.out BK122.out (by decide)) BK121.out (by decide)) (fun _ hk => hk.1.2) (.slice Ao21 t129.length co21)) (fun _ hk => hk.2) (.slice Ao12 t123.length co12)) (fun _ hk => hk.2) (.slice Ao17 t126.length co17)) (fun _ hk => hk.2) (.slice Ao21 t129.length co21)) (fun _ hk => hk.1.1.2), by (with_reducible repeat (first | apply Kd.R_alloc | apply Kd.R_drewN | apply Kd.R_drew)); exact Kd.R_mono (Kd.R_far (p := ⟨gb121, 2, none⟩) (Kd.R_far (p := ⟨gb121, 1, none⟩) (Kd.R_far (p := ⟨gb121, 0, none⟩) (Kd.R_far (p := ⟨gb122, 2, none⟩) (Kd.R_types (Kd.R_types HO128.out BK122.out (by decide)) BK121.out (by decide)) (fun _ hk => hk.1.2) (.slice Ao21 t129.length co21)) (fun _ hk => hk.2) (.slice Ao12 t123.length co12)) (fun _ hk => hk.2) (.slice Ao17 t126.length co17)) (fun _ hk => hk.2) (.slice Ao21 t129.length co21)) (fun _ hk => hk.1.1.2), by (with_reducible repeat (first | apply Kd.R_alloc | apply Kd.R_drewN | apply Kd.R_drew)); exact Kd.R_mono (Kd.R_far (p := ⟨gb121, 2, none⟩) (Kd.R_far (p := ⟨gb121, 1, none⟩) (Kd.R_far (p := ⟨gb121, 0, none⟩) (Kd.R_far (p := ⟨gb122, 2, none⟩) (Kd.R_types (Kd.R_types HO131.out BK122.out (by decide)) BK121.out (by decide)) (fun _ hk => hk.1.2) (.slice Ao21 t129.length co21)) (fun _ hk => hk.2) (.slice Ao12 t123.length co12)) (fun _ hk => hk.2) (.slice Ao17 t126.length co17)) (fun _ hk => hk.2) (.slice Ao21 t129.length co21)) (fun _ hk => trivial), by repeat (first | (with_reducible first | exact HB.out | apply below_alloc | apply pw_below_drewN | apply below_drew1 | refine below_set ?_ GE120.out | refine below_set ?_ GE121.out | refine below_set ?_ GE122.out) | exact HB.out)⟩
def laws_toPageS.l0 : Nat -> List (S115) -> List (S110) -> Int -> Option ((List (S110)))
 | 0, _, _, _ => none
 | k + 1, x0, x3, x4 => if x4 < (x0.length : Int) then (if 0 <= x4 then ((laws_toPage.f k ((rd_T115 x0 x4).f0) ((rd_T115 x0 x4).f1) ((rd_T115 x0 x4).f2)).bind fun bt136 => (if x4 < (x3.length : Int) then (laws_toPageS.l0 k x0 (x3.set (x4 : Int).toNat (⟨bt136.1, bt136.2.1, bt136.2.2⟩ : S110)) (wrap64 (x4 + 1))) else (none))) else (none)) else (some x3)
def laws_toPageS.f (k : Nat) (l0 : List (S115)) : Option ((List (S110))) := if 0 <= (l0.length : Int) then (if ((l0.length : Int) : Int).toNat <= 3909374676536 then (laws_toPageS.l0 k l0 (List.replicate ((l0.length : Int) : Int).toNat z110) 0) else (none)) else (none)
def laws_toTree.f (k : Nat) (l0_0 : List (S115)) : Option ((List (S110))) := (laws_toPageS.f k l0_0).bind fun t149 => (some t149)
theorem laws_toPageS.callsP (k : Nat) (A0 : Option Addr) (c0 : Nat) (l0 : List (S115)) (r : List (S110)) (w : World) (hr0 : Kd.C k115 w A0 l0.length l0) (hc0 : l0.length <= c0) (h : laws_toPageS.f k l0 = some r) :
  Calls Try.prog 58 #[.slice A0 l0.length c0] w fun e w' => ∃ v0_ : Value, e = .returned (v0_) /\ Kd.S kp110 110 w' w.heap.size (fun _ => True) v0_ r /\ Below w.heap.size w w' := by
 have hu115 := Try.underlying115
 have hu110 := Try.underlying110
 have HR0 := A_ hr0
 have HC0 := A_ hc0
 clear hr0 hc0
 have HB := A_ (Below.refl w.heap.size w)
 have H : (if 0 <= (l0.length : Int) then (if ((l0.length : Int) : Int).toNat <= 3909374676536 then (laws_toPageS.l0 k l0 (List.replicate ((l0.length : Int) : Int).toNat z110) 0) else (none)) else (none)) = some r := h
 clear h
 by_cases c2 : 0 <= (l0.length : Int)
 ·rw [if_pos c2] at H
  have c2b0 := eq_true c2
  have c2b1 : decide (0 <= (l0.length : Int)) = true := decide_eq_true c2
  clear c2
  by_cases c3 : ((l0.length : Int) : Int).toNat <= 3909374676536
  ·rw [if_pos c3] at H
   have c3b0 := eq_true c3
   have c3b1 : decide (((l0.length : Int) : Int).toNat <= 3909374676536) = true := decide_eq_true c3
   clear c3
   obtain ⟨y132, hy132⟩ : ∃ y_ : List (S110), y_ = (List.replicate ((l0.length : Int) : Int).toNat z110) := ⟨_, rfl⟩
   replace H : (laws_toPageS.l0 k l0 y132 0) = some r := by first | (rw [hy132]; with_reducible exact H) | (have H2_ := (Option.bind_some _ _).symm.trans H; rw [hy132]; with_reducible exact H2_) | (have H2_ := (Option.bind_some _ _).symm.trans H; with_reducible exact H2_) | with_reducible exact H | (rw [hy132]; exact H) | exact H
   have Ny132 := A_ hy132
   clear hy132
   have H' := A_ H
   clear H
   go_enter Try.func58, Try.ntmps58
   go_wp2_with (first | ((with_reducible refine gate_dst (N := 7) rfl ?_); refine Kd.S_make kp110 _ 110 rfl (N := 7) rfl 27 _ _ rfl (l0.length : Int) rfl rfl Try.underlying27 (.agg #[(.slice none 0 0), (.slice none 0 0), (.slice none 0 0)]) 72 info110 rfl (by decide) (by omega) z110 (ok := fun _ => True) (okp := fun _ => True) (kp110_zero _ _ _) (fun _ hk => hk) trivial (of_decide_eq_true as_) (Nat.le_trans (Nat.mul_le_mul_right _ (of_decide_eq_true as_ : (l0.length : Int).toNat <= 3909374676536)) (by omega)) (Below.refl _ _) (Nat.le_refl _) ?_; intro v133 w4 ho5 hb hg_ hnew_; clear hg_ hnew_; (first | rw [<- Ny132.out] at ho5 | (simp only [Int.reduceToNat] at ho5; rw [<- Ny132.out] at ho5)); have n0_ := A_ (Kd.S_lower ho5 (bw_ HB.out)); have n1_ := A_ (bs_ HB.out hb); clear HB; have HO134 := n0_; have HB := n1_; clear n0_ n1_; clear hb ho5))
   go_loopg [4] k (fun kq v4 w' => ∃ (x3_1 : List (S110)) (x4_1 : Int), v4 = .int .i64 x4_1 /\ Aside0 (laws_toPageS.l0 kq l0 x3_1 x4_1 = some r) /\ Aside0 (kq <= k) /\ Aside0 (Kd.S kp110 110 w' w.heap.size (fun _ => True) v133 x3_1) /\ Aside0 (Below w.heap.size w w'))
   case atStart => exact ⟨(y132), (0), (by first | rfl | (simp; done) | (simp [*]; done)), H', ⟨Nat.le_refl _⟩, ⟨sk_ HO134.out⟩, ⟨be_ HB.out⟩⟩
   case round =>
    clear H'
    (try clear c2); (try clear c2b0); (try clear c2b1); (try clear p2); (try clear c3); (try clear c3b0); (try clear c3b1); (try clear c5)
    obtain ⟨x3_1, x4_1, rfl, HA, HK1, HO_3, HB⟩ := hrel
    cases gk with
    | zero => exact absurd HA.out (by simp [laws_toPageS.l0])
    | succ k1 =>
     have H := HA.out
     clear HA
     simp only [laws_toPageS.l0] at H
     by_cases c6 : x4_1 < (l0.length : Int)
     ·rw [if_pos c6] at H
      have c6b0 : decide (x4_1 < (l0.length : Int)) = true := decide_eq_true c6
      clear c6
      by_cases c7 : 0 <= x4_1
      ·rw [if_pos c7] at H
       have c7b0 : decide (0 <= x4_1) = true := decide_eq_true c7
       clear c7
       replace H := Option.bind_eq_some_iff.mp H
       obtain ⟨⟨t136, t139, t142⟩, A80, H⟩ := H
       replace H : (if x4_1 < (x3_1.length : Int) then (laws_toPageS.l0 k1 l0 (x3_1.set (x4_1 : Int).toNat (⟨t136, t139, t142⟩ : S110)) (wrap64 (x4_1 + 1))) else (none)) = some r := H
       have A8 := A_ A80
       clear A80
       by_cases c9 : x4_1 < (x3_1.length : Int)
       ·rw [if_pos c9] at H
        have c9b0 : decide (x4_1 < (x3_1.length : Int)) = true := decide_eq_true c9
        clear c9
        obtain ⟨y145, hy145⟩ : ∃ y_ : List (S110), y_ = (x3_1.set (x4_1 : Int).toNat (⟨t136, t139, t142⟩ : S110)) := ⟨_, rfl⟩
        replace H : (laws_toPageS.l0 k1 l0 y145 (wrap64 (x4_1 + 1))) = some r := by first | (rw [hy145]; with_reducible exact H) | (have H2_ := (Option.bind_some _ _).symm.trans H; rw [hy145]; with_reducible exact H2_) | (have H2_ := (Option.bind_some _ _).symm.trans H; with_reducible exact H2_) | with_reducible exact H | (rw [hy145]; exact H) | exact H
        have Ny145 := A_ hy145
        clear hy145
        have H' := A_ H
        clear H
        have p135 : 0 <= (x4_1 : Int) := of_decide_eq_true as_
        have q135 : x4_1 < (l0.length : Int) := of_decide_eq_true as_
        obtain ⟨ad135, A135_0, c135_0, A135_1, c135_1, A135_2, c135_2, e135, hx135_0, hx135_1, hx135_2, hl135_0, hi135_0, hl135_1, hi135_1, hl135_2, hi135_2⟩ := at_T115 HR0.out x4_1 p135 q135
        cases e135
        replace hx135_0 := (HB.out.cell (World.block_lt_of_cell? w _ hx135_0)).trans hx135_0
        replace hx135_1 := (HB.out.cell (World.block_lt_of_cell? w _ hx135_1)).trans hx135_1
        replace hx135_2 := (HB.out.cell (World.block_lt_of_cell? w _ hx135_2)).trans hx135_2
        have HR135_0 := A_ hi135_0
        have HC135_0 := A_ hl135_0
        clear hi135_0 hl135_0
        have HR135_1 := A_ hi135_1
        have HC135_1 := A_ hl135_1
        clear hi135_1 hl135_1
        have HR135_2 := A_ hi135_2
        have HC135_2 := A_ hl135_2
        clear hi135_2 hl135_2
        replace p135 := eq_true p135
        replace q135 := eq_true q135
        go_wp2_with (first | ((with_reducible refine gate_callee (f := 96) rfl ?_); refine goesL_ (some 20) rfl rfl Try.func96 (by kernel_rfl) rfl #[.agg #[.slice A135_0 ((rd_T115 l0 x4_1).f0).length c135_0, .slice A135_1 ((rd_T115 l0 x4_1).f1).length c135_1, .slice A135_2 ((rd_T115 l0 x4_1).f2).length c135_2]] rfl (ag_) ?_; (with_reducible refine (laws_toPage.calls k1 _ _ ((rd_T115 l0 x4_1).f0) _ _ ((rd_T115 l0 x4_1).f1) _ _ ((rd_T115 l0 x4_1).f2) t136 t139 t142 _ ?side1 ?side2 ?side3 ?side4 ?side5 ?side6 A8.out).mono ?_); (case side1 => refine cd_ ?_; exact (Kd.C_below HR135_0.out HB.out)); (case side2 => exact HC135_0.out); (case side3 => refine cd_ ?_; exact (Kd.C_below HR135_1.out HB.out)); (case side4 => exact HC135_1.out); (case side5 => refine cd_ ?_; exact (Kd.C_below HR135_2.out HB.out)); (case side6 => exact HC135_2.out); rintro e w11 ⟨v137, v140, v143, rfl, ho0, ho1, ho2, hb⟩; refine ⟨_, rfl, ?_⟩; have n0_ := A_ (Kd.S_mono (Kd.S_told (Kd.S_told (Kd.S_told (Kd.S_old (sk_ HO_3.out) hb) (Kd.R_base ho0)) (Kd.R_base ho1)) (Kd.R_base ho2)) (fun _ h_ => h_.1)); have n1_ := A_ (Kd.R_lower ho0 (bw_ HB.out)); have n2_ := A_ (Kd.R_lower ho1 (bw_ HB.out)); have n3_ := A_ (Kd.R_lower ho2 (bw_ HB.out)); have n4_ := A_ (bs_ HB.out hb); clear HO_3; clear HB; have HO_3 := n0_; have HO138 := n1_; have HO141 := n2_; have HO144 := n3_; have HB := n4_; clear n0_ n1_ n2_ n3_ n4_; (try clear hb); (try clear hb2); (try clear hk); (try clear hi); (try clear ho0); (try clear ho1); (try clear ho2); have p10 : 0 <= (x4_1 : Int) := of_decide_eq_true as_; have q10 : (x4_1 : Int) < ((x3_1.length : Int) : Int) := of_decide_eq_true as_; obtain ⟨go10, co10, eo10, gb10, gl10, cl10, HG10⟩ := Kd.S_form HO_3.out (by omega); (first | cases eo10 | (injection eo10 with ea_ en_ ec_; (first | subst ea_ | (injection ea_ with ea_; subst ea_)); subst ec_; clear en_)); have GB10 := A_ gb10; have GG10 := A_ HG10; clear gb10 gl10 HG10; obtain ⟨_, ce10, hcl10, hM10, hcc10, hfr10, _, _⟩ := Kd.S_elem HO_3.out z110 (x4_1 : Int) p10 q10; obtain ⟨ve10_0, ve10_1, ve10_2, rfl, ge10_0, ge10_1, ge10_2⟩ := kp110_openM hM10; have hx10_0 : w11.cell? ⟨go10, (x4_1 : Int).toNat * 3, none⟩ = some (ve10_0) := hcc10 0 _ rfl; have hx10_1 : w11.cell? ⟨go10, (x4_1 : Int).toNat * 3 + 1, none⟩ = some (ve10_1) := hcc10 1 _ rfl; have hx10_2 : w11.cell? ⟨go10, (x4_1 : Int).toNat * 3 + 2, none⟩ = some (ve10_2) := hcc10 2 _ rfl; have hf10_0 : w11.frozen? ⟨go10, (x4_1 : Int).toNat * 3, none⟩ = false := hfr10 0; have hf10_1 : w11.frozen? ⟨go10, (x4_1 : Int).toNat * 3 + 1, none⟩ = false := hfr10 1; have hf10_2 : w11.frozen? ⟨go10, (x4_1 : Int).toNat * 3 + 2, none⟩ = false := hfr10 2; clear hcl10 hcc10 hfr10; (try clear hM10); replace p10 := eq_true p10; replace q10 := eq_true q10; obtain ⟨Ao14, co14, eo14⟩ := Kd.R_slice HO138.out; subst eo14; obtain ⟨Ao15, co15, eo15⟩ := Kd.R_slice HO141.out; subst eo15; obtain ⟨Ao16, co16, eo16⟩ := Kd.R_slice HO144.out; subst eo16; have n_ := A_ (Kd.S_mono (ok' := (fun k_ => some k_ ≠ (.slice Ao14 t136.length co14 : Value).ownBlock /\ some k_ ≠ (.slice Ao15 t139.length co15 : Value).ownBlock /\ some k_ ≠ (.slice Ao16 t142.length co16 : Value).ownBlock)) HO_3.out (fun k_ hk => ⟨hk.1.1.2, ⟨hk.1.2, hk.2⟩⟩)); clear HO_3; have HO_3 := n_; clear n_; have HX12 := A_ (show Kd.S kp110 110 w11 w.heap.size (fun k_ => ((fun _ => True)) k_ /\ ¬ ((fun k_ => some k_ = (.slice Ao14 t136.length co14 : Value).ownBlock ∨ some k_ = (.slice Ao15 t139.length co15 : Value).ownBlock ∨ some k_ = (.slice Ao16 t142.length co16 : Value).ownBlock)) k_) (.slice (some ⟨go10, 0, none⟩) x3_1.length co10) x3_1 from (by (with_reducible repeat (first | apply Kd.S_alloc | apply Kd.S_drewN | apply Kd.S_drew)); exact Kd.S_mono HO_3.out (fun k_ hk => ⟨trivial, fun e_ => e_.elim (fun h_ => hk.1 h_) (fun h_ => h_.elim (fun h_ => hk.2.1 h_) (fun h_ => hk.2.2 h_))⟩))); obtain ⟨oki12, ce12, hcl12, hM12, hcc12, hfr12, hoki12, hH12⟩ := Kd.S_elem HX12.out z110 (x4_1 : Int) (of_decide_eq_true as_) (by have h_ : (x4_1 : Int) < ((x3_1.length : Int) : Int) := of_decide_eq_true as_; first | exact h_ | (have e_ := (Kd.S_reads' HO_3.out).1; omega) | simpa using h_); obtain ⟨ve12_0, ve12_1, ve12_2, rfl, ge12_0, ge12_1, ge12_2⟩ := kp110_openM hM12; have HP12 := Kd.S_seg hH12 (of_decide_eq_true as_) (by have h_ : (x4_1 : Int) < ((x3_1.length : Int) : Int) := of_decide_eq_true as_; first | exact h_ | (have e_ := (Kd.S_reads' HO_3.out).1; omega) | simpa using h_) (seg := [.slice Ao14 t136.length co14, .slice Ao15 t139.length co15, .slice Ao16 t142.length co16]) (j := 0) (show 3 <= 3 from by decide) (x' := (⟨t136, t139, t142⟩ : S110)) (kp110_mkM _ _ _ (⟨t136, t139, t142⟩ : S110) (Kd.R_mono (Kd.R_tight rfl (Kd.R_mono (ok' := fun k_ => ((fun _ => True)) k_ /\ k_ ≠ go10) (Kd.R_apart' (HO138.out) (Kd.S_typed HO_3.out) (by decide)) (fun k_ hk => ⟨trivial, fun e_ => (hk.2) (by rw [e_]; rfl)⟩))) (fun _ h_ => Or.inr (Or.inl h_))) (Kd.R_mono (Kd.R_tight rfl (Kd.R_mono (ok' := fun k_ => ((fun _ => True)) k_ /\ k_ ≠ go10) (Kd.R_apart' (HO141.out) (Kd.S_typed HO_3.out) (by decide)) (fun k_ hk => ⟨trivial, fun e_ => (hk.2) (by rw [e_]; rfl)⟩))) (fun _ h_ => Or.inr (Or.inr (Or.inl h_)))) (Kd.R_mono (Kd.R_tight rfl (Kd.R_mono (ok' := fun k_ => ((fun _ => True)) k_ /\ k_ ≠ go10) (Kd.R_apart' (HO144.out) (Kd.S_typed HO_3.out) (by decide)) (fun k_ hk => ⟨trivial, fun e_ => (hk.2) (by rw [e_]; rfl)⟩))) (fun _ h_ => Or.inr (Or.inr (Or.inr (h_))))) HO138.out.1) (fun _ hk => hk) (fun k_ hk_ => hk_.elim (fun h_ => ((Kd.R_mono (ok' := fun k_ => ((fun _ => True)) k_ /\ k_ ≠ go10) (Kd.R_apart' (HO138.out) (Kd.S_typed HO_3.out) (by decide)) (fun k_ hk => ⟨trivial, fun e_ => (hk.2) (by rw [e_]; rfl)⟩))).1 k_ h_.symm) (fun h_ => h_.elim (fun h_ => ((Kd.R_mono (ok' := fun k_ => ((fun _ => True)) k_ /\ k_ ≠ go10) (Kd.R_apart' (HO141.out) (Kd.S_typed HO_3.out) (by decide)) (fun k_ hk => ⟨trivial, fun e_ => (hk.2) (by rw [e_]; rfl)⟩))).1 k_ h_.symm) (fun h_ => ((Kd.R_mono (ok' := fun k_ => ((fun _ => True)) k_ /\ k_ ≠ go10) (Kd.R_apart' (HO144.out) (Kd.S_typed HO_3.out) (by decide)) (fun k_ hk => ⟨trivial, fun e_ => (hk.2) (by rw [e_]; rfl)⟩))).1 k_ h_.symm))); have hx12_0 := hcc12 0 _ rfl; (try simp only [show (kp110).sz = 3 from rfl, Nat.mul_one, Nat.add_zero] at hx12_0); have hf12_0 := hfr12 0; (try simp only [show (kp110).sz = 3 from rfl, Nat.mul_one, Nat.add_zero] at hf12_0); have hx12_1 := hcc12 1 _ rfl; (try simp only [show (kp110).sz = 3 from rfl, Nat.mul_one, Nat.add_zero] at hx12_1); have hf12_1 := hfr12 1; (try simp only [show (kp110).sz = 3 from rfl, Nat.mul_one, Nat.add_zero] at hf12_1); have hx12_2 := hcc12 2 _ rfl; (try simp only [show (kp110).sz = 3 from rfl, Nat.mul_one, Nat.add_zero] at hx12_2); have hf12_2 := hfr12 2; (try simp only [show (kp110).sz = 3 from rfl, Nat.mul_one, Nat.add_zero] at hf12_2); clear hcl12 hcc12 hfr12 hoki12 hH12; (try clear hM12)) | ((with_reducible refine gate_store (t := 110) (p := 21) rfl ?_); refine store_event (t := 110) (p := 21) (v := ?vo_w13) (w1 := (((w11.setCell ⟨go10, (x4_1 : Int).toNat * 3, none⟩ (.slice Ao14 t136.length co14)).setCell ⟨go10, (x4_1 : Int).toNat * 3 + 1, none⟩ (.slice Ao15 t139.length co15)).setCell ⟨go10, (x4_1 : Int).toNat * 3 + 2, none⟩ (.slice Ao16 t142.length co16))) ?hg ?ho ?hn ?hr ?_; (case ho => rfl); (case hg => rfl); (case hn => rfl); (case hr => first | (go_simp; done) | (go_simp; rfl)); intro w13 hw; have hg : w11.grownBy w13 (some go10) := (by rw [hw]; exact HP12.2); have hp_ : Kd.S kp110 110 w13 w.heap.size (fun _ => True) (.slice (some ⟨go10, 0, none⟩) x3_1.length co10) y145 := (by rw [hw, Ny145.out]; exact HP12.1); clear HP12; have n0_ := A_ (hp_); have n1_ := A_ ((by rw [hw]; exact below_set (below_set (below_set (HB.out) GB10.out) GB10.out) GB10.out : Below w.heap.size w w13)); clear HO_3; clear HB; clear HO138; clear HO141; clear HO144; have HO_3 := n0_; have HB := n1_; clear n0_ n1_; clear hg hw hp_))
        go_roundg k1
        case measure => have := HK1.out; omega
        case rel => exact ⟨(y145), (wrap64 (x4_1 + 1)), (by first | rfl | (simp; done) | (simp [*]; done)), H', ⟨by have := HK1.out; omega⟩, ⟨sk_ HO_3.out⟩, ⟨be_ HB.out⟩⟩
       ·rw [if_neg c9] at H
        exact absurd H (by simp)
      ·rw [if_neg c7] at H
       exact absurd H (by simp)
     ·rw [if_neg c6] at H
      have c6b0 : decide (x4_1 < (l0.length : Int)) = false := decide_eq_false c6
      clear c6
      obtain rfl := Option.some.inj H
      go_wp2
      go_ret
      exact ⟨_, ew_, by (with_reducible repeat (first | apply Kd.S_alloc | apply Kd.S_drewN | apply Kd.S_drew)); exact HO_3.out, by repeat (first | (with_reducible first | exact HB.out | apply below_alloc | apply pw_below_drewN | apply below_drew1) | exact HB.out)⟩
  ·rw [if_neg c3] at H
   exact absurd H (by simp)
 ·rw [if_neg c2] at H
  exact absurd H (by simp)
theorem laws_toTree.callsP (k : Nat) (A0_0 : Option Addr) (c0_0 : Nat) (l0_0 : List (S115)) (r : List (S110)) (w : World) (hr0_0 : Kd.C k115 w A0_0 l0_0.length l0_0) (hc0_0 : l0_0.length <= c0_0) (h : laws_toTree.f k l0_0 = some r) :
  Calls Try.prog 17 #[.agg #[.slice A0_0 l0_0.length c0_0]] w fun e w' => ∃ v0_ : Value, e = .returned (.agg #[v0_]) /\ Kd.S kp110 110 w' w.heap.size (fun _ => True) v0_ r /\ Below w.heap.size w w' := by
 have hu24 := Try.underlying24
 have hu29 := Try.underlying29
 have HR0_0 := A_ hr0_0
 have HC0_0 := A_ hc0_0
 clear hr0_0 hc0_0
 have HB := A_ (Below.refl w.heap.size w)
 have H : ((laws_toPageS.f k l0_0).bind fun t149 => (some t149)) = some r := h
 clear h
 replace H := Option.bind_eq_some_iff.mp H
 obtain ⟨t149, A20, H⟩ := H
 replace H : (some t149) = some r := H
 have A2 := A_ A20
 clear A20
 obtain rfl := Option.some.inj H
 go_enter Try.func17, Try.ntmps17
 go_wp2_with (first | ((with_reducible refine gate_dst (N := 1) rfl ?_); refine box_event ?hg (N := 1) ?hd (cs := #[.slice A0_0 l0_0.length c0_0]) (t := 24) ?hr ?_; (case hd => rfl); (case hg => rfl); (case hr => first | (go_simp; done) | (go_simp; rfl)); intro gb146 hg w3 hbox hb; have n0_ := A_ (bs_ HB.out hb); have n1_ := A_ (hbox); have n2_ := A_ ((by rw [hg]; exact (bw_ HB.out) : w.heap.size <= gb146)); have n3_ := A_ ((by rw [hg]; exact (bw_ HB.out) : w.heap.size <= gb146)); clear HB; have HB := n0_; have BK146 := n1_; have GW146 := n2_; have GE146 := n3_; clear n0_ n1_ n2_ n3_; clear hb hbox hg) | ((with_reducible refine gate_dst (N := 2) rfl ?_); refine box_event ?hg (N := 2) ?hd (cs := #[.slice none 0 0]) (t := 29) ?hr ?_; (case hd => rfl); (case hg => rfl); (case hr => first | (go_simp; done) | (go_simp; rfl)); intro gb147 hg w4 hbox hb; have n0_ := A_ (blk_below (g := gb146) (o := .cells #[.slice A0_0 l0_0.length c0_0] 24 (0, 0)) (pk_ BK146.out) hb); have n1_ := A_ (bs_ HB.out hb); have n2_ := A_ (hbox); have n3_ := A_ ((by rw [hg]; exact (bw_ HB.out) : w.heap.size <= gb147)); have n4_ := A_ ((by rw [hg]; exact (bw_ HB.out) : w.heap.size <= gb147)); have n5_ := A_ ((by rw [hg]; exact Nat.ne_of_lt (blk_lt (g := gb146) (o := .cells #[.slice A0_0 l0_0.length c0_0] 24 (0, 0)) (pk_ BK146.out)) : gb146 ≠ gb147)); have n6_ := A_ ((by rw [hg]; exact Nat.ne_of_gt (blk_lt (g := gb146) (o := .cells #[.slice A0_0 l0_0.length c0_0] 24 (0, 0)) (pk_ BK146.out)) : gb147 ≠ gb146)); clear BK146; clear HB; have BK146 := n0_; have HB := n1_; have BK147 := n2_; have GW147 := n3_; have GE147 := n4_; have NB146_147 := n5_; have NB147_146 := n6_; clear n0_ n1_ n2_ n3_ n4_ n5_ n6_; clear hb hbox hg) | ((with_reducible refine gate_dst (N := 3) rfl ?_); refine box_event ?hg (N := 3) ?hd (cs := #[.slice none 0 0]) (t := 29) ?hr ?_; (case hd => rfl); (case hg => rfl); (case hr => first | (go_simp; done) | (go_simp; rfl)); intro gb148 hg w5 hbox hb; have n0_ := A_ (blk_below (g := gb146) (o := .cells #[.slice A0_0 l0_0.length c0_0] 24 (0, 0)) (pk_ BK146.out) hb); have n1_ := A_ (blk_below (g := gb147) (o := .cells #[.slice none 0 0] 29 (0, 0)) (pk_ BK147.out) hb); have n2_ := A_ (bs_ HB.out hb); have n3_ := A_ (hbox); have n4_ := A_ ((by rw [hg]; exact (bw_ HB.out) : w.heap.size <= gb148)); have n5_ := A_ ((by rw [hg]; exact (bw_ HB.out) : w.heap.size <= gb148)); have n6_ := A_ ((by rw [hg]; exact Nat.ne_of_lt (blk_lt (g := gb146) (o := .cells #[.slice A0_0 l0_0.length c0_0] 24 (0, 0)) (pk_ BK146.out)) : gb146 ≠ gb148)); have n7_ := A_ ((by rw [hg]; exact Nat.ne_of_gt (blk_lt (g := gb146) (o := .cells #[.slice A0_0 l0_0.length c0_0] 24 (0, 0)) (pk_ BK146.out)) : gb148 ≠ gb146)); have n8_ := A_ ((by rw [hg]; exact Nat.ne_of_lt (blk_lt (g := gb147) (o := .cells #[.slice none 0 0] 29 (0, 0)) (pk_ BK147.out)) : gb147 ≠ gb148)); have n9_ := A_ ((by rw [hg]; exact Nat.ne_of_gt (blk_lt (g := gb147) (o := .cells #[.slice none 0 0] 29 (0, 0)) (pk_ BK147.out)) : gb148 ≠ gb147)); clear BK146; clear BK147; clear HB; have BK146 := n0_; have BK147 := n1_; have HB := n2_; have BK148 := n3_; have GW148 := n4_; have GE148 := n5_; have NB146_148 := n6_; have NB148_146 := n7_; have NB147_148 := n8_; have NB148_147 := n9_; clear n0_ n1_ n2_ n3_ n4_ n5_ n6_ n7_ n8_ n9_; clear hb hbox hg; have hnb6 := NB146_147.out; have hnc6 := NB147_146.out; have hnb7 := NB146_148.out; have hnc7 := NB148_146.out; have hcz8_0 : w5.cell? ⟨gb146, 0, none⟩ = some (.slice A0_0 l0_0.length c0_0) := (blk_cell BK146.out 0).trans rfl; have hfz8_0 := blk_frozen BK146.out 0) | ((with_reducible refine gate_callee (f := 58) rfl ?_); refine goesL_ (some 6) rfl rfl Try.func58 (by kernel_rfl) rfl #[.slice A0_0 l0_0.length c0_0] rfl (ag_) ?_; (with_reducible refine (laws_toPageS.callsP k _ _ l0_0 t149 _ ?side1 ?side2 A2.out).mono ?_); (case side1 => refine cd_ ?_; exact (Kd.C_below HR0_0.out HB.out)); (case side2 => exact HC0_0.out); rintro e w9 ⟨v150, rfl, ho0, hb⟩; refine ⟨_, rfl, ?_⟩; have n0_ := A_ (Kd.S_lower ho0 (bw_ HB.out)); have n1_ := A_ (blk_below (g := gb146) (o := .cells #[.slice A0_0 l0_0.length c0_0] 24 (0, 0)) (pk_ BK146.out) hb); have n2_ := A_ (blk_below (g := gb147) (o := .cells #[.slice none 0 0] 29 (0, 0)) (pk_ BK147.out) hb); have n3_ := A_ (blk_below (g := gb148) (o := .cells #[.slice none 0 0] 29 (0, 0)) (pk_ BK148.out) hb); have n4_ := A_ (bs_ HB.out hb); clear BK146; clear BK147; clear BK148; clear HB; have HO151 := n0_; have BK146 := n1_; have BK147 := n2_; have BK148 := n3_; have HB := n4_; clear n0_ n1_ n2_ n3_ n4_; (try clear hb); (try clear hb2); (try clear hk); (try clear hi); (try clear ho0); obtain ⟨Ao10, co10, eo10⟩ := Kd.S_slice HO151.out; subst eo10; have hnb11 := NB148_147.out; have hnc11 := NB147_148.out; have hcz12_0 : w9.cell? ⟨gb148, 0, none⟩ = some (.slice none 0 0) := (blk_cell BK148.out 0).trans rfl; have hfz12_0 := blk_frozen BK148.out 0; have hcz13_0 : w9.cell? ⟨gb147, 0, none⟩ = some (.slice none 0 0) := (blk_cell BK147.out 0).trans rfl; have hfz13_0 := blk_frozen BK147.out 0))
 refine bodyPost_ret (results_cell_row rfl _ _ gb147 29 #[.slice Ao10 t149.length co10] (0, 0) _ rfl (by (with_reducible repeat (first | refine blk_drewN ?_ _ | refine blk_drew ?_ | refine blk_alloc ?_ _)); refine blk_put (cs := #[.slice none 0 0]) ?_ 0 _ rfl; (with_reducible repeat (first | refine blk_drewN ?_ _ | refine blk_drew ?_ | refine blk_alloc ?_ _)); refine blk_far ?_ NB147_148.out _; (with_reducible repeat (first | refine blk_drewN ?_ _ | refine blk_drew ?_ | refine blk_alloc ?_ _)); exact BK147.out) Try.underlying29 rfl (by kernel_rfl)) rfl ?_
 exact ⟨_, ew_, by (with_reducible repeat (first | apply Kd.S_alloc | apply Kd.S_drewN | apply Kd.S_drew)); exact Kd.S_mono (Kd.S_far (p := ⟨gb147, 0, none⟩) (Kd.S_far (p := ⟨gb148, 0, none⟩) (Kd.S_types (Kd.S_types HO151.out BK148.out (by decide)) BK147.out (by decide)) (fun _ hk => hk.1.2) (.slice Ao10 t149.length co10)) (fun _ hk => hk.2) (.slice Ao10 t149.length co10)) (fun _ hk => trivial), by repeat (first | (with_reducible first | exact HB.out | apply below_alloc | apply pw_below_drewN | apply below_drew1 | refine below_set ?_ GE146.out | refine below_set ?_ GE147.out | refine below_set ?_ GE148.out) | exact HB.out)⟩
end Go.Proofs.Ytoddejmlcnbdmaa.Fn
namespace Go.Proofs.YtoddejmlcnbdmaaW.PrintWords
namespace Kd
section
variable {α : Type} {d : Kd α} {e last : Nat} {w W w1 : World} {v : Value} {xs : List α}
theorem S_iv (ho : Kd.S d e w1 W.heap.size (fun _ => True) v xs) (hb : Below W.heap.size W w1) (hB : Below w.heap.size w W) (hS : last <= W.heap.size) :
  ∃ n m : Nat, last <= n /\ n <= m /\ m <= w1.heap.size /\ Kd.S d e w1 w.heap.size (fun k => n <= k /\ k < m) v xs :=
 ⟨W.heap.size, w1.heap.size, hS, hb.size, Nat.le_refl _, S_mono (S_lower (S_bound ho) hB.size) (fun _ hk => ⟨hk.2.1, hk.2.2.1⟩)⟩
end
end Kd
end Go.Proofs.YtoddejmlcnbdmaaW.PrintWords
namespace Go.Proofs.Ytoddejmlcnbdmaa.Fn
theorem kp110_C {w : World} {A : Option Addr} {n : Nat} {xs : List S110} (h : Kd.C kp110 w A n xs) : Kd.C k110 w A n xs := h
theorem tree_box {w : World} {g : Nat} {v : Value} (h : w.heap[g]? = some (.cells #[.slice none 0 0] 29 (0, 0))) : (w.setCell ⟨g, 0, none⟩ v).heap[g]? = some (.cells #[v] 29 (0, 0)) := blk_put (cs := #[.slice none 0 0]) h 0 _ rfl
theorem blk_away {w : World} {g : Nat} {o : Obj} (h : w.heap[g]? = some o) {p : Addr} (hp : g ≠ p.block) (u : Value) : (w.setCell p u).heap[g]? = some o := (Below.heap_setCell w p u g hp).trans h
def laws_heldTree.f (k : Nat) (l0_0 : List (S110)) (a1 : Int) : Option (Int) := (laws_heldPageS.f k l0_0 a1).bind fun t222 => (if t222 < 0 then (some (-1)) else (some t222))
theorem laws_heldTree.calls (k : Nat) (A0_0 : Option Addr) (c0_0 : Nat) (l0_0 : List (S110)) (a1 : Int) (r : Int) (w : World) (hr0_0 : Kd.C k110 w A0_0 l0_0.length l0_0) (hc0_0 : l0_0.length <= c0_0) (h : laws_heldTree.f k l0_0 a1 = some r) :
  Calls Try.prog 38 #[.agg #[.slice A0_0 l0_0.length c0_0], .int .i64 a1] w fun e w' => e = .returned (.int .i64 r) /\ Below w.heap.size w w' := by
 have hu29 := Try.underlying29
 have HR0_0 := A_ hr0_0
 have HC0_0 := A_ hc0_0
 clear hr0_0 hc0_0
 have HB := A_ (Below.refl w.heap.size w)
 have H : ((laws_heldPageS.f k l0_0 a1).bind fun t222 => (if t222 < 0 then (some (-1)) else (some t222))) = some r := h
 clear h
 replace H := Option.bind_eq_some_iff.mp H
 obtain ⟨t222, A30, H⟩ := H
 replace H : (if t222 < 0 then (some (-1)) else (some t222)) = some r := H
 have A3 := A_ A30
 clear A30
 by_cases c4 : t222 < 0
 ·rw [if_pos c4] at H
  have c4b0 : decide (t222 < 0) = true := decide_eq_true c4
  clear c4
  obtain rfl := Option.some.inj H
  go_enter Try.func38, Try.ntmps38
  go_wp2_with (first | ((with_reducible refine gate_dst (N := 2) rfl ?_); refine box_event ?hg (N := 2) ?hd (cs := #[.slice A0_0 l0_0.length c0_0]) (t := 29) ?hr ?_; (case hd => rfl); (case hg => rfl); (case hr => first | (go_simp; done) | (go_simp; rfl)); intro gb221 hg w5 hbox hb; have n0_ := A_ (bs_ HB.out hb); have n1_ := A_ (hbox); have n2_ := A_ ((by rw [hg]; exact (bw_ HB.out) : w.heap.size <= gb221)); have n3_ := A_ ((by rw [hg]; exact (bw_ HB.out) : w.heap.size <= gb221)); clear HB; have HB := n0_; have BK221 := n1_; have GW221 := n2_; have GE221 := n3_; clear n0_ n1_ n2_ n3_; clear hb hbox hg; have hcz6_0 : w5.cell? ⟨gb221, 0, none⟩ = some (.slice A0_0 l0_0.length c0_0) := (blk_cell BK221.out 0).trans rfl; have hfz6_0 := blk_frozen BK221.out 0) | ((with_reducible refine gate_callee (f := 82) rfl ?_); refine goesL_ (some 8) rfl rfl Try.func82 (by kernel_rfl) rfl #[.slice A0_0 l0_0.length c0_0, .int .i64 a1] rfl (ag_) ?_; (with_reducible refine (laws_heldPageS.calls k _ _ l0_0 a1 t222 _ ?side1 ?side2 A3.out).mono ?_); (case side1 => refine cd_ ?_; exact (Kd.C_below HR0_0.out HB.out)); (case side2 => exact HC0_0.out); rintro e w7 ⟨rfl, hb⟩; refine ⟨_, rfl, ?_⟩; have n0_ := A_ (blk_below (g := gb221) (o := .cells #[.slice A0_0 l0_0.length c0_0] 29 (0, 0)) (pk_ BK221.out) hb); have n1_ := A_ (bs_ HB.out hb); clear BK221; clear HB; have BK221 := n0_; have HB := n1_; clear n0_ n1_; (try clear hb); (try clear hb2); (try clear hk); (try clear hi)))
  go_ret
  exact ⟨ew_, by repeat (first | (with_reducible first | exact HB.out | apply below_alloc | apply pw_below_drewN | apply below_drew1 | refine below_set ?_ GE221.out) | exact HB.out)⟩
 ·rw [if_neg c4] at H
  have c4b0 : decide (t222 < 0) = false := decide_eq_false c4
  clear c4
  obtain rfl := Option.some.inj H
  go_enter Try.func38, Try.ntmps38
  go_wp2_with (first | ((with_reducible refine gate_dst (N := 2) rfl ?_); refine box_event ?hg (N := 2) ?hd (cs := #[.slice A0_0 l0_0.length c0_0]) (t := 29) ?hr ?_; (case hd => rfl); (case hg => rfl); (case hr => first | (go_simp; done) | (go_simp; rfl)); intro gb221 hg w8 hbox hb; have n0_ := A_ (bs_ HB.out hb); have n1_ := A_ (hbox); have n2_ := A_ ((by rw [hg]; exact (bw_ HB.out) : w.heap.size <= gb221)); have n3_ := A_ ((by rw [hg]; exact (bw_ HB.out) : w.heap.size <= gb221)); clear HB; have HB := n0_; have BK221 := n1_; have GW221 := n2_; have GE221 := n3_; clear n0_ n1_ n2_ n3_; clear hb hbox hg; have hcz9_0 : w8.cell? ⟨gb221, 0, none⟩ = some (.slice A0_0 l0_0.length c0_0) := (blk_cell BK221.out 0).trans rfl; have hfz9_0 := blk_frozen BK221.out 0) | ((with_reducible refine gate_callee (f := 82) rfl ?_); refine goesL_ (some 8) rfl rfl Try.func82 (by kernel_rfl) rfl #[.slice A0_0 l0_0.length c0_0, .int .i64 a1] rfl (ag_) ?_; (with_reducible refine (laws_heldPageS.calls k _ _ l0_0 a1 t222 _ ?side1 ?side2 A3.out).mono ?_); (case side1 => refine cd_ ?_; exact (Kd.C_below HR0_0.out HB.out)); (case side2 => exact HC0_0.out); rintro e w10 ⟨rfl, hb⟩; refine ⟨_, rfl, ?_⟩; have n0_ := A_ (blk_below (g := gb221) (o := .cells #[.slice A0_0 l0_0.length c0_0] 29 (0, 0)) (pk_ BK221.out) hb); have n1_ := A_ (bs_ HB.out hb); clear BK221; clear HB; have BK221 := n0_; have HB := n1_; clear n0_ n1_; (try clear hb); (try clear hb2); (try clear hk); (try clear hi)))
  go_ret
  exact ⟨ew_, by repeat (first | (with_reducible first | exact HB.out | apply below_alloc | apply pw_below_drewN | apply below_drew1 | refine below_set ?_ GE221.out) | exact HB.out)⟩
theorem heldTree_n (k : Nat) (A : Option Addr) (c n : Nat) (l : List S110) (a1 r : Int) (w : World) (hn : n = l.length) (hr : Kd.C k110 w A l.length l) (hc : l.length <= c) (h : laws_heldTree.f k l a1 = some r) :
  Calls Try.prog 38 #[.agg #[.slice A n c], .int .i64 a1] w fun e w' => e = .returned (.int .i64 r) /\ Below w.heap.size w w' := by
 subst hn
 exact laws_heldTree.calls k A c l a1 r w hr hc h
end Go.Proofs.Ytoddejmlcnbdmaa.Fn
namespace Go.Proofs.Ytoddejmlcnbdmaa.Tree
inductive PT where
 | mk (keys vals : List ByteArray) (kids : List PT)
def PT.keys : PT -> List ByteArray | .mk k _ _ => k
def PT.vals : PT -> List ByteArray | .mk _ v _ => v
def PT.kids : PT -> List PT | .mk _ _ c => c
theorem PT.eta (t : PT) : PT.mk t.keys t.vals t.kids = t := by cases t; rfl
theorem PT.size_kid {t s : PT} {i : Nat} (h : t.kids[i]? = some s) : SizeOf.sizeOf s < SizeOf.sizeOf t := by
 cases t with
 | mk keys vals kids =>
  have h1 : s ∈ kids := List.mem_of_getElem? h
  have h2 := List.sizeOf_lt_of_mem h1
  have h3 : SizeOf.sizeOf (PT.mk keys vals kids) = 1 + SizeOf.sizeOf keys + SizeOf.sizeOf vals + SizeOf.sizeOf kids := by simp
  omega
mutual
def evenS : PT -> Int
 | .mk _ _ [] => 1
 | .mk _ _ (c :: cs) => if evenL (evenS c) (c :: cs) then Go.RowKit.wrap64 (evenS c + 1) else -1
def evenL (d : Int) : List PT -> Bool
 | [] => true
 | c :: cs => !(decide (d < 0) || evenS c != d || decide (c.keys.length < 2)) && evenL d cs
end
theorem drop_of {α : Type} {l : List α} {i : Nat} {s : α} (h : l[i]? = some s) : l.drop i = s :: l.drop (i + 1) := by
 obtain ⟨h1, h2⟩ := List.getElem?_eq_some_iff.1 h
 rw [<- h2]
 exact List.drop_eq_getElem_cons h1
mutual
def Few : PT -> Prop
 | .mk _ _ kids => kids.length <= 1048576 /\ FewL kids
def FewL : List PT -> Prop
 | [] => True
 | c :: cs => Few c /\ FewL cs
end
theorem FewL_get : ∀ {l : List PT}, FewL l -> ∀ {i : Nat} {s : PT}, l[i]? = some s -> Few s
 | [], _, i, s, h => by simp at h
 | c :: cs, hf, 0, s, h => by
  simp only [FewL] at hf
  obtain rfl := Option.some.inj h
  exact hf.1
 | c :: cs, hf, i + 1, s, h => by
  simp only [FewL] at hf
  exact FewL_get hf.2 (by simpa using h)
theorem Few.kid {t s : PT} {i : Nat} (h : Few t) (hs : t.kids[i]? = some s) : Few s := by
 cases t with | mk keys vals kids =>
  simp only [Few] at h
  exact FewL_get h.2 hs
theorem Few.len {t : PT} (h : Few t) : t.kids.length <= 1048576 := by
 cases t with | mk keys vals kids =>
  simp only [Few] at h
  exact h.1
theorem evenS_leaf {t : PT} (h : t.kids.length = 0) : evenS t = 1 := by
 cases t with | mk keys vals kids =>
  cases kids with
  | nil => simp [evenS]
  | cons c cs => simp [PT.kids] at h
theorem evenS_node {t c : PT} (h : t.kids[0]? = some c) : evenS t = if evenL (evenS c) (t.kids.drop 0) then Go.RowKit.wrap64 (evenS c + 1) else -1 := by
 cases t with | mk keys vals kids =>
  cases kids with
  | nil => simp [PT.kids] at h
  | cons c' cs =>
   obtain rfl : c' = c := by simpa [PT.kids] using h
   simp [evenS, PT.kids]
theorem evenL_step {d : Int} {l : List PT} {i : Nat} {s : PT} (h : l[i]? = some s) (x : Int) (hx : x = if evenL d (l.drop i) then Go.RowKit.wrap64 (d + 1) else -1) :
  x = if (!(decide (d < 0) || evenS s != d || decide (s.keys.length < 2)) && evenL d (l.drop (i + 1))) then Go.RowKit.wrap64 (d + 1) else -1 := by
 rw [drop_of h, evenL] at hx
 exact hx
theorem evenL_on {d x : Int} {l : List PT} {i : Nat} {s : PT} (h : l[i]? = some s) (hx : x = if evenL d (l.drop i) then Go.RowKit.wrap64 (d + 1) else -1) (h1 : ¬ d < 0) (h2 : evenS s = d) (h3 : ¬ s.keys.length < 2) :
  x = if evenL d (l.drop (i + 1)) then Go.RowKit.wrap64 (d + 1) else -1 := by
 have := evenL_step h x hx
 rw [this]
 simp [h1, h2, h3]
theorem evenL_off {d x : Int} {l : List PT} {i : Nat} {s : PT} (h : l[i]? = some s) (hx : x = if evenL d (l.drop i) then Go.RowKit.wrap64 (d + 1) else -1) (h1 : d < 0 ∨ evenS s ≠ d ∨ s.keys.length < 2) :
  x = -1 := by
 have := evenL_step h x hx
 rw [this]
 rcases h1 with h1 | h1 | h1 <;> simp [h1]
theorem evenL_end {d x : Int} {l : List PT} {i : Nat} (h : l.length <= i) (hx : x = if evenL d (l.drop i) then Go.RowKit.wrap64 (d + 1) else -1) : x = Go.RowKit.wrap64 (d + 1) := by
 rw [List.drop_eq_nil_of_le h] at hx
 simpa [evenL] using hx
mutual
def depthP : PT -> Int × Bool
 | .mk _ _ [] => (1, true)
 | .mk keys _ (c :: cs) => match depthL 0 0 (c :: cs) with
  | some f => (Go.RowKit.wrap64 (f + 1), decide (0 < keys.length))
  | none => (0, false)
def depthL (i : Nat) (first : Int) : List PT -> Option Int
 | [] => some first
 | c :: cs => if (!(depthP c).2 || decide (c.keys.length < 2) || (decide (0 < i) && (depthP c).1 != first)) then none else depthL (i + 1) (depthP c).1 cs
end
def depthR (n : Nat) : Option Int -> Int × Bool
 | some f => (Go.RowKit.wrap64 (f + 1), decide (0 < n))
 | none => (0, false)
theorem depthP_leaf {t : PT} (h : t.kids.length = 0) : depthP t = (1, true) := by
 cases t with | mk keys vals kids =>
  cases kids with
  | nil => simp [depthP]
  | cons c cs => simp [PT.kids] at h
theorem depthP_node {t : PT} (h : t.kids.length ≠ 0) : depthP t = depthR t.keys.length (depthL 0 0 (t.kids.drop 0)) := by
 cases t with | mk keys vals kids =>
  cases kids with
  | nil => simp [PT.kids] at h
  | cons c cs =>
   simp only [PT.kids, PT.keys, List.drop_zero]
   rw [depthP]
   cases depthL 0 0 (c :: cs) <;> rfl
theorem depthL_on {first : Int} {l : List PT} {i : Nat} {s : PT} {n : Nat} {x : Int × Bool} (h : l[i]? = some s) (hx : x = depthR n (depthL i first (l.drop i))) (h1 : (depthP s).2 = true) (h2 : ¬ s.keys.length < 2) (h3 : i = 0 ∨ (depthP s).1 = first) :
  x = depthR n (depthL (i + 1) (depthP s).1 (l.drop (i + 1))) := by
 rw [drop_of h, depthL] at hx
 rw [hx]
 congr 1
 rw [if_neg]
 rcases h3 with h3 | h3 <;> simp [h1, h2, h3]
theorem depthL_off {first : Int} {l : List PT} {i : Nat} {s : PT} {n : Nat} {x : Int × Bool} (h : l[i]? = some s) (hx : x = depthR n (depthL i first (l.drop i))) (h1 : (depthP s).2 = false ∨ s.keys.length < 2 ∨ (0 < i /\ (depthP s).1 ≠ first)) : x = (0, false) := by
 rw [drop_of h, depthL] at hx
 rw [hx]
 rw [if_pos]
 ·rfl
 ·rcases h1 with h1 | h1 | h1 <;> simp [h1]
theorem depthL_end {first : Int} {l : List PT} {i : Nat} {n : Nat} {x : Int × Bool} (h : l.length <= i) (hx : x = depthR n (depthL i first (l.drop i))) : x = (Go.RowKit.wrap64 (first + 1), decide (0 < n)) := by
 rw [List.drop_eq_nil_of_le h, depthL] at hx
 exact hx
def weave {α : Type} : List (List α) -> List α -> List α
 | [], ks => ks
 | c :: _, [] => c
 | c :: cs, k :: ks => c ++ k :: weave cs ks
mutual
def allK : PT -> List ByteArray
 | .mk keys _ kids => weave (allKL kids) keys
def allKL : List PT -> List (List ByteArray)
 | [] => []
 | c :: cs => allK c :: allKL cs
end
mutual
def allV : PT -> List ByteArray
 | .mk _ vals kids => weave (allVL kids) vals
def allVL : List PT -> List (List ByteArray)
 | [] => []
 | c :: cs => allV c :: allVL cs
end
theorem allKL_map : ∀ l : List PT, allKL l = l.map allK
 | [] => rfl
 | c :: cs => by rw [allKL, allKL_map cs]; rfl
theorem allVL_map : ∀ l : List PT, allVL l = l.map allV
 | [] => rfl
 | c :: cs => by rw [allVL, allVL_map cs]; rfl
theorem allK_eq (t : PT) : allK t = weave (t.kids.map allK) t.keys := by
 cases t with | mk keys vals kids => rw [allK, allKL_map]; rfl
theorem allV_eq (t : PT) : allV t = weave (t.kids.map allV) t.vals := by
 cases t with | mk keys vals kids => rw [allV, allVL_map]; rfl
def restK (t : PT) (i : Nat) : List ByteArray := weave ((t.kids.drop i).map allK) (t.keys.drop i)
def restV (t : PT) (i : Nat) : List ByteArray := weave ((t.kids.drop i).map allV) (t.vals.drop i)
theorem restK_zero (t : PT) : restK t 0 = allK t := by rw [allK_eq, restK, List.drop_zero, List.drop_zero]
theorem restV_zero (t : PT) : restV t 0 = allV t := by rw [allV_eq, restV, List.drop_zero, List.drop_zero]
def Shp1 (t : PT) : Prop := t.keys.length = t.vals.length /\ t.keys.length <= 1000 /\ (t.kids.length = 0 ∨ t.kids.length = t.keys.length + 1)
mutual
def Shp : PT -> Prop
 | .mk keys vals kids => Shp1 (.mk keys vals kids) /\ ShpL kids
def ShpL : List PT -> Prop
 | [] => True
 | c :: cs => Shp c /\ ShpL cs
end
theorem ShpL_get : ∀ {l : List PT}, ShpL l -> ∀ {i : Nat} {s : PT}, l[i]? = some s -> Shp s
 | [], _, i, s, h => by simp at h
 | c :: cs, hf, 0, s, h => by
  simp only [ShpL] at hf
  obtain rfl := Option.some.inj h
  exact hf.1
 | c :: cs, hf, i + 1, s, h => by
  simp only [ShpL] at hf
  exact ShpL_get hf.2 (by simpa using h)
theorem Shp.one {t : PT} (h : Shp t) : Shp1 t := by
 cases t with | mk keys vals kids => simp only [Shp] at h; exact h.1
theorem Shp.kid {t s : PT} {i : Nat} (h : Shp t) (hs : t.kids[i]? = some s) : Shp s := by
 cases t with | mk keys vals kids =>
  simp only [Shp] at h
  exact ShpL_get h.2 hs
theorem Shp.mk' {t : PT} (h1 : Shp1 t) (h : ∀ (i : Nat) (s : PT), t.kids[i]? = some s -> Shp s) : Shp t := by
 cases t with | mk keys vals kids =>
  simp only [Shp]
  refine ⟨h1, ?_⟩
  have h' : ∀ (i : Nat) (s : PT), kids[i]? = some s -> Shp s := h
  clear h h1
  induction kids with
  | nil => simp [ShpL]
  | cons c cs ih =>
   simp only [ShpL]
   exact ⟨h' 0 c rfl, ih fun i s hs => h' (i + 1) s (by simpa using hs)⟩
theorem FewL_of : ∀ {l : List PT}, (∀ (i : Nat) (s : PT), l[i]? = some s -> Few s) -> FewL l
 | [], _ => by simp [FewL]
 | c :: cs, h => by
  simp only [FewL]
  exact ⟨h 0 c rfl, FewL_of fun i s hs => h (i + 1) s (by simpa using hs)⟩
theorem Shp.few : ∀ {n : Nat} {t : PT}, SizeOf.sizeOf t <= n -> Shp t -> Few t
 | 0, t, h, _ => by cases t; simp at h
 | n + 1, t, h, hs => by
  cases t with | mk keys vals kids =>
  simp only [Few]
  have h1 := hs.one
  unfold Shp1 at h1
  simp only [PT.kids, PT.keys, PT.vals] at h1
  refine ⟨by omega, FewL_of fun i s hi => Shp.few (n := n) ?_ (hs.kid hi)⟩
  have := PT.size_kid (t := .mk keys vals kids) hi
  omega
theorem dropLe {α : Type} (l : List α) {i : Nat} (h : l.length <= i) : l.drop i = [] := List.drop_eq_nil_of_le h
theorem drop_at {α : Type} {l : List α} {i : Nat} (h : i < l.length) (d : α) : l.drop i = l.getD i d :: l.drop (i + 1) := by
 rw [List.drop_eq_getElem_cons h, List.getD_eq_getElem?_getD, List.getElem?_eq_getElem h]
 rfl
theorem restK_leaf {t : PT} {i : Nat} (h : t.kids.length = 0) (hi : i < t.keys.length) : restK t i = t.keys.getD i ByteArray.empty :: restK t (i + 1) := by
 have e : t.kids = [] := List.length_eq_zero_iff.1 h
 unfold restK
 rw [e, List.drop_nil, List.drop_nil, drop_at hi ByteArray.empty]
 rfl
theorem restV_leaf {t : PT} {i : Nat} (h : t.kids.length = 0) (hi : i < t.vals.length) : restV t i = t.vals.getD i ByteArray.empty :: restV t (i + 1) := by
 have e : t.kids = [] := List.length_eq_zero_iff.1 h
 unfold restV
 rw [e, List.drop_nil, List.drop_nil, drop_at hi ByteArray.empty]
 rfl
theorem restK_node {t s : PT} {i : Nat} (h : t.kids[i]? = some s) (hi : i < t.keys.length) : restK t i = allK s ++ t.keys.getD i ByteArray.empty :: restK t (i + 1) := by
 unfold restK
 rw [drop_of h, drop_at hi ByteArray.empty]
 rfl
theorem restV_node {t s : PT} {i : Nat} (h : t.kids[i]? = some s) (hi : i < t.vals.length) : restV t i = allV s ++ t.vals.getD i ByteArray.empty :: restV t (i + 1) := by
 unfold restV
 rw [drop_of h, drop_at hi ByteArray.empty]
 rfl
theorem restK_last {t s : PT} {i : Nat} (h : t.kids[i]? = some s) (hi : t.keys.length <= i) (hk : t.kids.length = i + 1) : restK t i = allK s ++ restK t (i + 1) := by
 unfold restK
 rw [drop_of h, dropLe t.keys hi, dropLe t.kids (by omega), dropLe t.keys (by omega)]
 simp [weave]
theorem restV_last {t s : PT} {i : Nat} (h : t.kids[i]? = some s) (hi : t.vals.length <= i) (hk : t.kids.length = i + 1) : restV t i = allV s ++ restV t (i + 1) := by
 unfold restV
 rw [drop_of h, dropLe t.vals hi, dropLe t.kids (by omega), dropLe t.vals (by omega)]
 simp [weave]
theorem restK_end {t : PT} {i : Nat} (hi : t.keys.length <= i) (hk : t.kids.length <= i) : restK t i = [] := by
 unfold restK
 rw [dropLe t.keys hi, dropLe t.kids hk]
 rfl
theorem restV_end {t : PT} {i : Nat} (hi : t.vals.length <= i) (hk : t.kids.length <= i) : restV t i = [] := by
 unfold restV
 rw [dropLe t.vals hi, dropLe t.kids hk]
 rfl
mutual
def PT.big : PT -> Nat
 | .mk _ _ kids => 1 + PT.bigL kids
def PT.bigL : List PT -> Nat
 | [] => 0
 | c :: cs => c.big + PT.bigL cs
end
theorem bigL_get : ∀ {l : List PT} {i : Nat} {s : PT}, l[i]? = some s -> s.big <= PT.bigL l
 | [], i, s, h => by simp at h
 | c :: cs, 0, s, h => by
  obtain rfl := Option.some.inj h
  rw [PT.bigL]
  omega
 | c :: cs, i + 1, s, h => by
  have := bigL_get (l := cs) (i := i) (s := s) (by simpa using h)
  rw [PT.bigL]
  omega
theorem PT.big_kid {t s : PT} {i : Nat} (h : t.kids[i]? = some s) : s.big < t.big := by
 cases t with | mk keys vals kids =>
 have := bigL_get (l := kids) h
 rw [PT.big]
 omega
theorem PT.big_pos (t : PT) : 0 < t.big := by
 cases t with | mk keys vals kids => rw [PT.big]; omega
abbrev ptrv (p : Nat) : Value := .pointer (some ⟨p, 0, none⟩)
def kptr : Kd Nat := Kd.scalar ptrv (fun _ => rfl)
inductive Rd (T : Nat) (w : World) : Nat -> PT -> Prop
 | mk {p : Nat} {keys vals : List ByteArray} {kids : List PT} (Ak : Option Addr) (ck : Nat) (Av : Option Addr) (cv : Nat) (Ac : Option Addr) (cc : Nat) (ps : List Nat)
   (hn : w.heap[p]? = some (.cells #[.slice Ak keys.length ck, .slice Av vals.length cv, .slice Ac kids.length cc] T (0, 0)))
   (h1 : keys.length <= ck) (h2 : vals.length <= cv) (h3 : kids.length <= cc)
   (hk : Kd.string.C w Ak keys.length keys) (hv : Kd.string.C w Av vals.length vals) (hc : kptr.C w Ac kids.length ps) (hl : ps.length = kids.length)
   (ht : ∀ (i q : Nat) (s : PT), ps[i]? = some q -> kids[i]? = some s -> Rd T w q s) : Rd T w p (.mk keys vals kids)
section
variable {T : Nat} {w w1 : World} {p : Nat} {t : PT}
theorem Rd.under (h : Rd T w p t) (hb : Below w.heap.size w w1) : Rd T w1 p t := by
 induction h with
 | mk Ak ck Av cv Ac cc ps hn h1 h2 h3 hk hv hc hl ht ih =>
  exact .mk Ak ck Av cv Ac cc ps (blk_below hn hb) h1 h2 h3 (Kd.C_below hk hb) (Kd.C_below hv hb) (Kd.C_below hc hb) hl ih
theorem Rd.drew (h : Rd T w p t) : Rd T w.drew p t := h.under (below_drew (Below.refl _ _))
theorem Rd.drewN (h : Rd T w p t) (m : Nat) : Rd T (w.drewN m) p t := h.under (pw_below_drewN (Below.refl _ _) m)
end
structure NC (T : Nat) (w : World) (p : Nat) (t : PT) (Ak : Option Addr) (ck : Nat) (Av : Option Addr) (cv : Nat) (Ac : Option Addr) (cc : Nat) (ps : List Nat) : Prop where
 hn : w.heap[p]? = some (.cells #[.slice Ak t.keys.length ck, .slice Av t.vals.length cv, .slice Ac t.kids.length cc] T (0, 0))
 h1 : t.keys.length <= ck
 h2 : t.vals.length <= cv
 h3 : t.kids.length <= cc
 hk : Kd.string.C w Ak t.keys.length t.keys
 hv : Kd.string.C w Av t.vals.length t.vals
 hc : kptr.C w Ac t.kids.length ps
 hl : ps.length = t.kids.length
 ht : ∀ (i q : Nat) (s : PT), ps[i]? = some q -> t.kids[i]? = some s -> Rd T w q s
section
variable {T : Nat} {w w1 : World} {p : Nat} {t : PT} {Ak Av Ac : Option Addr} {ck cv cc : Nat} {ps : List Nat}
theorem Rd.open (h : Rd T w p t) : ∃ Ak ck Av cv Ac cc ps, NC T w p t Ak ck Av cv Ac cc ps := by
 cases h with | mk Ak ck Av cv Ac cc ps hn h1 h2 h3 hk hv hc hl ht => exact ⟨Ak, ck, Av, cv, Ac, cc, ps, ⟨hn, h1, h2, h3, hk, hv, hc, hl, ht⟩⟩
theorem NC.rd (h : NC T w p t Ak ck Av cv Ac cc ps) : Rd T w p t := by
 rw [<- PT.eta t]
 exact .mk Ak ck Av cv Ac cc ps h.hn h.h1 h.h2 h.h3 h.hk h.hv h.hc h.hl h.ht
theorem NC.below (h : NC T w p t Ak ck Av cv Ac cc ps) (hb : Below w.heap.size w w1) : NC T w1 p t Ak ck Av cv Ac cc ps :=
 ⟨blk_below h.hn hb, h.h1, h.h2, h.h3, Kd.C_below h.hk hb, Kd.C_below h.hv hb, Kd.C_below h.hc hb, h.hl, fun i q s hq hs => (h.ht i q s hq hs).under hb⟩
theorem NC.z0 (h : NC T w p t Ak ck Av cv Ac cc ps) : w.cell? ⟨p, 0, none⟩ = some (.slice Ak t.keys.length ck) := (blk_cell h.hn 0).trans rfl
theorem NC.z1 (h : NC T w p t Ak ck Av cv Ac cc ps) : w.cell? ⟨p, 1, none⟩ = some (.slice Av t.vals.length cv) := (blk_cell h.hn 1).trans rfl
theorem NC.z2 (h : NC T w p t Ak ck Av cv Ac cc ps) : w.cell? ⟨p, 2, none⟩ = some (.slice Ac t.kids.length cc) := (blk_cell h.hn 2).trans rfl
theorem at_ptr {A : Option Addr} {n : Nat} {ps : List Nat} (h : kptr.C w A n ps) (i : Int) (h0 : 0 <= i) (h1 : i < n) : ∃ ad, A = some ad /\ w.cell? (ad.add i.toNat) = some (ptrv (rdOf 0 ps i)) :=
 ReadsOf.at_ (Kd.reads_of_C (enc := ptrv) (d := (0 : Nat)) (h1 := fun _ => rfl) h) i h0 h1
theorem at0 {ad : Addr} {v : Value} (h : w.cell? (ad.add (0 : Int).toNat) = some v) : w.cell? ad = some v := by
 have e_ : ad.add (0 : Int).toNat = ad := by cases ad; simp [Addr.add]
 rw [e_] at h
 exact h
theorem NC.kid (h : NC T w p t Ak ck Av cv Ac cc ps) (i : Int) (h0 : 0 <= i) (h1 : i < (t.kids.length : Int)) :
  ∃ (ad : Addr) (q : Nat) (s : PT), Ac = some ad /\ w.cell? (ad.add i.toNat) = some (ptrv q) /\ t.kids[i.toNat]? = some s /\ Rd T w q s := by
 obtain ⟨ad, hA, hz⟩ := at_ptr h.hc i h0 (by omega)
 have hl := h.hl
 have hi : i.toNat < t.kids.length := by omega
 have hj : i.toNat < ps.length := by omega
 refine ⟨ad, rdOf 0 ps i, t.kids[i.toNat], hA, hz, List.getElem?_eq_getElem hi, h.ht i.toNat _ _ ?_ (List.getElem?_eq_getElem hi)⟩
 rw [List.getElem?_eq_getElem hj]
 unfold rdOf
 rw [List.getD_eq_getElem?_getD, List.getElem?_eq_getElem hj]
 rfl
theorem NC.key (h : NC T w p t Ak ck Av cv Ac cc ps) (i : Int) (h0 : 0 <= i) (h1 : i < (t.keys.length : Int)) :
  ∃ (ad : Addr), Ak = some ad /\ w.cell? (ad.add i.toNat) = some (.string (rdOf ByteArray.empty t.keys i)) := Kd.at_string h.hk i h0 h1
theorem NC.val (h : NC T w p t Ak ck Av cv Ac cc ps) (i : Int) (h0 : 0 <= i) (h1 : i < (t.vals.length : Int)) :
  ∃ (ad : Addr), Av = some ad /\ w.cell? (ad.add i.toNat) = some (.string (rdOf ByteArray.empty t.vals i)) := Kd.at_string h.hv i h0 h1
end
open Go.Proofs.Ytoddejmlcnbdmaa.Fn
def SR (w : World) (base : Nat) (v : Value) (l : List ByteArray) : Prop := Kd.string.R 9 w base (fun _ => True) v l
theorem SR.ofR {w : World} {base : Nat} {v : Value} {l : List ByteArray} (h : Kd.string.R 9 w base (fun _ => True) v l) : SR w base v l := h
section
variable {W w1 : World} {base : Nat} {v v1 u : Value} {l l1 : List ByteArray}
theorem SR.nil (w : World) (base : Nat) : SR w base (.slice none 0 0) [] := Kd.R_nil _ _ _ _ _
theorem SR.lt (h : SR W base v l) {k : Nat} (hk : v.ownBlock = some k) : k < W.heap.size := by
 have h2 := Kd.R_bound h
 exact (h2.1 k hk).2.2.1
theorem SR.far (h : SR W base v l) (hg : W.grownBy w1 u.ownBlock) (hne : NeRow v u) : SR w1 base v l :=
 Kd.R_mono (Kd.R_grown (Kd.R_tight rfl h) hg (fun k hk he => hne k hk.symm he.symm)) (fun _ _ => trivial)
theorem SR.under (h : SR W base v l) (hb : Below W.heap.size W w1) : SR w1 base v l := Kd.R_below h hb
theorem neSymm (h : NeRow u v) : NeRow v u := fun k h1 h2 => h k h2 h1
theorem SR.ne (h : SR W base u l) (hat : v1.ownBlock = v.ownBlock ∨ ∃ b, v1.ownBlock = some b /\ W.heap.size <= b) (hne : NeRow v u) : NeRow v1 u := by
 intro k hk hu
 rcases hat with h1 | ⟨b, h1, h2⟩
 ·exact hne k (by rw [<- h1]; exact hk) hu
 ·have := h.lt hu
  rw [h1] at hk
  injection hk with hk
  omega
end
open Go.Proofs.Ytoddejmlcnbdmaa.Fn
inductive Ck where
 | own (e : Nat) (v : Value) (xs : List Value)
 | que (e : Nat) (v : Value) (xs : List Value)
 | box (T p : Nat) (cs : Array Value)
 | row (e sz : Nat) (v : Value) (n : Nat) (xs : List Value)
def Ck.blk : Ck -> Option Nat
 | .own _ v _ => v.ownBlock
 | .que _ v _ => v.ownBlock
 | .box _ p _ => some p
 | .row _ _ v _ _ => v.ownBlock
def Ck.ok (w : World) (base : Nat) : Ck -> Prop
 | .own e v xs => w.ownsRow base e 1 v xs.length xs
 | .que e v xs => QRow w base e 1 v xs.length xs
 | .box T p cs => base <= p /\ w.heap[p]? = some (.cells cs T (0, 0))
 | .row e sz v n xs => w.ownsRow base e sz v n xs
def Apart (a b : Ck) : Prop := ∀ k, a.blk = some k -> b.blk ≠ some k
theorem Apart.symm {a b : Ck} (h : Apart a b) : Apart b a := fun k h1 h2 => h k h2 h1
structure Sat (w : World) (base : Nat) (L : List Ck) : Prop where
 ok : ∀ c ∈ L, c.ok w base
 ap : L.Pairwise Apart
def blks (L : List Ck) (k : Nat) : Prop := ∃ c ∈ L, c.blk = some k
section
variable {w w1 W : World} {base : Nat} {c : Ck} {L A A' R : List Ck}
theorem Ck.lt (h : c.ok w base) {k : Nat} (hk : c.blk = some k) : k < w.heap.size := by
 cases c with
 | own e v xs => exact own_lt h k hk
 | que e v xs => exact q_lt h k hk
 | box T p cs =>
  injection hk with hk
  subst hk
  exact blk_lt h.2
 | row e sz v n xs => exact own_lt h k hk
theorem Ck.ge (h : c.ok w base) {k : Nat} (hk : c.blk = some k) : base <= k := by
 cases c with
 | own e v xs => exact own_base h k hk
 | que e v xs => exact (q_typed h k hk).1
 | box T p cs =>
  injection hk with hk
  subst hk
  exact h.1
 | row e sz v n xs => exact own_base h k hk
theorem Ck.move (h : c.ok w base) (hm : ∀ k, c.blk = some k -> w1.heap[k]? = w.heap[k]?) : c.ok w1 base := by
 cases c with
 | own e v xs => exact own_move h hm
 | que e v xs => exact q_move h hm
 | box T p cs => exact ⟨h.1, (hm p rfl).trans h.2⟩
 | row e sz v n xs => exact own_move h hm
theorem Ck.lower {base' : Nat} (h : c.ok w base) (hb : base' <= base) : c.ok w base' := by
 cases c with
 | own e v xs => exact own_weaken h hb
 | que e v xs => exact q_lower h hb
 | box T p cs => exact ⟨Nat.le_trans hb h.1, h.2⟩
 | row e sz v n xs => exact own_weaken h hb
theorem Sat.nil (w : World) (base : Nat) : Sat w base [] := ⟨(fun c h => by cases h), .nil⟩
theorem Sat.lt (h : Sat w base L) {k : Nat} (hk : blks L k) : k < w.heap.size := by
 obtain ⟨c, hc, hb⟩ := hk
 exact Ck.lt (h.ok c hc) hb
theorem Sat.ge (h : Sat w base L) {k : Nat} (hk : blks L k) : base <= k := by
 obtain ⟨c, hc, hb⟩ := hk
 exact Ck.ge (h.ok c hc) hb
theorem Sat.move (h : Sat w base L) (hm : ∀ k, blks L k -> k < w.heap.size -> w1.heap[k]? = w.heap[k]?) : Sat w1 base L :=
 ⟨fun c hc => Ck.move (h.ok c hc) fun k hk => hm k ⟨c, hc, hk⟩ (Ck.lt (h.ok c hc) hk), h.ap⟩
theorem Sat.under (h : Sat w base L) (hb : Below w.heap.size w w1) : Sat w1 base L := h.move fun k _ hk => hb.block k hk
theorem Sat.lower {base' : Nat} (h : Sat w base L) (hb : base' <= base) : Sat w base' L := ⟨fun c hc => Ck.lower (h.ok c hc) hb, h.ap⟩
theorem Sat.drew (h : Sat w base L) : Sat w.drew base L := h.under (below_drew (Below.refl _ _))
theorem Sat.drewN (h : Sat w base L) (m : Nat) : Sat (w.drewN m) base L := h.under (pw_below_drewN (Below.refl _ _) m)
theorem Sat.perm (h : Sat w base A) (hp : A.Perm L) : Sat w base L :=
 ⟨fun c hc => h.ok c (hp.mem_iff.2 hc), hp.pairwise h.ap fun h => Apart.symm h⟩
theorem Sat.sub (h : Sat w base A) (hp : L.Sublist A) : Sat w base L := ⟨fun c hc => h.ok c (hp.subset hc), h.ap.sublist hp⟩
theorem Sat.left (h : Sat w base (A ++ R)) : Sat w base A := h.sub (List.sublist_append_left _ _)
theorem Sat.right (h : Sat w base (A ++ R)) : Sat w base R := h.sub (List.sublist_append_right _ _)
theorem Sat.apart (h : Sat w base (A ++ R)) {k : Nat} (ha : blks A k) (hr : blks R k) : False := by
 obtain ⟨c, hc, h1⟩ := ha
 obtain ⟨d, hd, h2⟩ := hr
 exact (List.pairwise_append.1 h.ap).2.2 c hc d hd k h1 h2
theorem Sat.frame (h : Sat w base (A ++ R)) (ha : Sat w1 base A') (hk : Kept w w1 (blks A)) (hb : ∀ k, blks A' k -> blks A k ∨ w.heap.size <= k) : Sat w1 base (A' ++ R) := by
 have hr : Sat w1 base R := h.right.move fun k hk' hlt => hk.2 k hlt fun hka => h.apart hka hk'
 refine ⟨fun c hc => ?_, List.pairwise_append.2 ⟨ha.ap, hr.ap, fun a haa r hrr k h1 h2 => ?_⟩⟩
 ·rcases List.mem_append.1 hc with hc | hc
  ·exact ha.ok c hc
  ·exact hr.ok c hc
 ·rcases hb k ⟨a, haa, h1⟩ with h3 | h3
  ·exact h.apart h3 ⟨r, hrr, h2⟩
  ·have := h.right.lt ⟨r, hrr, h2⟩
   omega
theorem Sat.add (h : Sat w base L) (hk : Kept w w1 (fun _ => False)) (hc : Sat w1 base A) (hn : ∀ k, blks A k -> w.heap.size <= k) : Sat w1 base (A ++ L) := by
 have := Sat.frame (A := []) (A' := A) (R := L) (w := w) (w1 := w1) (base := base) (by simpa using h) hc (hk.mono fun k h => h.elim) (fun k h => .inr (hn k h))
 exact this
theorem Sat.one (h : c.ok w base) : Sat w base [c] := ⟨fun d hd => by rw [List.mem_singleton.1 hd]; exact h, List.pairwise_singleton _ _⟩
theorem Sat.cell (h : Sat w base L) {T p : Nat} {cs : Array Value} (hm : Ck.box T p cs ∈ L) : w.heap[p]? = some (.cells cs T (0, 0)) := (h.ok _ hm).2
theorem ok_sr {v : Value} {l : List ByteArray} (h : Ck.ok w base (.own 9 v (encs Value.string l))) : SR w base v l :=
 Kd.R_of_own (enc := Value.string) (h1 := fun _ => rfl) (by have h2 : w.ownsRow base 9 1 v (encs Value.string l).length (encs Value.string l) := h; rw [encs_length] at h2; exact h2) (fun _ _ => trivial)
theorem sr_ok {v : Value} {l : List ByteArray} (h : SR w base v l) : Ck.ok w base (.own 9 v (encs Value.string l)) := by
 have h2 := Kd.own_of_R (enc := Value.string) (h1 := fun _ => rfl) h
 show w.ownsRow base 9 1 v (encs Value.string l).length (encs Value.string l)
 rw [encs_length]
 exact h2
abbrev txt (v : Value) (l : List ByteArray) : Ck := .own 9 v (encs Value.string l)
theorem Sat.sr (h : Sat w base L) {v : Value} {l : List ByteArray} (i : Nat) (hi : L[i]? = some (txt v l)) : SR w base v l := ok_sr (h.ok _ (List.mem_of_getElem? hi))
theorem Sat.ap2 (h : Sat w base L) {i j : Nat} (hij : i < j) {a b : Ck} (hi : L[i]? = some a) (hj : L[j]? = some b) : Apart a b := by
 obtain ⟨h1, h2⟩ := List.getElem?_eq_some_iff.1 hi
 obtain ⟨h3, h4⟩ := List.getElem?_eq_some_iff.1 hj
 rw [<- h2, <- h4]
 exact List.pairwise_iff_getElem.1 h.ap i j h1 h3 hij
theorem Sat.two {v1 v2 : Value} {l1 l2 : List ByteArray} (h1 : SR w base v1 l1) (h2 : SR w base v2 l2) (hn : NeRow v1 v2) : Sat w base [txt v1 l1, txt v2 l2] :=
 ⟨fun c hc => by
  rcases List.mem_cons.1 hc with rfl | hc
  ·exact sr_ok h1
  ·rw [List.mem_singleton.1 hc]; exact sr_ok h2, by
  refine List.pairwise_cons.2 ⟨fun b hb => ?_, List.pairwise_singleton _ _⟩
  rw [List.mem_singleton.1 hb]
  exact hn⟩
theorem Sat.lit {xs : List ByteArray} {vb : Value} (h : Sat W base L) (ho : Kd.string.R 9 w1 base (fun _ => True) vb xs) (hg : W.grownBy w1 none) (hn : ∃ b, vb.ownBlock = some b /\ W.heap.size <= b) : Sat w1 base (L ++ [txt vb xs]) := by
 have hk : Kept W w1 (fun _ => False) := ⟨hg.size, fun i hi _ => hg.block i hi (by simp)⟩
 refine (h.add hk (Sat.one (sr_ok ho)) ?_).perm List.perm_append_comm
 rintro k ⟨c, hc, hb⟩
 rw [List.mem_singleton.1 hc] at hb
 obtain ⟨b, h1, h2⟩ := hn
 have h3 : vb.ownBlock = some k := hb
 rw [h1] at h3
 injection h3 with h3
 omega
theorem set_perm {α : Type} : ∀ {l : List α} {i : Nat} {x y : α}, l[i]? = some x -> (l.Perm (x :: l.eraseIdx i)) /\ (l.set i y).Perm (y :: l.eraseIdx i)
 | [], i, x, y, h => by simp at h
 | a :: l, 0, x, y, h => by
  have h : a = x := by simpa using h
  subst h
  exact ⟨.refl _, .refl _⟩
 | a :: l, i + 1, x, y, h => by
  obtain ⟨h1, h2⟩ := set_perm (l := l) (i := i) (x := x) (y := y) (by simpa using h)
  exact ⟨(h1.cons a).trans (.swap _ _ _), (h2.cons a).trans (.swap _ _ _)⟩
theorem Sat.app {x y : List ByteArray} {u u1 : Value} (i : Nat) (h : Sat W base L) (hi : L[i]? = some (txt u x)) (ho : Kd.string.R 9 w1 base (fun _ => True) u1 y) (hg : W.grownBy w1 u.ownBlock) (hat : u1.ownBlock = u.ownBlock ∨ ∃ b, u1.ownBlock = some b /\ W.heap.size <= b) :
  Sat w1 base (L.set i (txt u1 y)) := by
 obtain ⟨h1, h2⟩ := set_perm (y := txt u1 y) hi
 have hf : Sat w1 base ([txt u1 y] ++ L.eraseIdx i) := by
  refine Sat.frame (A := [txt u x]) (w := W) (h.perm h1) (Sat.one (sr_ok ho)) ⟨hg.size, fun k hk hnot => hg.block k hk fun he => hnot ⟨_, List.mem_singleton_self _, he.symm⟩⟩ ?_
  rintro k ⟨c, hc, hb⟩
  rw [List.mem_singleton.1 hc] at hb
  have h3 : u1.ownBlock = some k := hb
  rcases hat with h4 | ⟨b, h4, h5⟩
  ·exact .inl ⟨_, List.mem_singleton_self _, by rw [h4] at h3; exact h3⟩
  ·rw [h4] at h3
   injection h3 with h3
   exact .inr (by omega)
 exact hf.perm h2.symm
end
open Go.Proofs.Ytoddejmlcnbdmaa.Fn
inductive NT where
 | mk (p : Nat) (kv vv cv : Value) (keys vals : List ByteArray) (kids : List NT)
def NT.p : NT -> Nat | .mk p _ _ _ _ _ _ => p
def NT.kv : NT -> Value | .mk _ v _ _ _ _ _ => v
def NT.vv : NT -> Value | .mk _ _ v _ _ _ _ => v
def NT.cv : NT -> Value | .mk _ _ _ v _ _ _ => v
def NT.keys : NT -> List ByteArray | .mk _ _ _ _ k _ _ => k
def NT.vals : NT -> List ByteArray | .mk _ _ _ _ _ v _ => v
def NT.kids : NT -> List NT | .mk _ _ _ _ _ _ c => c
mutual
def NT.erase : NT -> PT
 | .mk _ _ _ _ keys vals kids => .mk keys vals (NT.eraseL kids)
def NT.eraseL : List NT -> List PT
 | [] => []
 | c :: cs => c.erase :: NT.eraseL cs
end
theorem eraseL_map : ∀ l : List NT, NT.eraseL l = l.map NT.erase
 | [] => rfl
 | c :: cs => by rw [NT.eraseL, eraseL_map cs]; rfl
abbrev ptrs (l : List NT) : List Value := l.map fun k => ptrv k.p
mutual
def NT.cks (T E : Nat) : NT -> List Ck
 | .mk p kv vv cv keys vals kids => .box T p #[kv, vv, cv] :: txt kv keys :: txt vv vals :: .que E cv (ptrs kids) :: NT.cksL T E kids
def NT.cksL (T E : Nat) : List NT -> List Ck
 | [] => []
 | c :: cs => c.cks T E ++ NT.cksL T E cs
end
theorem cksL_flat (T E : Nat) : ∀ l : List NT, NT.cksL T E l = l.flatMap (NT.cks T E)
 | [] => rfl
 | c :: cs => by rw [NT.cksL, cksL_flat T E cs]; rfl
theorem cksL_append (T E : Nat) (a b : List NT) : NT.cksL T E (a ++ b) = NT.cksL T E a ++ NT.cksL T E b := by
 rw [cksL_flat, cksL_flat, cksL_flat, List.flatMap_append]
section
variable {w w1 : World} {base : Nat} {L : List Ck}
theorem reps_enc {α : Type} {enc : α -> Value} {xs : List α} {inner : List Value} {n : Nat} (hr : Reps (fun (x : α) (cs : List Value) => cs = [enc x]) 1 xs inner) : inner = encs enc xs := by
 apply List.ext_getElem?
 intro j
 rcases Nat.lt_or_ge j xs.length with hj | hj
 ·have h2 := hr.2 j _ (List.getElem?_eq_getElem hj)
  have hl : j < inner.length := by have := hr.1; omega
  have h3 : (inner.drop (j * 1)).take 1 = [enc xs[j]] := h2
  rw [Nat.mul_one, List.drop_eq_getElem_cons hl] at h3
  have h4 : inner[j] = enc xs[j] := by
   have h5 := congrArg List.head? h3
   rw [List.take_succ_cons] at h5
   exact Option.some.inj h5
  rw [List.getElem?_eq_getElem hl, h4]
  simp [encs, List.getElem?_eq_getElem hj]
 ·have h3 : inner.length = xs.length := by have := hr.1; omega
  rw [List.getElem?_eq_none (by omega), List.getElem?_eq_none (by rw [encs_length]; omega)]
def PQ (E : Nat) (w : World) (base : Nat) (v : Value) (ps : List Nat) : Prop := kptr.Q E w base (fun _ => True) v ps
theorem ok_pq {E : Nat} {v : Value} {ps : List Nat} (h : Ck.ok w base (.que E v (encs ptrv ps))) : PQ E w base v ps := by
 refine ⟨fun _ _ => trivial, encs ptrv ps, ?_, Kd.reps_scalar ps⟩
 have h2 : QRow w base E 1 v (encs ptrv ps).length (encs ptrv ps) := h
 rw [encs_length] at h2
 exact h2
theorem pq_ok {E : Nat} {v : Value} {ps : List Nat} (h : PQ E w base v ps) : Ck.ok w base (.que E v (encs ptrv ps)) := by
 obtain ⟨_, inner, ho, hr⟩ := h
 have e := reps_enc (n := 0) (enc := ptrv) hr
 subst e
 show QRow w base E 1 v (encs ptrv ps).length (encs ptrv ps)
 rw [encs_length]
 exact ho
theorem ptrs_encs (l : List NT) : ptrs l = encs ptrv (l.map NT.p) := by unfold ptrs encs; rw [List.map_map]; rfl
theorem Sat.tail {c : Ck} (h : Sat w base (c :: L)) : Sat w base L := h.sub (List.sublist_cons_self _ _)
theorem sub_flat {α β : Type} {f : α -> List β} : ∀ {l : List α} {x : α}, x ∈ l -> (f x).Sublist (l.flatMap f)
 | y :: l, x, h => by
  rw [List.flatMap_cons]
  rcases List.mem_cons.1 h with rfl | h
  ·exact List.sublist_append_left _ _
  ·exact (sub_flat h).trans (List.sublist_append_right _ _)
theorem sat_kid {T E : Nat} {l : List NT} (h : Sat w base (NT.cksL T E l)) {i : Nat} {s : NT} (hs : l[i]? = some s) : Sat w base (s.cks T E) := by
 rw [cksL_flat] at h
 exact h.sub (sub_flat (List.mem_of_getElem? hs))
theorem rd_of_sat {T E : Nat} : ∀ (n : Nat) (t : NT), SizeOf.sizeOf t <= n -> Sat w base (t.cks T E) -> Rd T w t.p t.erase
 | 0, t, h, _ => by cases t; simp at h
 | n + 1, .mk p kv vv cv keys vals kids, h, hs => by
  rw [NT.cks] at hs
  have hb := (hs.ok _ List.mem_cons_self).2
  obtain ⟨Ak, ck, e1, h1, hk⟩ := Kd.R_reads (ok_sr (hs.tail.ok _ List.mem_cons_self))
  obtain ⟨Av, cv', e2, h2, hv⟩ := Kd.R_reads (ok_sr (hs.tail.tail.ok _ List.mem_cons_self))
  have hq := hs.tail.tail.tail.ok _ List.mem_cons_self
  rw [ptrs_encs] at hq
  obtain ⟨Ac, cc, e3, h3, hc⟩ := Kd.Q_reads (ok_pq hq)
  subst e1; subst e2; subst e3
  rw [List.length_map] at h3 hc
  have hl : (NT.eraseL kids).length = kids.length := by rw [eraseL_map, List.length_map]
  refine .mk Ak ck Av cv' Ac cc (kids.map NT.p) (by rw [hl]; rw [List.length_map] at hb; exact hb) h1 h2 (by omega) hk hv (by rw [hl]; exact hc) (by rw [hl, List.length_map]) ?_
  intro i q s hq hs'
  rw [eraseL_map] at hs'
  rw [List.getElem?_map] at hq hs'
  obtain ⟨k, hk, rfl⟩ := Option.map_eq_some_iff.1 hq
  rw [hk] at hs'
  obtain rfl := Option.some.inj hs'
  refine rd_of_sat n k ?_ (sat_kid hs.tail.tail.tail.tail hk)
  have := List.sizeOf_lt_of_mem (List.mem_of_getElem? hk)
  have h3 : SizeOf.sizeOf (NT.mk p (.slice Ak keys.length ck) (.slice Av vals.length cv') (.slice Ac (kids.map NT.p).length cc) keys vals kids) = 1 + SizeOf.sizeOf p + SizeOf.sizeOf (Value.slice Ak keys.length ck) + SizeOf.sizeOf (Value.slice Av vals.length cv') + SizeOf.sizeOf (Value.slice Ac (kids.map NT.p).length cc) + SizeOf.sizeOf keys + SizeOf.sizeOf vals + SizeOf.sizeOf kids := by simp
  omega
theorem rd_of {T E : Nat} {t : NT} (h : Sat w base (t.cks T E)) : Rd T w t.p t.erase := rd_of_sat _ t (Nat.le_refl _) h
theorem Sat.put {T p : Nat} {cs cs' : Array Value} (h : Sat w base (.box T p cs :: L)) (j : Nat) (u : Value) (e : cs.setIfInBounds j u = cs') : Sat (w.setCell ⟨p, j, none⟩ u) base (.box T p cs' :: L) := by
 have h1 := (h.ok _ List.mem_cons_self)
 refine Sat.frame (A := [.box T p cs]) (A' := [.box T p cs']) (R := L) (w := w) h (Sat.one ⟨h1.1, blk_put h1.2 j u e⟩) ((Kept.refl w _).setCell (.inl ⟨_, List.mem_singleton_self _, rfl⟩) u) ?_
 rintro k ⟨c, hc, hb⟩
 rw [List.mem_singleton.1 hc] at hb
 exact .inl ⟨_, List.mem_singleton_self _, hb⟩
theorem Sat.put3 {T p : Nat} {a0 a1 a2 : Value} (h : Sat w base (.box T p #[a0, a1, a2] :: L)) (x0 x1 x2 : Value) :
  Sat (((w.setCell ⟨p, 0, none⟩ x0).setCell ⟨p, 1, none⟩ x1).setCell ⟨p, 2, none⟩ x2) base (.box T p #[x0, x1, x2] :: L) :=
 ((h.put 0 x0 (cs' := #[x0, a1, a2]) rfl).put 1 x1 (cs' := #[x0, x1, a2]) rfl).put 2 x2 rfl
theorem Sat.newBox {T g : Nat} {cs : Array Value} {W : World} (h : Sat W base L) (hg : g = W.heap.size) (hbox : w1.heap[g]? = some (.cells cs T (0, 0))) (hb : Below W.heap.size W w1) (hbase : base <= W.heap.size) : Sat w1 base (.box T g cs :: L) := by
 refine Sat.add (A := [.box T g cs]) h (Kept.of_below hb _) (Sat.one ⟨by omega, hbox⟩) ?_
 rintro k ⟨c, hc, hb⟩
 rw [List.mem_singleton.1 hc] at hb
 injection hb with hb
 omega
theorem Sat.addNil (h : Sat w base L) (E : Nat) : Sat w base (.que E (.slice none 0 0) [] :: L) := by
 have hq : Ck.ok w base (.que E (.slice none 0 0) []) := pq_ok (ps := []) (Kd.Q_nil _ _ _ _ _)
 refine Sat.add (A := [.que E (.slice none 0 0) []]) h (Kept.refl _ _) (Sat.one hq) ?_
 rintro k ⟨c, hc, hb⟩
 rw [List.mem_singleton.1 hc] at hb
 cases hb
theorem Sat.boxAt (h : Sat w base L) (i : Nat) {T p : Nat} {cs : Array Value} (hi : L[i]? = some (.box T p cs)) : w.heap[p]? = some (.cells cs T (0, 0)) := h.cell (List.mem_of_getElem? hi)
theorem Sat.z (h : Sat w base L) (i : Nat) {T p : Nat} {cs : Array Value} (hi : L[i]? = some (.box T p cs)) (j : Nat) : w.cell? ⟨p, j, none⟩ = cs[j]? := blk_cell (h.boxAt i hi) j
theorem Sat.f (h : Sat w base L) (i : Nat) {T p : Nat} {cs : Array Value} (hi : L[i]? = some (.box T p cs)) (j : Nat) : w.frozen? ⟨p, j, none⟩ = false := blk_frozen (h.boxAt i hi) j
end
open Go.Proofs.Ytoddejmlcnbdmaa.Fn
def badP (p : S110) : Bool := decide (4 < p.f0.length) || p.f1.length != p.f0.length || (p.f2.length != 0 && p.f2.length != p.f0.length + 1)
def readK (rd : Nat -> Option (PT × Nat)) : List Int -> Nat -> List PT -> Option (List PT × Nat)
 | [], next, acc => some (acc, next)
 | k :: ks, next, acc => if k ≠ (next : Int) then none else match rd next with
  | none => none
  | some r => readK rd ks r.2 (acc ++ [r.1])
def fin (p : S110) (o : Option (List PT × Nat)) : Option (PT × Nat) := o.map fun r => (.mk p.f0 p.f1 r.1, r.2)
def readS (P : List S110) : Nat -> Nat -> Option (PT × Nat)
 | 0, _ => none
 | f + 1, at_ => if P.length <= at_ then none else if badP (P.getD at_ z110) then none else fin (P.getD at_ z110) (readK (readS P f) (P.getD at_ z110).f2 (at_ + 1) [])
section
variable {rd : Nat -> Option (PT × Nat)} {p : S110} {l : List Int} {i next : Nat} {acc : List PT} {k : Int} {R : Option (PT × Nat)}
theorem readK_on {t : PT} {n : Nat} (h : R = fin p (readK rd (l.drop i) next acc)) (hk : l[i]? = some k) (e : k = (next : Int)) (hr : rd next = some (t, n)) : R = fin p (readK rd (l.drop (i + 1)) n (acc ++ [t])) := by
 rw [drop_of hk, readK, if_neg (by simp [e]), hr] at h
 exact h
theorem readK_off1 (h : R = fin p (readK rd (l.drop i) next acc)) (hk : l[i]? = some k) (e : k ≠ (next : Int)) : R = none := by
 rw [drop_of hk, readK, if_pos e] at h
 exact h
theorem readK_off2 (h : R = fin p (readK rd (l.drop i) next acc)) (hk : l[i]? = some k) (e : k = (next : Int)) (hr : rd next = none) : R = none := by
 rw [drop_of hk, readK, if_neg (by simp [e]), hr] at h
 exact h
theorem readK_end (h : R = fin p (readK rd (l.drop i) next acc)) (hi : l.length <= i) : R = some (.mk p.f0 p.f1 acc, next) := by
 rw [List.drop_eq_nil_of_le hi, readK] at h
 exact h
end
theorem readS_none1 {P : List S110} {f at_ : Nat} (h : P.length <= at_) : readS P f at_ = none := by
 cases f with
 | zero => rfl
 | succ f => rw [readS, if_pos h]
theorem readS_bad {P : List S110} {f at_ : Nat} (hb : badP (P.getD at_ z110) = true) : readS P (f + 1) at_ = none := by
 rw [readS]
 by_cases h : P.length <= at_
 ·rw [if_pos h]
 ·rw [if_neg h, if_pos hb]
theorem readS_go {P : List S110} {f at_ : Nat} (h : ¬ P.length <= at_) (hb : badP (P.getD at_ z110) = false) : readS P (f + 1) at_ = fin (P.getD at_ z110) (readK (readS P f) ((P.getD at_ z110).f2.drop 0) (at_ + 1) []) := by
 rw [readS, if_neg h, if_neg (by rw [hb]; decide), List.drop_zero]
theorem readK_le {P : List S110} {rd : Nat -> Option (PT × Nat)} (hrd : ∀ at_ t n, rd at_ = some (t, n) -> at_ < n /\ n <= P.length) : ∀ (l : List Int) (next : Nat) (acc : List PT) (ts : List PT) (n : Nat), next <= P.length -> readK rd l next acc = some (ts, n) -> next <= n /\ n <= P.length
 | [], next, acc, ts, n, hl, h => by
  rw [readK] at h
  injection h with h
  injection h with h1 h2
  omega
 | k :: ks, next, acc, ts, n, hl, h => by
  rw [readK] at h
  split at h
  ·cases h
  ·cases hr : rd next with
   | none => rw [hr] at h; cases h
   | some r =>
    rw [hr] at h
    have h1 := hrd next r.1 r.2 hr
    have := readK_le hrd ks r.2 _ ts n h1.2 h
    omega
theorem readS_le {P : List S110} : ∀ (f at_ : Nat) (t : PT) (n : Nat), readS P f at_ = some (t, n) -> at_ < n /\ n <= P.length
 | 0, at_, t, n, h => by cases h
 | f + 1, at_, t, n, h => by
  rw [readS] at h
  split at h
  ·cases h
  ·rename_i hl
   split at h
   ·cases h
   ·unfold fin at h
    obtain ⟨r, hr, e⟩ := Option.map_eq_some_iff.1 h
    injection e with e1 e2
    have := readK_le (P := P) (fun a t n h => readS_le f a t n h) _ _ _ r.1 r.2 (by omega) hr
    omega
open Go.Proofs.Ytoddejmlcnbdmaa.Fn
theorem under94 : Try.prog.underlying 94 = some (.slice 70) := by kernel_rfl
theorem under99 : Try.prog.underlying 99 = some (.slice 74) := by kernel_rfl
theorem info70 : (Try.prog.info? 70).map (fun i => (i.zero, i.size, i.bytes)) = some (some (.pointer none), 1, 8) := by kernel_rfl
theorem info74 : (Try.prog.info? 74).map (fun i => (i.zero, i.size, i.bytes)) = some (some (.pointer none), 1, 8) := by kernel_rfl
theorem ne_t {a b : Nat} (h : a ≠ b) : ((a : Int) != (b : Int)) = true := by rw [bne_iff_ne]; omega
theorem ne_f {a b : Nat} (h : a = b) : ((a : Int) != (b : Int)) = false := by rw [bne_eq_false_iff_eq]; omega
theorem ne0_t {a : Nat} (h : a ≠ 0) : ((a : Int) != 0) = true := by rw [bne_iff_ne]; omega
theorem ne0_f {a : Nat} (h : a = 0) : ((a : Int) != 0) = false := by rw [bne_eq_false_iff_eq]; omega
theorem ne1_t {a b : Nat} (h : a ≠ b + 1) : ((a : Int) != (b : Int) + 1) = true := by rw [bne_iff_ne]; omega
theorem ne1_f {a b : Nat} (h : a = b + 1) : ((a : Int) != (b : Int) + 1) = false := by rw [bne_eq_false_iff_eq]; omega
theorem nen_t {a b : Nat} (h : a ≠ b) : (a != b) = true := by rw [bne_iff_ne]; omega
theorem nen_f {a b : Nat} (h : a = b) : (a != b) = false := by rw [bne_eq_false_iff_eq]; omega
theorem q_form {α : Type} {d : Kd α} {e : Nat} {w : World} {base : Nat} {ok : Nat -> Prop} {v : Value} {xs : List α} (h : d.Q e w base ok v xs) : ∃ A n c, v = .slice A n c := by
 obtain ⟨A, c, rfl, _⟩ := Kd.Q_slice h
 exact ⟨A, _, c, rfl⟩
def LL (T E g : Nat) (v0 v1 cv : Value) (k v : List ByteArray) (X : List Ck) (acc : List NT) : List Ck :=
 .box T g #[v0, v1, cv] :: txt v0 k :: txt v1 v :: .que E cv (ptrs acc) :: (X ++ NT.cksL T E acc)
theorem cksL_snoc (T E : Nat) (acc : List NT) (n : NT) : NT.cksL T E (acc ++ [n]) = NT.cksL T E acc ++ n.cks T E := by
 rw [cksL_append]
 congr 1
 rw [NT.cksL, NT.cksL, List.append_nil]
section
variable {w w1 W : World} {base T E g : Nat} {v0 v1 cv cv' : Value} {k v : List ByteArray} {X L : List Ck} {acc : List NT} {n : NT}
theorem Sat.appQ {x y : List Nat} {u u1 : Value} (i : Nat) (h : Sat W base L) (hi : L[i]? = some (.que E u (encs ptrv x))) (ho : kptr.Q E w1 base (fun _ => True) u1 y) (hg : W.grownBy w1 u.ownBlock) (hat : u1.ownBlock = u.ownBlock ∨ ∃ b, u1.ownBlock = some b /\ W.heap.size <= b) :
  Sat w1 base (L.set i (.que E u1 (encs ptrv y))) := by
 obtain ⟨h1, h2⟩ := set_perm (y := Ck.que E u1 (encs ptrv y)) hi
 have hf : Sat w1 base ([Ck.que E u1 (encs ptrv y)] ++ L.eraseIdx i) := by
  refine Sat.frame (A := [.que E u (encs ptrv x)]) (w := W) (h.perm h1) (Sat.one (pq_ok ho)) ⟨hg.size, fun k hk hnot => hg.block k hk fun he => hnot ⟨_, List.mem_singleton_self _, he.symm⟩⟩ ?_
  rintro k ⟨c, hc, hb⟩
  rw [List.mem_singleton.1 hc] at hb
  have h3 : u1.ownBlock = some k := hb
  rcases hat with h4 | ⟨b, h4, h5⟩
  ·exact .inl ⟨_, List.mem_singleton_self _, by rw [h4] at h3; exact h3⟩
  ·rw [h4] at h3
   injection h3 with h3
   exact .inr (by omega)
 exact hf.perm h2.symm
theorem Sat.behind {A : List Ck} (h : Sat w base L) (hb : Below w.heap.size w w1) (hbase : base <= w.heap.size) (hn : Sat w1 w.heap.size A) : Sat w1 base (L ++ A) :=
 (h.add (Kept.of_below hb _) (hn.lower hbase) fun k hk => hn.ge hk).perm List.perm_append_comm
theorem ll_kid (h : Sat w base (LL T E g v0 v1 cv k v X acc)) (hb : Below w.heap.size w w1) (hbase : base <= w.heap.size) (hn : Sat w1 w.heap.size (n.cks T E)) :
  Sat w1 base (Ck.box T g #[v0, v1, cv] :: txt v0 k :: txt v1 v :: .que E cv (encs ptrv (acc.map NT.p)) :: (X ++ NT.cksL T E (acc ++ [n]))) := by
 have h2 := h.behind hb hbase hn
 have e : LL T E g v0 v1 cv k v X acc ++ n.cks T E = Ck.box T g #[v0, v1, cv] :: txt v0 k :: txt v1 v :: .que E cv (encs ptrv (acc.map NT.p)) :: (X ++ NT.cksL T E (acc ++ [n])) := by
  rw [cksL_snoc, <- ptrs_encs]
  simp only [LL, List.cons_append, List.append_assoc]
 rw [e] at h2
 exact h2
theorem Sat.far (h : Sat w base L) {p : Addr} (hp : p.block < base) (u : Value) : Sat (w.setCell p u) base L := h.move fun k hk _ => Below.heap_setCell w p u k (by have := h.ge hk; omega)
theorem Sat.keptb {S : Nat -> Prop} (h : Sat w base L) (hk : Kept w w1 S) (hS : ∀ k, S k -> k < base) : Sat w1 base L := h.move fun k hb hlt => hk.2 k hlt fun hs => by have := h.ge hb; have := hS k hs; omega
theorem ll_kidK {S : Nat -> Prop} (h : Sat w base (LL T E g v0 v1 cv k v X acc)) (hk : Kept w w1 S) (hS : ∀ k, S k -> k < base) (hbase : base <= w.heap.size) (hn : Sat w1 w.heap.size (n.cks T E)) :
  Sat w1 base (Ck.box T g #[v0, v1, cv] :: txt v0 k :: txt v1 v :: .que E cv (encs ptrv (acc.map NT.p)) :: (X ++ NT.cksL T E (acc ++ [n]))) := by
 have h1 := h.keptb hk hS
 have h2 : Sat w1 base (LL T E g v0 v1 cv k v X acc ++ n.cks T E) := by
  refine ⟨fun c hc => ?_, List.pairwise_append.2 ⟨h1.ap, (hn.lower hbase).ap, fun a ha b hb j e1 e2 => ?_⟩⟩
  ·rcases List.mem_append.1 hc with hc | hc
   ·exact h1.ok c hc
   ·exact (hn.lower hbase).ok c hc
  ·have := h.lt ⟨a, ha, e1⟩
   have := hn.ge ⟨b, hb, e2⟩
   omega
 have e : LL T E g v0 v1 cv k v X acc ++ n.cks T E = Ck.box T g #[v0, v1, cv] :: txt v0 k :: txt v1 v :: .que E cv (encs ptrv (acc.map NT.p)) :: (X ++ NT.cksL T E (acc ++ [n])) := by
  rw [cksL_snoc, <- ptrs_encs]
  simp only [LL, List.cons_append, List.append_assoc]
 rw [e] at h2
 exact h2
theorem ll_app {x : Nat} (h : Sat W base (Ck.box T g #[v0, v1, cv] :: txt v0 k :: txt v1 v :: .que E cv (encs ptrv (acc.map NT.p)) :: (X ++ NT.cksL T E (acc ++ [n])))) (ho : kptr.Q E w1 base (fun _ => True) cv' (acc.map NT.p ++ [n.p])) (hg : W.grownBy w1 cv.ownBlock) (hat : cv'.ownBlock = cv.ownBlock ∨ ∃ b, cv'.ownBlock = some b /\ W.heap.size <= b) :
  Sat w1 base (Ck.box T g #[v0, v1, cv] :: txt v0 k :: txt v1 v :: .que E cv' (ptrs (acc ++ [n])) :: (X ++ NT.cksL T E (acc ++ [n]))) := by
 have h2 := Sat.appQ (E := E) 3 h rfl ho hg hat
 have e : encs ptrv (acc.map NT.p ++ [n.p]) = ptrs (acc ++ [n]) := by rw [ptrs_encs, List.map_append]; rfl
 rw [e] at h2
 exact h2
theorem ll_put (h : Sat w base (Ck.box T g #[v0, v1, cv] :: txt v0 k :: txt v1 v :: .que E cv' (ptrs acc) :: (X ++ NT.cksL T E acc))) : Sat (w.setCell ⟨g, 2, none⟩ cv') base (LL T E g v0 v1 cv' k v X acc) := h.put 2 cv' rfl
theorem ll_end (h : Sat w base (LL T E g v0 v1 cv k v X acc)) : Sat w base ((NT.mk g v0 v1 cv k v acc).cks T E) := by
 rw [NT.cks]
 exact h.sub (((List.sublist_append_right X _).cons_cons _).cons_cons _ |>.cons_cons _ |>.cons_cons _)
theorem ll_begin (h : Sat w base (Ck.box T g #[v0, v1, .slice none 0 0] :: (X ++ [txt v0 k, txt v1 v]))) : Sat w base (LL T E g v0 v1 (.slice none 0 0) k v X []) := by
 refine (h.addNil E).perm ?_
 show List.Perm _ (Ck.box T g #[v0, v1, .slice none 0 0] :: txt v0 k :: txt v1 v :: .que E (.slice none 0 0) [] :: (X ++ []))
 rw [List.append_nil]
 refine (List.Perm.swap _ _ _).trans (.cons _ ?_)
 have e1 : (X ++ [txt v0 k, txt v1 v]).Perm ([txt v0 k, txt v1 v] ++ X) := List.perm_append_comm
 refine (e1.cons _).trans ?_
 exact ((List.Perm.swap _ _ _).trans (.cons _ (.swap _ _ _)))
end
def ReadR (T E : Nat) (w : World) (r : Option (PT × Nat)) (e : Ending) (w' : World) : Prop :=
 Below w.heap.size w w' /\ ((r = none /\ e = .returned (.tuple #[.pointer none, .int .i64 (-1)])) ∨
  ∃ (nt : NT) (n : Nat), r = some (nt.erase, n) /\ e = .returned (.tuple #[ptrv nt.p, .int .i64 (n : Int)]) /\ Sat w' w.heap.size (nt.cks T E))
def NodeR (w0 w : World) (gb : Nat) (gs : Value) (r : Option (PT × Nat)) (e : Ending) (w' : World) : Prop :=
 Below w0.heap.size w0 w' /\ ((r = none /\ e = .returned (.tuple #[.pointer none, .bool false])) ∨
  ∃ (nt : NT) (n : Nat), r = some (nt.erase, n) /\ e = .returned (.tuple #[ptrv nt.p, .bool true]) /\ Sat w' w.heap.size (nt.cks 101 74) /\ Kept w w' (fun k => k = gb) /\ w'.heap[gb]? = some (.cells #[gs, .int .i64 (n : Int)] 121 (0, 0)))
open Go.Proofs.Ytoddejmlcnbdmaa.Fn
set_option maxHeartbeats 8000000
set_option maxRecDepth 100000
theorem bad_parts {p : S110} (h : badP p = false) : p.f0.length <= 4 /\ p.f1.length = p.f0.length /\ (p.f2.length = 0 ∨ p.f2.length = p.f0.length + 1) := by
 unfold badP at h
 simp only [Bool.or_eq_false_iff, Bool.and_eq_false_iff, decide_eq_false_iff_not, bne_eq_false_iff_eq] at h
 omega
theorem spec_l5Read.calls (P : List S110) (hN : P.length <= 1000000000000) : ∀ (f : Nat) (d : Int), d + (f : Int) = 11 -> 0 <= d -> ∀ (a : Nat) (A : Option Addr) (c : Nat) (w : World), Kd.C k110 w A P.length P -> (∀ p ∈ P, p.f0.length <= 1000000000000 /\ p.f1.length <= 1000000000000 /\ p.f2.length <= 1000000000000) -> a <= P.length ->
  Calls Try.prog 95 #[.agg #[.slice A P.length c], .int .i64 (a : Int), .int .i64 d] w (ReadR 96 70 w (readS P f a)) := by
 intro f
 induction f with
 | zero =>
  intro d hd hd0 a A c w hp hm ha
  obtain rfl : d = 11 := by omega
  have HB := A_ (Below.refl w.heap.size w)
  have HS := A_ (Sat.nil w w.heap.size)
  clear hp
  by_cases h1 : P.length <= a
  ·have c1b : decide ((P.length : Int) <= (a : Int)) = true := decide_eq_true (by omega)
   have c1c : (P.length <= a) = True := eq_true h1
   clear h1 ha hm hd
   go_enter Try.func95, Try.ntmps95
   go_wp2_with ((with_reducible refine gate_dst (N := 3) rfl ?_); refine box_event ?hg (N := 3) ?hd (cs := #[.slice A P.length c]) (t := 29) ?hr ?_; (case hd => rfl); (case hg => rfl); (case hr => first | (go_simp; done) | (go_simp; rfl)); intro b3 hg w1 hbox hb; have n1_ := A_ (Sat.newBox HS.out hg hbox hb HB.out.size); have hb' := below_step HB.out hb; have n2_ := A_ hb'; clear HS; clear HB; have HS := n1_; have HB := n2_; clear n1_ n2_; have hz3 := HS.out.z 0 rfl 0; clear hg hbox hb hb')
   go_ret2
   exact ⟨HB.out, .inl ⟨rfl, rfl⟩⟩
  ·have c1b : decide ((P.length : Int) <= (a : Int)) = false := decide_eq_false (by omega)
   have c1c : (P.length <= a) = False := eq_false h1
   clear h1 ha hm hd
   go_enter Try.func95, Try.ntmps95
   go_wp2_with ((with_reducible refine gate_dst (N := 3) rfl ?_); refine box_event ?hg (N := 3) ?hd (cs := #[.slice A P.length c]) (t := 29) ?hr ?_; (case hd => rfl); (case hg => rfl); (case hr => first | (go_simp; done) | (go_simp; rfl)); intro b3 hg w1 hbox hb; have n1_ := A_ (Sat.newBox HS.out hg hbox hb HB.out.size); have hb' := below_step HB.out hb; have n2_ := A_ hb'; clear HS; clear HB; have HS := n1_; have HB := n2_; clear n1_ n2_; have hz3 := HS.out.z 0 rfl 0; clear hg hbox hb hb')
   go_ret2
   exact ⟨HB.out, .inl ⟨rfl, rfl⟩⟩
 | succ f ih =>
  intro d hd hd0 a A c w hp hm ha
  have HB := A_ (Below.refl w.heap.size w)
  have HS := A_ (Sat.nil w w.heap.size)
  by_cases h1 : P.length <= a
  ·have c1b : decide ((P.length : Int) <= (a : Int)) = true := decide_eq_true (by omega)
   have c1c : (P.length <= a) = True := eq_true h1
   have HR := A_ (readS_none1 (f := f + 1) h1)
   clear h1 ha hm hd hp
   go_enter Try.func95, Try.ntmps95
   go_wp2_with ((with_reducible refine gate_dst (N := 3) rfl ?_); refine box_event ?hg (N := 3) ?hd (cs := #[.slice A P.length c]) (t := 29) ?hr ?_; (case hd => rfl); (case hg => rfl); (case hr => first | (go_simp; done) | (go_simp; rfl)); intro b3 hg w1 hbox hb; have n1_ := A_ (Sat.newBox HS.out hg hbox hb HB.out.size); have hb' := below_step HB.out hb; have n2_ := A_ hb'; clear HS; clear HB; have HS := n1_; have HB := n2_; clear n1_ n2_; have hz3 := HS.out.z 0 rfl 0; clear hg hbox hb hb')
   go_ret2
   exact ⟨HB.out, .inl ⟨HR.out, rfl⟩⟩
  ·have c1b : decide ((P.length : Int) <= (a : Int)) = false := decide_eq_false (by omega)
   have c1c : (P.length <= a) = False := eq_false h1
   have c1e : (a < P.length) = True := eq_true (by omega)
   have c2b : decide (10 < d) = false := decide_eq_false (by omega)
   have hdl : d <= 10 := by omega
   have HD := A_ hd
   have HA := A_ h1
   have HP := A_ hp
   have HM := A_ hm
   have hal : a < P.length := by omega
   have hNl : P.length <= 1000000000000 := hN
   have HSM0 := hm _ (List.getElem_mem (l := P) hal)
   have hpg : P[a] = rd_T110 P (a : Int) := by unfold rd_T110; rw [Int.toNat_natCast, List.getD_eq_getElem?_getD, List.getElem?_eq_getElem hal]; rfl
   have hpg2 : P.getD a z110 = rd_T110 P (a : Int) := by unfold rd_T110; rw [Int.toNat_natCast]
   rw [hpg] at HSM0
   obtain ⟨ad, A0, c0, A1, c1, A2, c2, hAA, hx0, hx1, hx2, hl0, hf0, hl1, hf1, hl2, hf2⟩ := at_T110 hp (a : Int) (by omega) (by omega)
   subst hAA
   obtain ⟨R, hR⟩ : ∃ R, R = readS P (f + 1) a := ⟨_, rfl⟩
   have hgo : badP (P.getD a z110) = false -> R = fin (P.getD a z110) (readK (readS P f) ((P.getD a z110).f2.drop 0) (a + 1) []) := fun hb => hR.trans (readS_go (P := P) (f := f) h1 hb)
   have hbad : badP (P.getD a z110) = true -> R = none := fun hb => hR.trans (readS_bad (P := P) (f := f) (at_ := a) hb)
   rw [hpg2] at hgo hbad
   rw [<- hR]
   rw [Int.toNat_natCast] at hx0 hx1 hx2
   generalize rd_T110 P (a : Int) = pg at *
   have HX0 := A_ hx0
   have HX1 := A_ hx1
   have HX2 := A_ hx2
   have HF0 := A_ hf0
   have HF1 := A_ hf1
   have HF2 := A_ hf2
   have HSM := A_ HSM0
   have HGO := A_ hgo
   have HBAD := A_ hbad
   clear h1 ha hm hd hp hl0 hf0 hl1 hf1 hl2 hf2 hx0 hx1 hx2 HSM0 hgo hbad hpg hpg2 hal hR
   go_enter Try.func95, Try.ntmps95
   go_upto_region 4 with (first | ((with_reducible refine gate_dst (N := 3) rfl ?_); refine box_event ?hg (N := 3) ?hd (cs := #[.slice (some ad) P.length c]) (t := 29) ?hr ?_; (case hd => rfl); (case hg => rfl); (case hr => first | (go_simp; done) | (go_simp; rfl)); intro b3 hg w1 hbox hb; have n1_ := A_ (Sat.newBox HS.out hg hbox hb HB.out.size); have hb' := below_step HB.out hb; have n2_ := A_ hb'; clear HS; clear HB; have HS := n1_; have HB := n2_; clear n1_ n2_; have hx0 := (Below.cell hb' (World.block_lt_of_cell? w _ HX0.out)).trans HX0.out; have hx1 := (Below.cell hb' (World.block_lt_of_cell? w _ HX1.out)).trans HX1.out; have hx2 := (Below.cell hb' (World.block_lt_of_cell? w _ HX2.out)).trans HX2.out; have hz3 := HS.out.z 0 rfl 0; clear hg hbox hb hb') | ((with_reducible refine gate_dst (N := 8) rfl ?_); refine box_event ?hg (N := 8) ?hd (cs := #[.slice none 0 0, .slice none 0 0, .slice none 0 0]) (t := 110) ?hr ?_; (case hd => rfl); (case hg => rfl); (case hr => first | (go_simp; done) | (go_simp; rfl)); intro b8 hg w2 hbox hb; have n1_ := A_ (Sat.newBox HS.out hg hbox hb HB.out.size); have hb' := below_step HB.out hb; have n2_ := A_ hb'; clear HS; clear HB; have HS := n1_; have HB := n2_; clear n1_ n2_; have hz80 := HS.out.z 0 rfl 0; have hz81 := HS.out.z 0 rfl 1; have hz82 := HS.out.z 0 rfl 2; have hf80 := HS.out.f 0 rfl 0; have hf81 := HS.out.f 0 rfl 1; have hf82 := HS.out.f 0 rfl 2; clear hg hbox hb hb'))
   have n1_ := A_ (Sat.put3 HS.out (.slice A0 pg.f0.length c0) (.slice A1 pg.f1.length c1) (.slice A2 pg.f2.length c2))
   have n2_ : Aside0 (Below w.heap.size w (((w2.setCell ⟨b8, 0, none⟩ (.slice A0 pg.f0.length c0)).setCell ⟨b8, 1, none⟩ (.slice A1 pg.f1.length c1)).setCell ⟨b8, 2, none⟩ (.slice A2 pg.f2.length c2))) := ⟨((HB.out.setCell (p := ⟨b8, 0, none⟩) (HS.out.ge ⟨_, List.mem_cons_self, rfl⟩) _).setCell (p := ⟨b8, 1, none⟩) (HS.out.ge ⟨_, List.mem_cons_self, rfl⟩) _).setCell (p := ⟨b8, 2, none⟩) (HS.out.ge ⟨_, List.mem_cons_self, rfl⟩) _⟩
   clear HS HB hx0 hx1 hx2 hz3 hz80 hz81 hz82 hf80 hf81 hf82
   generalize ((w2.setCell ⟨b8, 0, none⟩ (.slice A0 pg.f0.length c0)).setCell ⟨b8, 1, none⟩ (.slice A1 pg.f1.length c1)).setCell ⟨b8, 2, none⟩ (.slice A2 pg.f2.length c2) = w3 at *
   have HS := A_ (n1_.out.perm (List.Perm.swap _ _ _))
   have HB := n2_
   clear n1_ n2_
   refine start_ (n := 11) (S := fun w' => w'.cell? ⟨b8, 0, none⟩ = some (.slice A0 pg.f0.length c0) /\ w'.cell? ⟨b8, 1, none⟩ = some (.slice A1 pg.f1.length c1)) (ds := []) (bt 11 0) (by kernel_rfl) rfl rfl ⟨(blk_cell (Sat.cell (Sat.drew HS.out) (List.mem_of_getElem? (i := 1) rfl)) 0).trans rfl, (blk_cell (Sat.cell (Sat.drew HS.out) (List.mem_of_getElem? (i := 1) rfl)) 1).trans rfl⟩ (fun hHeld => ?_)
   refine pu_ 1 30 2 ?_
   refine pu_ 5 34 34 ?_
   refine ta_ 2 31 38 hHeld ?_
   refine ta_ 6 35 102 hHeld ?_
   refine join_ (σ := Value × Value × Value) 4 (bt 11 127) (fun z => [(29, z.1), (32, z.2.1), (33, z.2.2)]) (fun z w' => Below w.heap.size w w' /\ Sat w' w.heap.size [.box 29 b3 #[.slice (some ad) P.length c], .box 110 b8 #[.slice A0 pg.f0.length c0, .slice A1 pg.f1.length c1, .slice A2 pg.f2.length c2], txt z.2.1 pg.f0, txt z.2.2 []]) ?_ ?_
   rotate_left
   ·intro hCont
    refine tw_ 0 4 (some 29) (some 33) 103 118 (fun K hK => ?_) (fun K hK => ?_)
    ·skip
     refine Kd.R_lit_step Kd.string (w0 := w) w.heap.size 9 (by rfl) (N := 29) rfl (xs := []) (inner := []) (ok := fun _ => True) (okp := fun _ => False) ?hr (Reps.none _ _) (fun _ h => h.elim) trivial (below_drew HB.out) ((below_drew HB.out)).size (by simp) ?_
     (case hr => first | (go_simp; done) | (go_simp; rfl))
     intro e0 w_0 hob hbb hgb hnb
     have HB_0 := A_ hbb
     have HS_0 := A_ (Sat.lit (Sat.drew HS.out) hob hgb hnb)
     clear hob hbb hgb hnb
     refine hK.out _ _ ⟨(blk_cell (Sat.cell HS_0.out (List.mem_of_getElem? (i := 1) rfl)) 0).trans rfl, (blk_cell (Sat.cell HS_0.out (List.mem_of_getElem? (i := 1) rfl)) 1).trans rfl⟩ (fun hHeld => ?_)
     clear hK K
     refine no_ 29 ?_
     refine tw_ 3 4 (some 32) (some 33) 111 119 (fun K hK => ?_) (fun K hK => ?_)
     ·skip
      refine Kd.R_append_rows_step Kd.string (w0 := w) w.heap.size (by rfl) (.tmp 29) (.tmp 31) 38 9 (.string ⟨#[]⟩) 16 rfl Try.underlying38 info9 rfl (by decide) (by omega) e0 [] pg.f0 A0 pg.f0.length c0 (fun _ => True) (fun _ => False) rfl rfl (Sat.sr HS_0.out 2 rfl) (Kd.C_below HF0.out HB_0.out) (fun _ _ h => h) (fun _ h => h.elim) (fun _ _ => trivial) HB_0.out (HB_0.out).size (by have := HSM.out; simp only [List.length_nil]; omega) ?_
      intro v0 w_0_3 ho hb hg hat
      rw [List.nil_append] at ho
      have HB_0_3 := A_ hb
      have HS_0_3 := A_ (Sat.app 2 HS_0.out rfl ho hg hat)
      clear ho hb hg hat
      refine hK.out _ _ ⟨(blk_cell (Sat.cell HS_0_3.out (List.mem_of_getElem? (i := 1) rfl)) 0).trans rfl, (blk_cell (Sat.cell HS_0_3.out (List.mem_of_getElem? (i := 1) rfl)) 1).trans rfl⟩ (fun hHeld => ?_)
      clear hK K
      refine no_ 32 ?_
      refine on_ 4 (some 33) 127 (fun K hK => ?_)
      refine Kd.R_lit_step Kd.string (w0 := w) w.heap.size 9 (by rfl) (N := 33) rfl (xs := []) (inner := []) (ok := fun _ => True) (okp := fun _ => False) ?hr (Reps.none _ _) (fun _ h => h.elim) trivial HB_0_3.out (HB_0_3.out).size (by simp) ?_
      (case hr => first | (go_simp; done) | (go_simp; rfl))
      intro e1 w_0_3_4 hob hbb hgb hnb
      have HB_0_3_4 := A_ hbb
      have HS_0_3_4 := A_ (Sat.lit HS_0_3.out hob hgb hnb)
      clear hob hbb hgb hnb
      refine hK.out _ _ ⟨(blk_cell (Sat.cell HS_0_3_4.out (List.mem_of_getElem? (i := 1) rfl)) 0).trans rfl, (blk_cell (Sat.cell HS_0_3_4.out (List.mem_of_getElem? (i := 1) rfl)) 1).trans rfl⟩ (fun hHeld => ?_)
      clear hK K
      refine no_ 33 ?_
      exact norm_ (by simp only [putAll, Act.put, List.setIfInBounds_toArray, List.set_cons_zero, List.set_cons_succ]) (hCont ⟨e0, v0, e1⟩ _ ⟨HB_0_3_4.out, HS_0_3_4.out⟩)
     ·skip
      refine Kd.R_lit_step Kd.string (w0 := w) w.heap.size 9 (by rfl) (N := 33) rfl (xs := []) (inner := []) (ok := fun _ => True) (okp := fun _ => False) ?hr (Reps.none _ _) (fun _ h => h.elim) trivial HB_0.out (HB_0.out).size (by simp) ?_
      (case hr => first | (go_simp; done) | (go_simp; rfl))
      intro e1 w_0_4 hob hbb hgb hnb
      have HB_0_4 := A_ hbb
      have HS_0_4 := A_ (Sat.lit HS_0.out hob hgb hnb)
      clear hob hbb hgb hnb
      refine hK.out _ _ ⟨(blk_cell (Sat.cell HS_0_4.out (List.mem_of_getElem? (i := 1) rfl)) 0).trans rfl, (blk_cell (Sat.cell HS_0_4.out (List.mem_of_getElem? (i := 1) rfl)) 1).trans rfl⟩ (fun hHeld => ?_)
      clear hK K
      refine no_ 33 ?_
      refine on_ 3 (some 32) 127 (fun K hK => ?_)
      refine Kd.R_append_rows_step Kd.string (w0 := w) w.heap.size (by rfl) (.tmp 29) (.tmp 31) 38 9 (.string ⟨#[]⟩) 16 rfl Try.underlying38 info9 rfl (by decide) (by omega) e0 [] pg.f0 A0 pg.f0.length c0 (fun _ => True) (fun _ => False) rfl rfl (Sat.sr HS_0_4.out 2 rfl) (Kd.C_below HF0.out HB_0_4.out) (fun _ _ h => h) (fun _ h => h.elim) (fun _ _ => trivial) HB_0_4.out (HB_0_4.out).size (by have := HSM.out; simp only [List.length_nil]; omega) ?_
      intro v0 w_0_4_3 ho hb hg hat
      rw [List.nil_append] at ho
      have HB_0_4_3 := A_ hb
      have HS_0_4_3 := A_ (Sat.app 2 HS_0_4.out rfl ho hg hat)
      clear ho hb hg hat
      refine hK.out _ _ ⟨(blk_cell (Sat.cell HS_0_4_3.out (List.mem_of_getElem? (i := 1) rfl)) 0).trans rfl, (blk_cell (Sat.cell HS_0_4_3.out (List.mem_of_getElem? (i := 1) rfl)) 1).trans rfl⟩ (fun hHeld => ?_)
      clear hK K
      refine no_ 32 ?_
      exact norm_ (by simp only [putAll, Act.put, List.setIfInBounds_toArray, List.set_cons_zero, List.set_cons_succ]) (hCont ⟨e0, v0, e1⟩ _ ⟨HB_0_4_3.out, HS_0_4_3.out⟩)
    ·skip
     refine Kd.R_lit_step Kd.string (w0 := w) w.heap.size 9 (by rfl) (N := 33) rfl (xs := []) (inner := []) (ok := fun _ => True) (okp := fun _ => False) ?hr (Reps.none _ _) (fun _ h => h.elim) trivial (below_drew HB.out) ((below_drew HB.out)).size (by simp) ?_
     (case hr => first | (go_simp; done) | (go_simp; rfl))
     intro e1 w_4 hob hbb hgb hnb
     have HB_4 := A_ hbb
     have HS_4 := A_ (Sat.lit (Sat.drew HS.out) hob hgb hnb)
     clear hob hbb hgb hnb
     refine hK.out _ _ ⟨(blk_cell (Sat.cell HS_4.out (List.mem_of_getElem? (i := 1) rfl)) 0).trans rfl, (blk_cell (Sat.cell HS_4.out (List.mem_of_getElem? (i := 1) rfl)) 1).trans rfl⟩ (fun hHeld => ?_)
     clear hK K
     refine no_ 33 ?_
     refine on_ 0 (some 29) 119 (fun K hK => ?_)
     refine Kd.R_lit_step Kd.string (w0 := w) w.heap.size 9 (by rfl) (N := 29) rfl (xs := []) (inner := []) (ok := fun _ => True) (okp := fun _ => False) ?hr (Reps.none _ _) (fun _ h => h.elim) trivial HB_4.out (HB_4.out).size (by simp) ?_
     (case hr => first | (go_simp; done) | (go_simp; rfl))
     intro e0 w_4_0 hob hbb hgb hnb
     have HB_4_0 := A_ hbb
     have HS_4_0 := A_ (Sat.lit HS_4.out hob hgb hnb)
     clear hob hbb hgb hnb
     refine hK.out _ _ ⟨(blk_cell (Sat.cell HS_4_0.out (List.mem_of_getElem? (i := 1) rfl)) 0).trans rfl, (blk_cell (Sat.cell HS_4_0.out (List.mem_of_getElem? (i := 1) rfl)) 1).trans rfl⟩ (fun hHeld => ?_)
     clear hK K
     refine no_ 29 ?_
     refine on_ 3 (some 32) 127 (fun K hK => ?_)
     refine Kd.R_append_rows_step Kd.string (w0 := w) w.heap.size (by rfl) (.tmp 29) (.tmp 31) 38 9 (.string ⟨#[]⟩) 16 rfl Try.underlying38 info9 rfl (by decide) (by omega) e0 [] pg.f0 A0 pg.f0.length c0 (fun _ => True) (fun _ => False) rfl rfl (Sat.sr HS_4_0.out 3 rfl) (Kd.C_below HF0.out HB_4_0.out) (fun _ _ h => h) (fun _ h => h.elim) (fun _ _ => trivial) HB_4_0.out (HB_4_0.out).size (by have := HSM.out; simp only [List.length_nil]; omega) ?_
     intro v0 w_4_0_3 ho hb hg hat
     rw [List.nil_append] at ho
     have HB_4_0_3 := A_ hb
     have HS_4_0_3 := A_ (Sat.app 3 HS_4_0.out rfl ho hg hat)
     clear ho hb hg hat
     refine hK.out _ _ ⟨(blk_cell (Sat.cell HS_4_0_3.out (List.mem_of_getElem? (i := 1) rfl)) 0).trans rfl, (blk_cell (Sat.cell HS_4_0_3.out (List.mem_of_getElem? (i := 1) rfl)) 1).trans rfl⟩ (fun hHeld => ?_)
     clear hK K
     refine no_ 32 ?_
     exact norm_ (by simp only [putAll, Act.put, List.setIfInBounds_toArray, List.set_cons_zero, List.set_cons_succ]) (hCont ⟨e0, v0, e1⟩ _ ⟨HB_4_0_3.out, Sat.perm HS_4_0_3.out (((List.Perm.swap _ _ _).cons _).cons _)⟩)
   rintro ⟨e0, v0, e1⟩ w5 ⟨hb, hs⟩
   obtain ⟨Av0, cv0, rfl⟩ := Kd.R_slice (Sat.sr hs 2 rfl)
   have hHeld : (w5.cell? ⟨b8, 0, none⟩ = some (.slice A0 pg.f0.length c0)) /\ (w5.cell? ⟨b8, 1, none⟩ = some (.slice A1 pg.f1.length c1)) := ⟨(blk_cell (Sat.cell hs (List.mem_of_getElem? (i := 1) rfl)) 0).trans rfl, (blk_cell (Sat.cell hs (List.mem_of_getElem? (i := 1) rfl)) 1).trans rfl⟩
   have HB5 := A_ hb
   have HS5 := A_ hs
   clear hb hs
   refine norm_ (a' := ?_) ?_ ?_
   rotate_left
   ·simp only [putAll, Act.put, List.setIfInBounds_toArray, List.set_cons_zero, List.set_cons_succ]
    rfl
   refine on_ 7 (some 36) 255 (fun K hK => ?_)
   refine Kd.R_append_rows_step Kd.string (w0 := w) w.heap.size (by rfl) (.tmp 33) (.tmp 35) 38 9 (.string ⟨#[]⟩) 16 rfl Try.underlying38 info9 rfl (by decide) (by omega) e1 [] pg.f1 A1 pg.f1.length c1 (fun _ => True) (fun _ => False) rfl rfl (Sat.sr HS5.out 3 rfl) (Kd.C_below HF1.out HB5.out) (fun _ _ h => h) (fun _ h => h.elim) (fun _ _ => trivial) HB5.out HB5.out.size (by have := HSM.out; simp only [List.length_nil]; omega) ?_
   intro v1 w6 ho hb hg hat
   rw [List.nil_append] at ho
   obtain ⟨Av1, cv1, rfl⟩ := Kd.R_slice ho
   have n1_ := A_ hb
   have n2_ := A_ (Sat.app 3 HS5.out rfl ho hg hat)
   clear ho hb hg hat HB5 HS5
   have HB5 := n1_
   have HS5 := n2_
   clear n1_ n2_
   refine hK.out _ _ ⟨(blk_cell (Sat.cell HS5.out (List.mem_of_getElem? (i := 1) rfl)) 0).trans rfl, (blk_cell (Sat.cell HS5.out (List.mem_of_getElem? (i := 1) rfl)) 1).trans rfl⟩ (fun hHeld => ?_)
   clear hK K
   refine no_ 36 ?_
   refine pu_ 8 37 511 ?_
   refine on_ 9 (some 38) 1023 (fun K hK => ?_)
   refine box_step (by rfl) (N := 38) rfl (cs := #[.slice Av0 pg.f0.length cv0, .slice Av1 pg.f1.length cv1, .slice none 0 0]) (t := 96) ?hr ?_
   (case hr => first | (go_simp; done) | (go_simp; rfl))
   intro g hg w7 hbox hb
   have HS7 := A_ (Sat.newBox HS5.out hg hbox hb (by have := HB5.out.size; omega))
   have HB7 := A_ (below_step HB5.out hb)
   clear hg hbox hb HS5 HB5
   refine hK.out _ _ ⟨(blk_cell (Sat.cell HS7.out (List.mem_of_getElem? (i := 2) rfl)) 0).trans rfl, (blk_cell (Sat.cell HS7.out (List.mem_of_getElem? (i := 2) rfl)) 1).trans rfl⟩ (fun hHeld => ?_)
   clear hK K
   refine no_ 38 ?_
   refine pu_ 10 9 2047 ?_
   refine done_ (by kernel_rfl) ?_
   have HS := A_ (ll_begin (E := 70) (X := [.box 29 b3 #[.slice (some ad) P.length c], .box 110 b8 #[.slice A0 pg.f0.length c0, .slice A1 pg.f1.length c1, .slice A2 pg.f2.length c2]]) HS7.out)
   have HB := HB7
   clear HS7 HB7 hHeld
   have hz3 := HS.out.z 4 rfl 0
   have hz80 := HS.out.z 5 rfl 0
   have hz81 := HS.out.z 5 rfl 1
   have hz82 := HS.out.z 5 rfl 2
   cases hbd : badP pg with
   | true =>
    have HR := A_ (HBAD.out hbd)
    have hb1 : 4 < pg.f0.length ∨ pg.f1.length ≠ pg.f0.length ∨ (pg.f2.length ≠ 0 /\ pg.f2.length ≠ pg.f0.length + 1) := by
     unfold badP at hbd
     simp only [Bool.or_eq_true, Bool.and_eq_true, decide_eq_true_eq, bne_iff_ne] at hbd
     omega
    by_cases q1 : 4 < pg.f0.length
    ·have t1 : decide (4 < (pg.f0.length : Int)) = true := decide_eq_true (by omega)
     have t1b : (4 < pg.f0.length) = True := eq_true q1
     clear q1 hb1 hbd
     go_wp2
     go_ret2
     exact ⟨HB.out, .inl ⟨HR.out, rfl⟩⟩
    ·have t1 : decide (4 < (pg.f0.length : Int)) = false := decide_eq_false (by omega)
     have t1b : (4 < pg.f0.length) = False := eq_false q1
     by_cases q2 : pg.f1.length = pg.f0.length
     ·have q3 : pg.f2.length ≠ 0 /\ pg.f2.length ≠ pg.f0.length + 1 := by omega
      have t2 : ((pg.f1.length : Int) != (pg.f0.length : Int)) = false := ne_f (by omega)
      have t3 : ((pg.f2.length : Int) != 0) = true := ne0_t (by omega)
      have t4 : ((pg.f2.length : Int) != (pg.f0.length : Int) + 1) = true := ne1_t (by omega)
      have t2b : (pg.f1.length != pg.f0.length) = false := nen_f (by omega)
      have t3b : (pg.f2.length != 0) = true := nen_t (by omega)
      have t4b : (pg.f2.length != pg.f0.length + 1) = true := nen_t (by omega)
      have m0 : pg.f0.length <= 4 := by omega
      clear q1 q2 q3 hb1 hbd
      go_wp2
      go_ret2
      exact ⟨HB.out, .inl ⟨HR.out, rfl⟩⟩
     ·have t2 : ((pg.f1.length : Int) != (pg.f0.length : Int)) = true := ne_t (by omega)
      have t2b : (pg.f1.length != pg.f0.length) = true := nen_t (by omega)
      clear q1 q2 hb1 hbd
      go_wp2
      go_ret2
      exact ⟨HB.out, .inl ⟨HR.out, rfl⟩⟩
   | false =>
    obtain ⟨q1, q2, q3⟩ := bad_parts hbd
    have HR := A_ (HGO.out hbd)
    have t1 : decide (4 < (pg.f0.length : Int)) = false := decide_eq_false (by omega)
    have t1b : (4 < pg.f0.length) = False := eq_false (by omega)
    have t2 : ((pg.f1.length : Int) != (pg.f0.length : Int)) = false := ne_f (by omega)
    have t2b : (pg.f1.length != pg.f0.length) = false := nen_f (by omega)
    have m0 : pg.f0.length <= 4 := by omega
    have HAL := A_ (show a + 1 <= P.length by have := HA.out; omega)
    have ham : a < 1000000000000 := by have := HA.out; omega
    have HM2 := A_ (show pg.f2.length <= 5 by omega)
    by_cases q4 : pg.f2.length = 0
    ·have t3 : ((pg.f2.length : Int) != 0) = false := ne0_f (by omega)
     have t3b : (pg.f2.length != 0) = false := nen_f (by omega)
     clear q1 q2 q3 q4 hbd
     go_upto_region 9 with fail
     go_loopg [10, 73] pg.f2.length (fun kq u10 u73 w' => ∃ (i next : Nat) (acc : List NT) (cv : Value), u10 = .int .i64 (next : Int) /\ u73 = .int .i64 (i : Int) /\ Aside0 (kq + i = pg.f2.length) /\ Aside0 (acc.length = i) /\ Aside0 (R = fin pg (readK (readS P f) (pg.f2.drop i) next (acc.map NT.erase))) /\ Aside0 (next <= P.length) /\ Aside0 (Sat w' w.heap.size (LL 96 70 g (.slice Av0 pg.f0.length cv0) (.slice Av1 pg.f1.length cv1) cv pg.f0 pg.f1 [.box 29 b3 #[.slice (some ad) P.length c], .box 110 b8 #[.slice A0 pg.f0.length c0, .slice A1 pg.f1.length c1, .slice A2 pg.f2.length c2]] acc)) /\ Aside0 (Below w.heap.size w w'))
     case atStart => exact ⟨0, a + 1, [], .slice none 0 0, by first | rfl | go_num | (simp; done), by first | rfl | (simp; done), ⟨Nat.add_zero _⟩, ⟨rfl⟩, HR, HAL, HS, HB⟩
     case round =>
      clear HR HS HB hz3 hz80 hz81 hz82 HAL
      obtain ⟨i, next, acc, cv, rfl, rfl, HK, HAC, HR, HNX, HS, HB⟩ := hrel
      have hz3 := HS.out.z 4 rfl 0
      have ci : (0 <= (i : Int)) = True := eq_true (by omega)
      by_cases hi : i < pg.f2.length
      ·have ce : decide ((i : Int) < (pg.f2.length : Int)) = true := decide_eq_true (by omega)
       have ceb : (i < pg.f2.length) = True := eq_true hi
       have hi5 : i <= 5 := by have := HM2.out; omega
       have HI5 := A_ hi5
       have HI := A_ hi
       have hnx : next <= 1000000000000 := Nat.le_trans HNX.out hNl
       obtain ⟨ad2, hA2, hk0⟩ := Kd.at_int HF2.out (i : Int) (by omega) (by omega)
       subst hA2
       rw [Int.toNat_natCast] at hk0
       have hks : pg.f2[i]? = some (rd pg.f2 (i : Int)) := by unfold rd; rw [Int.toNat_natCast, List.getD_eq_getElem?_getD, List.getElem?_eq_getElem hi]; rfl
       generalize rd pg.f2 (i : Int) = k at hk0 hks
       have hkz := (Below.cell HB.out (World.block_lt_of_cell? w _ hk0)).trans hk0
       have HKS := A_ hks
       clear hk0 hks hi
       by_cases hkn : k = (next : Int)
       ·subst hkn
        cases hrs : readS P f next with
        | none =>
         have HRS := A_ hrs
         have HE := A_ (readK_off2 HR.out HKS.out rfl hrs)
         have tm : decide ((-1 : Int) < 0) = true := by decide
         clear hrs
         go_wp2_with (go_at_call 95; (with_reducible refine (ih (d + 1) (by have := HD.out; omega) (by omega) next (some ad) c _ (Kd.C_below HP.out HB.out) HM.out HNX.out).mono ?_); rintro e w5 ⟨hb, hr⟩; rw [HRS.out] at hr; obtain ⟨-, rfl⟩ := hr.resolve_right (by rintro ⟨_, _, h, _⟩; cases h); have n2_ := A_ (below_step HB.out hb); clear HB; have HB := n2_; clear n2_ hb hr)
         go_ret2
         exact ⟨HB.out, .inl ⟨HE.out, rfl⟩⟩
        | some tn =>
         obtain ⟨t, n⟩ := tn
         have HRS := A_ hrs
         have HLE := A_ (readS_le f next t n hrs)
         have HE := A_ (readK_on HR.out HKS.out rfl hrs)
         have tn0 : decide ((n : Int) < 0) = false := decide_eq_false (by omega)
         clear hrs
         go_wp2_with (first | (go_at_call 95; (with_reducible refine (ih (d + 1) (by have := HD.out; omega) (by omega) next (some ad) c _ (Kd.C_below HP.out HB.out) HM.out HNX.out).mono ?_); rintro e w5 ⟨hb, hr⟩; rw [HRS.out] at hr; obtain ⟨nt, n9, h9, rfl, hs⟩ := hr.resolve_left (by rintro ⟨h, _⟩; cases h); injection h9 with h9; injection h9 with h9 h8; subst h9; subst h8; have n1_ := A_ (ll_kid HS.out hb HB.out.size hs); have n2_ := A_ (below_step HB.out hb); clear HS; clear HB; have HS := n1_; have HB := n2_; clear n1_ n2_; have hz9 := HS.out.z 0 rfl 2; clear hb hr hs) | ((with_reducible refine gate_builtin (b := .append) (xs := #[.tmp 94, .tmp 96]) rfl ?_); at_builtin; refine Kd.Q_append kptr (w0 := w) w.heap.size rfl (.tmp 94) (.tmp 96) 94 70 (.pointer none) 8 rfl under94 info70 rfl (by decide) (by omega) cv (acc.map NT.p) nt.p [ptrv nt.p] (fun _ => True) (fun _ => False) rfl rfl ?aP (fun _ h => h.elim) ?aF ?aO ?aB ?aS ?aL ?_; (case aP => exact rfl); (case aB => exact HB.out); (case aF => exact fun _ _ => trivial); (case aO => exact ok_pq (HS.out.ok _ (List.mem_of_getElem? (i := 3) rfl))); (case aS => exact HB.out.size); (case aL => rw [List.length_map]; have := HAC.out; have := HI5.out; omega); intro cv' w6 ho hb hg hat; obtain ⟨Aq, nq, cq, rfl⟩ := q_form ho; have n1_ := A_ (ll_app (x := 0) HS.out ho hg hat); have n2_ := A_ hb; clear HS; clear HB; have HS := n1_; have HB := n2_; clear n1_ n2_; have hz9b := HS.out.z 0 rfl 2; have hf9b := HS.out.f 0 rfl 2; clear ho hb hg hat))
         go_roundg (pg.f2.length - (i + 1))
         case measure => have := HK.out; have := HI.out; omega
         case rel => exact ⟨i + 1, n, acc ++ [nt], .slice Aq nq cq, by first | rfl | go_num | (simp; done), by first | rfl | go_num | (simp; done), ⟨by have := HK.out; have := HI.out; omega⟩, ⟨by rw [List.length_append, HAC.out]; rfl⟩, ⟨by rw [List.map_append]; exact HE.out⟩, ⟨HLE.out.2⟩, ⟨ll_put HS.out⟩, ⟨HB.out.setCell (p := ⟨g, 2, none⟩) (HS.out.ge ⟨_, List.mem_cons_self, rfl⟩) _⟩⟩
       ·have HE := A_ (readK_off1 HR.out HKS.out hkn)
        have tk : (k != (next : Int)) = true := bne_iff_ne.2 hkn
        clear hkn
        go_wp2
        go_ret2
        exact ⟨HB.out, .inl ⟨HE.out, rfl⟩⟩
      ·have ce : decide ((i : Int) < (pg.f2.length : Int)) = false := decide_eq_false (by omega)
       have ceb : (i < pg.f2.length) = False := eq_false hi
       have HE := A_ (readK_end HR.out (by omega))
       clear hi
       go_wp2
       go_ret2
       exact ⟨HB.out, .inr ⟨.mk g (.slice Av0 pg.f0.length cv0) (.slice Av1 pg.f1.length cv1) cv pg.f0 pg.f1 acc, next, by rw [HE.out, NT.erase, eraseL_map], rfl, ll_end HS.out⟩⟩
    ·have t3 : ((pg.f2.length : Int) != 0) = true := ne0_t (by omega)
     have t3b : (pg.f2.length != 0) = true := nen_t (by omega)
     have t4 : ((pg.f2.length : Int) != (pg.f0.length : Int) + 1) = false := ne1_f (by omega)
     have t4b : (pg.f2.length != pg.f0.length + 1) = false := nen_f (by omega)
     clear q1 q2 q3 q4 hbd
     go_upto_region 9 with fail
     go_loopg [10, 73] pg.f2.length (fun kq u10 u73 w' => ∃ (i next : Nat) (acc : List NT) (cv : Value), u10 = .int .i64 (next : Int) /\ u73 = .int .i64 (i : Int) /\ Aside0 (kq + i = pg.f2.length) /\ Aside0 (acc.length = i) /\ Aside0 (R = fin pg (readK (readS P f) (pg.f2.drop i) next (acc.map NT.erase))) /\ Aside0 (next <= P.length) /\ Aside0 (Sat w' w.heap.size (LL 96 70 g (.slice Av0 pg.f0.length cv0) (.slice Av1 pg.f1.length cv1) cv pg.f0 pg.f1 [.box 29 b3 #[.slice (some ad) P.length c], .box 110 b8 #[.slice A0 pg.f0.length c0, .slice A1 pg.f1.length c1, .slice A2 pg.f2.length c2]] acc)) /\ Aside0 (Below w.heap.size w w'))
     case atStart => exact ⟨0, a + 1, [], .slice none 0 0, by first | rfl | go_num | (simp; done), by first | rfl | (simp; done), ⟨Nat.add_zero _⟩, ⟨rfl⟩, HR, HAL, HS, HB⟩
     case round =>
      clear HR HS HB hz3 hz80 hz81 hz82 HAL
      obtain ⟨i, next, acc, cv, rfl, rfl, HK, HAC, HR, HNX, HS, HB⟩ := hrel
      have hz3 := HS.out.z 4 rfl 0
      have ci : (0 <= (i : Int)) = True := eq_true (by omega)
      by_cases hi : i < pg.f2.length
      ·have ce : decide ((i : Int) < (pg.f2.length : Int)) = true := decide_eq_true (by omega)
       have ceb : (i < pg.f2.length) = True := eq_true hi
       have hi5 : i <= 5 := by have := HM2.out; omega
       have HI5 := A_ hi5
       have HI := A_ hi
       have hnx : next <= 1000000000000 := Nat.le_trans HNX.out hNl
       obtain ⟨ad2, hA2, hk0⟩ := Kd.at_int HF2.out (i : Int) (by omega) (by omega)
       subst hA2
       rw [Int.toNat_natCast] at hk0
       have hks : pg.f2[i]? = some (rd pg.f2 (i : Int)) := by unfold rd; rw [Int.toNat_natCast, List.getD_eq_getElem?_getD, List.getElem?_eq_getElem hi]; rfl
       generalize rd pg.f2 (i : Int) = k at hk0 hks
       have hkz := (Below.cell HB.out (World.block_lt_of_cell? w _ hk0)).trans hk0
       have HKS := A_ hks
       clear hk0 hks hi
       by_cases hkn : k = (next : Int)
       ·subst hkn
        cases hrs : readS P f next with
        | none =>
         have HRS := A_ hrs
         have HE := A_ (readK_off2 HR.out HKS.out rfl hrs)
         have tm : decide ((-1 : Int) < 0) = true := by decide
         clear hrs
         go_wp2_with (go_at_call 95; (with_reducible refine (ih (d + 1) (by have := HD.out; omega) (by omega) next (some ad) c _ (Kd.C_below HP.out HB.out) HM.out HNX.out).mono ?_); rintro e w5 ⟨hb, hr⟩; rw [HRS.out] at hr; obtain ⟨-, rfl⟩ := hr.resolve_right (by rintro ⟨_, _, h, _⟩; cases h); have n2_ := A_ (below_step HB.out hb); clear HB; have HB := n2_; clear n2_ hb hr)
         go_ret2
         exact ⟨HB.out, .inl ⟨HE.out, rfl⟩⟩
        | some tn =>
         obtain ⟨t, n⟩ := tn
         have HRS := A_ hrs
         have HLE := A_ (readS_le f next t n hrs)
         have HE := A_ (readK_on HR.out HKS.out rfl hrs)
         have tn0 : decide ((n : Int) < 0) = false := decide_eq_false (by omega)
         clear hrs
         go_wp2_with (first | (go_at_call 95; (with_reducible refine (ih (d + 1) (by have := HD.out; omega) (by omega) next (some ad) c _ (Kd.C_below HP.out HB.out) HM.out HNX.out).mono ?_); rintro e w5 ⟨hb, hr⟩; rw [HRS.out] at hr; obtain ⟨nt, n9, h9, rfl, hs⟩ := hr.resolve_left (by rintro ⟨h, _⟩; cases h); injection h9 with h9; injection h9 with h9 h8; subst h9; subst h8; have n1_ := A_ (ll_kid HS.out hb HB.out.size hs); have n2_ := A_ (below_step HB.out hb); clear HS; clear HB; have HS := n1_; have HB := n2_; clear n1_ n2_; have hz9 := HS.out.z 0 rfl 2; clear hb hr hs) | ((with_reducible refine gate_builtin (b := .append) (xs := #[.tmp 94, .tmp 96]) rfl ?_); at_builtin; refine Kd.Q_append kptr (w0 := w) w.heap.size rfl (.tmp 94) (.tmp 96) 94 70 (.pointer none) 8 rfl under94 info70 rfl (by decide) (by omega) cv (acc.map NT.p) nt.p [ptrv nt.p] (fun _ => True) (fun _ => False) rfl rfl ?aP (fun _ h => h.elim) ?aF ?aO ?aB ?aS ?aL ?_; (case aP => exact rfl); (case aB => exact HB.out); (case aF => exact fun _ _ => trivial); (case aO => exact ok_pq (HS.out.ok _ (List.mem_of_getElem? (i := 3) rfl))); (case aS => exact HB.out.size); (case aL => rw [List.length_map]; have := HAC.out; have := HI5.out; omega); intro cv' w6 ho hb hg hat; obtain ⟨Aq, nq, cq, rfl⟩ := q_form ho; have n1_ := A_ (ll_app (x := 0) HS.out ho hg hat); have n2_ := A_ hb; clear HS; clear HB; have HS := n1_; have HB := n2_; clear n1_ n2_; have hz9b := HS.out.z 0 rfl 2; have hf9b := HS.out.f 0 rfl 2; clear ho hb hg hat))
         go_roundg (pg.f2.length - (i + 1))
         case measure => have := HK.out; have := HI.out; omega
         case rel => exact ⟨i + 1, n, acc ++ [nt], .slice Aq nq cq, by first | rfl | go_num | (simp; done), by first | rfl | go_num | (simp; done), ⟨by have := HK.out; have := HI.out; omega⟩, ⟨by rw [List.length_append, HAC.out]; rfl⟩, ⟨by rw [List.map_append]; exact HE.out⟩, ⟨HLE.out.2⟩, ⟨ll_put HS.out⟩, ⟨HB.out.setCell (p := ⟨g, 2, none⟩) (HS.out.ge ⟨_, List.mem_cons_self, rfl⟩) _⟩⟩
       ·have HE := A_ (readK_off1 HR.out HKS.out hkn)
        have tk : (k != (next : Int)) = true := bne_iff_ne.2 hkn
        clear hkn
        go_wp2
        go_ret2
        exact ⟨HB.out, .inl ⟨HE.out, rfl⟩⟩
      ·have ce : decide ((i : Int) < (pg.f2.length : Int)) = false := decide_eq_false (by omega)
       have ceb : (i < pg.f2.length) = False := eq_false hi
       have HE := A_ (readK_end HR.out (by omega))
       clear hi
       go_wp2
       go_ret2
       exact ⟨HB.out, .inr ⟨.mk g (.slice Av0 pg.f0.length cv0) (.slice Av1 pg.f1.length cv1) cv pg.f0 pg.f1 acc, next, by rw [HE.out, NT.erase, eraseL_map], rfl, ll_end HS.out⟩⟩
end Go.Proofs.Ytoddejmlcnbdmaa.Tree
namespace Go.Proofs.Ytoddejmlcnbdmaa.Fn
def slices_Clone_string_string.f (l0 : List ByteArray) : Option (List ByteArray) := (some (([] : List ByteArray) : List ByteArray)).bind fun y179 => (if y179.length + l0.length < 8796093022208 then (some (y179 ++ l0)) else (none))
theorem slices_Clone_string_string.nil_ (w : World) (a : Option Addr) (n c : Nat) : (binOp .eql 38 (.slice a n c) (.slice none 0 0)).run Try.prog w = .ok (.bool a.isNone) w := Go.Proofs.Ytoddejmlcnbdmaa.Gen.eql_nil w _ _ a n c Try.underlying38
attribute [local go_sem] slices_Clone_string_string.nil_
theorem slices_Clone_string_string.calls (A0 : Option Addr) (c0 : Nat) (l0 : List ByteArray) (r : List ByteArray) (w : World) (hr0 : Kd.C Kd.string w A0 l0.length l0) (hc0 : l0.length <= c0) (h : slices_Clone_string_string.f l0 = some r) :
  Calls Try.prog 74 #[.slice A0 l0.length c0] w fun e w' => ∃ v0_ : Value, e = .returned (v0_) /\ Kd.R Kd.string 9 w' w.heap.size (fun _ => True) v0_ r /\ Below w.heap.size w w' := by
 have HR0 := A_ hr0
 have HC0 := A_ hc0
 clear hr0 hc0
 have HB := A_ (Below.refl w.heap.size w)
 have H : ((some (([] : List ByteArray) : List ByteArray)).bind fun y179 => (if y179.length + l0.length < 8796093022208 then (some (y179 ++ l0)) else (none))) = some r := h
 clear h
 obtain ⟨y179, hy179⟩ : ∃ y_ : List ByteArray, y_ = (([] : List ByteArray)) := ⟨_, rfl⟩
 replace H : (if y179.length + l0.length < 8796093022208 then (some (y179 ++ l0)) else (none)) = some r := by first | (rw [hy179]; with_reducible exact H) | (have H2_ := (Option.bind_some _ _).symm.trans H; rw [hy179]; with_reducible exact H2_) | (have H2_ := (Option.bind_some _ _).symm.trans H; with_reducible exact H2_) | with_reducible exact H | (rw [hy179]; exact H) | exact H
 have Ny179 := A_ hy179
 clear hy179
 by_cases c2 : y179.length + l0.length < 8796093022208
 ·rw [if_pos c2] at H
  have LMc2 := A_ c2
  clear c2
  obtain ⟨y182, hy182⟩ : ∃ y_ : List ByteArray, y_ = (y179 ++ l0) := ⟨_, rfl⟩
  replace H : (some y182) = some r := by first | (rw [hy182]; with_reducible exact H) | (have H2_ := (Option.bind_some _ _).symm.trans H; rw [hy182]; with_reducible exact H2_) | (have H2_ := (Option.bind_some _ _).symm.trans H; with_reducible exact H2_) | with_reducible exact H | (rw [hy182]; exact H) | exact H
  have Ny182 := A_ hy182
  clear hy182
  obtain rfl := Option.some.inj H
  rcases A0 with _ | ad_
  ·have e0_ : l0 = [] := by
    rcases Nat.eq_zero_or_pos l0.length with h_ | h_
    ·exact List.length_eq_zero_iff.1 h_
    ·obtain ⟨_, _, hz_⟩ := HR0.out
     obtain ⟨ad_, hz_, _⟩ := hz_ h_
     cases hz_
   subst e0_
   have e1_ : y182 = [] := by rw [Ny182.out, Ny179.out]; rfl
   subst e1_
   go_enter Try.func74, Try.ntmps74
   go_wp2
   go_ret
   exact ⟨_, rfl, Kd.R_nil _ _ _ _ _, HB.out⟩
  go_enter Try.func74, Try.ntmps74
  go_wp2_with (first | ((with_reducible refine gate_dst (N := 5) rfl ?_); refine Kd.R_lit Kd.string _ 9 ?hg (N := 5) ?hd (xs := ([] : List ByteArray)) (inner := []) (ok := fun _ => True) (okp := fun _ => True) ?hr ?hp (fun _ hk => hk) trivial (Below.refl _ _) (Nat.le_refl _) (by simp) ?_; (case hd => rfl); (case hg => rfl); (case hr => first | (go_simp; done) | (go_simp; rfl)); (case hp => exact (Reps.none _ _)); intro v180 w3 ho4 hb hg_ hnew_; clear hg_ hnew_; (first | rw [<- Ny179.out] at ho4 | (simp only [Int.reduceToNat] at ho4; rw [<- Ny179.out] at ho4)); have n0_ := A_ (Kd.R_lower ho4 (bw_ HB.out)); have n1_ := A_ (bs_ HB.out hb); clear HB; have HO181 := n0_; have HB := n1_; clear n0_ n1_; clear hb ho4) | ((with_reducible refine gate_builtin (b := .append) (xs := #[.tmp 5, .tmp 6]) rfl ?_); at_builtin; refine Kd.R_append_rows Kd.string (w0 := w) w.heap.size rfl (.tmp 5) (.tmp 6) 38 9 (.string ⟨#[]⟩) 16 rfl Try.underlying38 info9 rfl (by decide) (by omega) v180 y179 l0 _ _ _ (fun _ => True) (fun _ => False) rfl rfl ?aO ?aR (fun _ _ h => h) (fun _ h => h.elim) ?aF ?aB ?aS ?aL ?_; (case aR => refine cd_ ?_; exact (Kd.C_below HR0.out HB.out)); (case aB => exact (be_ HB.out)); (case aF => exact (fun _ _ => trivial)); (case aO => exact (rk_ HO181.out)); (case aS => exact (bw_ HB.out)); (case aL => have := LMc2.out; omega); intro v183 w5 ho hb hg hat; rw [<- Ny182.out] at ho; have n0_ := A_ (hb); have n1_ := A_ (ho); clear HB; clear HO181; have HB := n0_; have HO184 := n1_; clear n0_ n1_; clear ho hb hg hat))
  go_ret
  exact ⟨_, ew_, by (with_reducible repeat (first | apply Kd.R_alloc | apply Kd.R_drewN | apply Kd.R_drew)); exact HO184.out, by repeat (first | (with_reducible first | exact HB.out | apply below_alloc | apply pw_below_drewN | apply below_drew1) | exact HB.out)⟩
 ·rw [if_neg c2] at H
  exact absurd H (by simp)
end Go.Proofs.Ytoddejmlcnbdmaa.Fn

