/- The law FnExactBuildTree holds of the given program: at every input it answers true and leaves its arguments as they were; no condition. This text: part 1 of what its proof reaches. -/
import Derived.Test.YtoddejmlcnbdmaaQWLast
import Derived.Test.YtoddejmlcnbdmaaQWMore
import Derived.Lib.SliceRun
import Derived.Deep.QuietTactic
import Derived.BigQuiet
import Derived.KernelRfl
import Derived.Test.YtoddejmlcnbdmaaQWWords
import Derived.OpenShut
import Derived.WideShapes
import Derived.Lib.Strings
import Derived.Test.YtoddejmlcnbdmaaProg
import Derived.Below
import Derived.Deep.Draws
import Derived.Deep.AppendLies
import Derived.Maps.AppendAt
import Derived.OwnWalk
import Derived.Laws.BytesArg
import Derived.Laws.MakeOwn
import Derived.Laws.OwnMore
import Derived.Deep.OwnRows
import Derived.Tactics
import Derived.Lib.ConvBytes
import Derived.Laws.Slices
import Derived.WalkKit
import Derived.RowKit3
import Derived.Deep.LoopGhost
import Derived.WideLaws
import Derived.Deep.DeepCutAuto
import Derived.Deep.CutBlock
import Derived.Deep.RegionHeld3
import Derived.Laws.Rows
import Derived.Lib.AppendStr
import Derived.ArgAppend
import Derived.Laws.IdiomCopy
import Derived.OrdersHeld
import Derived.Laws.BitsLemmas
import Derived.Laws.Cover1
import Derived.Laws.Strings
import Derived.RowKit
import Derived.Test.YtoddejmlcnbdmaaQWTab
import Derived.Test.YtoddejmlcnbdmaaQWFour
import Derived.Test.YtoddejmlcnbdmaaQWQPut
import Derived.Test.YtoddejmlcnbdmaaQWApart
import Derived.Test.YtoddejmlcnbdmaaQWArr
import Derived.Test.YtoddejmlcnbdmaaQWZeros
import Derived.Test.YtoddejmlcnbdmaaQWFoot
import Derived.Test.YtoddejmlcnbdmaaQWKept
import Derived.Test.YtoddejmlcnbdmaaQWShare
import Derived.Test.YtoddejmlcnbdmaaQWN
import Derived.Test.YtoddejmlcnbdmaaQWFootNe
import Derived.Test.YtoddejmlcnbdmaaQWAt
import Derived.Test.YtoddejmlcnbdmaaQWEqStruct
import Derived.Test.YtoddejmlcnbdmaaQWRepsOne
import Derived.Test.YtoddejmlcnbdmaaQWInv
import Derived.Test.YtoddejmlcnbdmaaQWInvWords
import Derived.Test.YtoddejmlcnbdmaaQWGuard
import Derived.Test.YtoddejmlcnbdmaaQWNEv
set_option maxHeartbeats 8000000
set_option maxRecDepth 100000
set_option linter.unusedVariables false
set_option linter.unusedSimpArgs false
open Go.RowKit Go.Proofs.YtoddejmlcnbdmaaW.PrintWords Go.Proofs.YtoddejmlcnbdmaaW.PrintLast Go.Proofs.YtoddejmlcnbdmaaW.PrintMore
namespace Go.Proofs.Ytoddejmlcnbdmaa.Gen
theorem no_true {o : Option Bool} {r : Bool} (h : o = some r) (hf : o = none ∨ o = some false) (ht : r = true) : False := by
  subst ht
  rcases hf with hf | hf <;> rw [hf] at h <;> simp at h
/-! Short words for what a long walk says again and again. -/
theorem pk_ {p q : Prop} (h0 : p) (h : p -> q := by intro hh_; (with_reducible repeat (first | refine blk_drewN ?_ _ | refine blk_drew ?_ | refine blk_alloc ?_ _)); exact hh_) : q := h h0
theorem rk_ {p q : Prop} (h0 : p) (h : p -> q := by intro hh_; (with_reducible repeat (first | apply Kd.R_alloc | apply Kd.R_drewN | apply Kd.R_drew)); exact hh_) : q := h h0
theorem sk_ {p q : Prop} (h0 : p) (h : p -> q := by intro hh_; (with_reducible repeat (first | apply Kd.S_alloc | apply Kd.S_drewN | apply Kd.S_drew)); exact hh_) : q := h h0
theorem be_ {p q : Prop} (h0 : p) (h : p -> q := by intro hh_; repeat (first | (with_reducible first | exact hh_ | apply below_alloc | apply pw_below_drewN | apply below_drew1 | (refine below_set ?_ (Aside0.out ?_); rotate_left; assumption)) | exact hh_)) : q := h h0
theorem sx_ {α : Type} : (∀ (l : List α) (i : Nat) (a : α), l.toArray.setIfInBounds i a = (l.set i a).toArray) /\ (∀ (x a : α) (l : List α), (x :: l).set 0 a = a :: l) /\ (∀ (x a : α) (l : List α) (i : Nat), (x :: l).set (i + 1) a = x :: l.set i a) :=
  ⟨fun _ _ _ => by simp, fun _ _ _ => rfl, fun _ _ _ _ => rfl⟩
theorem wx_ : (∀ n : Int, IntKind.i64.wrap n = Go.RowKit.wrap64 n) /\ (∀ n : Int, IntKind.i32.wrap n = Go.RowKit.wrap32 n) := ⟨i64_w, i32_w⟩
theorem as_ {p : Prop} (h : p := by first | (with_reducible assumption) | assumption) : p := h
theorem cd_ {p q : Prop} (h0 : p) (h : p -> q := by intro hh_; repeat (first | exact hh_ | (with_reducible refine Kd.C_alloc ?_ _) | (with_reducible refine Kd.C_drewN ?_ _) | (with_reducible refine Kd.C_drew ?_))) : q := h h0
theorem kb_ {p q : Prop} (h0 : p) (h : p -> q := by intro hh_; repeat (first | (with_reducible first | exact hh_ | apply KeepBut.set_ | apply keep_drewN | apply keep_drew | apply keep_alloc | (refine keep_far ?_ (Aside0.out ?_) _; rotate_left; assumption)) | exact hh_)) : q := h h0
theorem ag_ {p : Prop} (h : p := by (try simp only [List.map_toArray, List.map_cons, List.map_nil]); first | done | rfl | (simp only [List.length_drop, List.length_take]; rfl)) : p := h
theorem bs_ {w w1 W W2 : World} (h0 : Below w.heap.size w w1) (hb : Below W.heap.size W W2) (h : Below w.heap.size w w1 -> Below w.heap.size w W := by intro hh_; repeat (first | (with_reducible first | exact hh_ | apply below_alloc | apply pw_below_drewN | apply below_drew1 | (refine below_set ?_ (Aside0.out ?_); rotate_left; assumption)) | exact hh_)) : Below w.heap.size w W2 := below_step (h h0) hb
theorem bw_ {w w1 W : World} (h0 : Below w.heap.size w w1) (h : Below w.heap.size w w1 -> Below w.heap.size w W := by intro hh_; repeat (first | (with_reducible first | exact hh_ | apply below_alloc | apply pw_below_drewN | apply below_drew1 | (refine below_set ?_ (Aside0.out ?_); rotate_left; assumption)) | exact hh_)) : w.heap.size <= W.heap.size := below_size (h h0)
theorem bz_ {w0 W W' : World} {g : Nat} {o : Obj} (h0 : Aside0 (w0.heap[g]? = some o)) (hb : Below W.heap.size W W') (h : w0.heap[g]? = some o -> W.heap[g]? = some o := by intro hh_; (with_reducible repeat (first | refine blk_drewN ?_ _ | refine blk_drew ?_ | refine blk_alloc ?_ _)); exact hh_) : W'.heap[g]? = some o := blk_below (h h0.out) hb
theorem nz_ {w0 W : World} {g g' : Nat} {o : Obj} (h0 : Aside0 (w0.heap[g]? = some o)) (hg : g' = W.heap.size) (h : w0.heap[g]? = some o -> W.heap[g]? = some o := by intro hh_; (with_reducible repeat (first | refine blk_drewN ?_ _ | refine blk_drew ?_ | refine blk_alloc ?_ _)); exact hh_) : g ≠ g' := by
  rw [hg]; exact Nat.ne_of_lt (blk_lt (h h0.out))
theorem eql_nil {P : Program} (w : World) (t e : TypeId) (a : Option Addr) (n c : Nat) (h : P.underlying t = some (.slice e)) :
    (binOp .eql t (.slice a n c) (.slice none 0 0)).run P w = .ok (.bool a.isNone) w := Go.Lib.run_eql_slice_nil w t e a n c 0 0 h
theorem nil_str (l : List UInt8) : (!l.isEmpty) = (l != []) := by cases l <;> rfl
theorem gt_str (a b : List UInt8) : ((!Op.bytesLess a b) && (!(a == b))) = Op.bytesLess b a := by
  induction a generalizing b with
  | nil => cases b <;> rfl
  | cons x s ih =>
    cases b with
    | nil => rfl
    | cons y t =>
      have ih := ih t
      have e : ((x :: s) == (y :: t)) = ((x == y) && (s == t)) := rfl
      simp only [Op.bytesLess, e]
      rcases Nat.lt_trichotomy x.toNat y.toNat with h | h | h
      · have h1 : x < y := UInt8.lt_iff_toNat_lt.2 h
        have h2 : ¬ y < x := fun z => by have := UInt8.lt_iff_toNat_lt.1 z; omega
        have h3 : (y == x) = false := by
          rw [beq_eq_false_iff_ne]
          intro z
          rw [z] at h
          omega
        simp only [h1, h2, h3, decide_true, decide_false, Bool.true_or, Bool.not_true, Bool.false_and, Bool.false_or]
      · have h0 : x = y := UInt8.toNat_inj.1 h
        subst h0
        have h2 : ¬ x < x := fun z => by have := UInt8.lt_iff_toNat_lt.1 z; omega
        simp only [h2, decide_false, beq_self_eq_true, Bool.true_and, Bool.false_or]
        exact ih
      · have h1 : y < x := UInt8.lt_iff_toNat_lt.2 h
        have h2 : ¬ x < y := fun z => by have := UInt8.lt_iff_toNat_lt.1 z; omega
        have h3 : (x == y) = false := by
          rw [beq_eq_false_iff_ne]
          intro z
          rw [z] at h
          omega
        simp only [h1, h2, h3, decide_true, decide_false, Bool.true_or, Bool.not_false, Bool.false_and, Bool.false_or, Bool.true_and]
section
variable {P : Program} {ops : Array Oper} {Q : Exit -> Act -> World -> Prop}
/-- The operation is a call through a slot. -/
theorem gateV {rest : List Oper} {o : Oper} {a : Act} {W : World} {t : Tmp} {xa : Array Operand} {ts : Array TypeId} (_ho : o.op = .call { callee := .value (.tmp t), args := xa, argTypes := ts }) (h : wpList P ops Q (o :: rest) a W) : wpList P ops Q (o :: rest) a W := h
theorem goesV_ {rest : List Oper} {oi : Oper} {a : Act} {w : World} (N : Option Tmp) (hd : oi.dst = N) (hg : oi.guard = none) {f : FuncId} {fn : Func} {t : Tmp} {xa : Array Operand} {ts : Array TypeId} (hf : P.funcs[f]? = some fn) (hname : (fn.name == "runtime.NumGoroutine") = false) (hb : fn.body.isSome = true) (args : Array Value)
    (hop : oi.op = .call { callee := .value (.tmp t), args := xa, argTypes := ts }) (hargs : xa.map a.eval = args) 
    (h : Calls P f args w fun e w' => ∃ v, e = .returned v /\ wpList P ops Q rest (a.put N v) w') (hv : a.eval (.tmp t) = .func (.func f) #[] #[] := by rfl) : wpList P ops Q (oi :: rest) a w := by
  refine wpList_plain hg fun K hK => ?_
  have he := enters_ hf hname hb args w
  have hrun : (execOp a.eval oi).run P w = .ok (.enter f args) w := by
    unfold execOp
    simp [hop, resolve, Deferred.ofValue, invoke, hv, hargs, he]
  unfold Oper.wp
  rw [hrun, Oper.upon_enter]
  refine h.mono fun e w'' hh => ?_
  obtain ⟨v, rfl, hk⟩ := hh
  subst hd
  exact hK _ _ hk
end
end Go.Proofs.Ytoddejmlcnbdmaa.Gen
open Go.Proofs.Ytoddejmlcnbdmaa.Gen
namespace Go.Proofs.Ytoddejmlcnbdmaa.Gen
theorem A_ {p : Prop} (h : p) : Aside0 p := ⟨h⟩
def btl (x : Nat) : Nat -> List Bool
  | 0 => []
  | n + 1 => (x % 2 == 1) :: btl (x / 2) n
/-- The first n bits of x. -/
def bt (n x : Nat) : Array Bool := ⟨btl x n⟩
section
variable {P : Program} {ops : Array Oper} {Q : Exit -> Act -> World -> Prop} {md : Region.Mode} {S : World -> Prop} {ds : List Nat} {fuel m y : Nat} {a : Act} {w : World}
theorem pu_ (i n x : Nat) {oi : Oper} {v : Value} {a' : Act} (h : wpAnyLast P md ops Q S ds fuel (bt m x) a' w)
    (hi : ops[i]? = some oi := by rfl) (hN : oi.dst = some n := by rfl) (hc : anyB md ops (bt m y) (bt m x) i = true := by kernel_rfl)
    (hQ : ∀ c a w, Q (.panic c) (a.put oi.dst v) w -> Q (.panic c) a w := by exact fun _ _ _ h => h)
    (hy : Yields P ops oi v a := by refine Or.inl ⟨by rfl, ?_⟩; intro w'; go_simp; with_reducible rfl)
    (ha : a.put (some n) v = a' := by simp only [Act.put, List.setIfInBounds_toArray, List.set_cons_zero, List.set_cons_succ, i64_w, i32_w]; rfl) : wpAnyLast P md ops Q S ds (fuel + 1) (bt m y) a w :=
  pure_ (bt m x) hi hN hc hQ hy ha h
theorem ta_ (i n x : Nat) (hS : S w) {oi : Oper} {v : Value} {a' : Act} (h : wpAnyLast P md ops Q S ds fuel (bt m x) a' w)
    (hi : ops[i]? = some oi := by rfl) (hN : oi.dst = some n := by rfl) (hc : takeB md ops ds (bt m y) (bt m x) i = true := by kernel_rfl)
    (hQ : ∀ c a w, Q (.panic c) (a.put oi.dst v) w -> Q (.panic c) a w := by exact fun _ _ _ h => h)
    (hy : YieldsIf P ops S oi v a := by refine Or.inl ⟨by rfl, ?_⟩; intro w' s_; (repeat (have s0_ := s_.1; replace s_ := s_.2)); go_simp; with_reducible rfl)
    (ha : a.put (some n) v = a' := by simp only [Act.put, List.setIfInBounds_toArray, List.set_cons_zero, List.set_cons_succ, i64_w, i32_w]; rfl) : wpAnyLast P md ops Q S ds (fuel + 1) (bt m y) a w :=
  take_ (bt m x) hi hN hc hQ hy hS ha h
theorem on_ (i : Nat) (N : Option Tmp) (x : Nat) {oi : Oper}
    (h : ∀ K : Act -> World -> Prop, Shut (∀ a' w', S w' -> (S w' -> wpAnyLast P md ops Q S ds fuel (bt m x) a' w') -> K a' w') -> if Region.wanted oi (yielded ops a.tmps) = true then Oper.wp P oi a w K Q else K (a.put N undef) w)
    (hi : ops[i]? = some oi := by rfl) (hN : oi.dst = N := by rfl) (hc : (Region.ready md ops (bt m y) == [i] && (bt m y).setIfInBounds i true == bt m x) = true := by kernel_rfl) (hd : i ∉ ds := by decide) :
    wpAnyLast P md ops Q S ds (fuel + 1) (bt m y) a w := one_ (bt m x) hi hN hc hd h
theorem la_ (i : Nat) (N : Option Tmp) (x : Nat) {oi : Oper}
    (h : ∀ K : Act -> World -> Prop, Shut (∀ a' w', wpAnyLast P md ops Q S ds fuel (bt m x) a' w' -> K a' w') -> if Region.wanted oi (yielded ops a.tmps) = true then Oper.wp P oi a w K Q else K (a.put N undef) w)
    (hi : ops[i]? = some oi := by rfl) (hN : oi.dst = N := by rfl) (hc : (Region.ready md ops (bt m y) == [i] && (bt m y).setIfInBounds i true == bt m x) = true := by kernel_rfl) (hd : i ∈ ds := by decide) :
    wpAnyLast P md ops Q S ds (fuel + 1) (bt m y) a w := last_ (bt m x) hi hN hc hd h
theorem no_ (n : Nat) {a0 a' : Act} {v : Value} {l : Array Bool} (h : wpAnyLast P md ops Q S ds fuel l a' w) (ha : Act.put a0 (some n) v = a' := by simp only [Act.put, List.setIfInBounds_toArray, List.set_cons_zero, List.set_cons_succ, i64_w, i32_w]; rfl) : wpAnyLast P md ops Q S ds fuel l (Act.put a0 (some n) v) w := norm_ ha h
theorem tw_ (i j : Nat) (Ni Nj : Option Tmp) (x z : Nat) {oi oj : Oper}
    (h1 : ∀ K : Act -> World -> Prop, Shut (∀ a' w', S w' -> (S w' -> wpAnyLast P md ops Q S ds fuel (bt m x) a' w') -> K a' w') -> if Region.wanted oi (yielded ops a.tmps) = true then Oper.wp P oi a w K Q else K (a.put Ni undef) w)
    (h2 : ∀ K : Act -> World -> Prop, Shut (∀ a' w', S w' -> (S w' -> wpAnyLast P md ops Q S ds fuel (bt m z) a' w') -> K a' w') -> if Region.wanted oj (yielded ops a.tmps) = true then Oper.wp P oj a w K Q else K (a.put Nj undef) w)
    (hi : ops[i]? = some oi := by rfl) (hj : ops[j]? = some oj := by rfl) (hNi : oi.dst = Ni := by rfl) (hNj : oj.dst = Nj := by rfl)
    (hc : (Region.ready md ops (bt m y) == [i, j] && (bt m y).setIfInBounds i true == bt m x && (bt m y).setIfInBounds j true == bt m z) = true := by kernel_rfl) (hdi : i ∉ ds := by decide) (hdj : j ∉ ds := by decide) :
    wpAnyLast P md ops Q S ds (fuel + 1) (bt m y) a w := two_ _ _ hi hj hNi hNj hc hdi hdj h1 h2
theorem go_ {oi : Oper} {N : Option Tmp} {K : Act -> World -> Prop} {f : FuncId} {fn : Func} {ar : Array Operand} {ts : Array TypeId} (hf : P.funcs[f]? = some fn) (args : Array Value)
    (h : Calls P f args w fun e w' => ∃ v, e = .returned v /\ K (a.put N v) w')
    (hname : (fn.name == "runtime.NumGoroutine") = false := by kernel_rfl) (hb : fn.body.isSome = true := by rfl)
    (hw : Region.wanted oi (yielded ops a.tmps) = true := by rfl) (hN : oi.dst = N := by rfl) (hop : oi.op = .call { callee := .value (.func f), args := ar, argTypes := ts } := by rfl)
    (hargs : ar.map a.eval = args := by simp only [List.map_toArray, List.map_cons, List.map_nil]; rfl) : if Region.wanted oi (yielded ops a.tmps) = true then Oper.wp P oi a w K Q else K (a.put N undef) w :=
  goes_ hf hname hb args hw hN hop hargs h
end
end Go.Proofs.Ytoddejmlcnbdmaa.Gen
open Go.Proofs.Ytoddejmlcnbdmaa.Gen
namespace Go.Proofs.Ytoddejmlcnbdmaa.Pure
theorem wrap_ok {n : Int} (h0 : -9223372036854775808 <= n) (h1 : n <= 9223372036854775807) : wrap64 n = n := IntWalk.wrap64_in n ⟨h0, h1⟩
theorem wrap_succ {i : Nat} (h : i <= 9223372036854775806) : wrap64 ((i : Int) + 1) = ((i + 1 : Nat) : Int) := by
 rw [wrap_ok (by omega) (by omega)]; omega
theorem nat_nonneg (i : Nat) : (0 : Int) <= (i : Int) := by omega
section
variable {α : Type} {l t : List α} {i : Nat} {x z : α}
theorem drop_nil (h : l.drop i = []) : ¬ ((i : Int) < (l.length : Int)) := by
 have := List.drop_eq_nil_iff.1 h
 omega
theorem drop_cons (h : l.drop i = x :: t) : ((i : Int) < (l.length : Int)) /\ l[i]? = some x /\ l.drop (i + 1) = t := by
 have hlt : i < l.length := by
  rcases Nat.lt_or_ge i l.length with h1 | h1
  ·exact h1
  ·rw [List.drop_eq_nil_of_le h1] at h; cases h
 rw [List.drop_eq_getElem_cons hlt] at h
 injection h with h1 h2
 exact ⟨by omega, by rw [List.getElem?_eq_getElem hlt, h1], h2⟩
theorem drop_len (h : l.drop i = t) (hi : i <= l.length) : i + t.length = l.length := by
 rw [<- h, List.length_drop]; omega
theorem getD_at (h : l[i]? = some x) : l.getD ((i : Nat) : Int).toNat z = x := by
 rw [Int.toNat_natCast, List.getD_eq_getElem?_getD, h]; rfl
theorem take_drop_set {n : Nat} {y : α} (h : l.drop i = x :: t) : (l.take i ++ List.replicate (n + 1) z).set i y = l.take i ++ [y] ++ List.replicate n z := by
 have hlt : i < l.length := by have := (drop_cons h).1; omega
 have h0 : i = (l.take i).length := by rw [List.length_take]; omega
 rw [List.set_append_right _ _ (by omega)]
 have h1 : i - (l.take i).length = 0 := by omega
 rw [h1, List.replicate_succ]
 simp
theorem take_next (h : l.drop i = x :: t) : l.take (i + 1) = l.take i ++ [x] := by
 have hlt : i < l.length := by have := (drop_cons h).1; omega
 rw [List.take_succ_eq_append_getElem hlt]
 have := (drop_cons h).2.1
 rw [List.getElem?_eq_getElem hlt] at this
 injection this with this
 rw [this]
theorem take_all (h : l.drop i = []) : l.take i = l := List.take_of_length_le (List.drop_eq_nil_iff.1 h)
end
theorem rd_at {l : List Int} {i : Nat} {x : Int} (h : l[i]? = some x) : rd l (i : Int) = x := getD_at h
theorem rdOf_at {α : Type} {l : List α} {i : Nat} {x z : α} (h : l[i]? = some x) : rdOf z l (i : Int) = x := getD_at h
theorem ev_down (n : Nat) (P : Nat -> Prop) (hn : P n) (hs : ∀ i, i < n -> P (i + 1) -> P i) : P 0 := by
 have : ∀ d, d <= n -> P (n - d) := by
  intro d
  induction d with
  | zero => intro _; simpa using hn
  | succ d ih =>
   intro hd
   refine hs _ (by omega) ?_
   have e : n - (d + 1) + 1 = n - d := by omega
   rw [e]
   exact ih (by omega)
 have := this n (Nat.le_refl _)
 simpa using this
theorem Ev.all {α : Type} {g : Nat -> Option α} {r : α} (h : ∀ k, g k = some r) : Ev g r := ⟨0, fun k _ => h k⟩
theorem Ev.next {α : Type} {g f : Nat -> Option α} {r : α} {K : Nat} (h : ∀ k, K <= k -> g (k + 1) = f k) (hf : Ev f r) : Ev g r := by
 obtain ⟨K', hf⟩ := hf
 refine ⟨max K K' + 1, fun k hk => ?_⟩
 obtain ⟨m, rfl⟩ : ∃ m, k = m + 1 := ⟨k - 1, by omega⟩
 rw [h m (by omega)]
 exact hf m (by omega)
theorem Ev.same {α : Type} {g f : Nat -> Option α} {r : α} {K : Nat} (h : ∀ k, K <= k -> g k = f k) (hf : Ev f r) : Ev g r := by
 obtain ⟨K', hf⟩ := hf
 exact ⟨max K K', fun k hk => (h k (by omega)).trans (hf k (by omega))⟩
theorem copy_ev {α β : Type} (L : Nat -> List β -> Int -> Option (List β)) (f : α -> β) (z : β) (l : List α)
  (hend : ∀ k x3, L (k + 1) x3 (l.length : Int) = some x3)
  (hstep : ∀ (i : Nat) (x : α), l[i]? = some x -> ∃ K, ∀ k (x3 : List β), K <= k -> x3.length = l.length -> L (k + 1) x3 (i : Int) = L k (x3.set i (f x)) ((i + 1 : Nat) : Int)) :
  Ev (fun k => L k (List.replicate l.length z) 0) (l.map f) := by
 have := ev_down l.length (fun i => Ev (fun k => L k ((l.take i).map f ++ List.replicate (l.length - i) z) (i : Int)) (l.map f)) ?_ ?_
 ·simpa using this
 ·refine ⟨1, fun k hk => ?_⟩
  obtain ⟨m, rfl⟩ : ∃ m, k = m + 1 := ⟨k - 1, by omega⟩
  dsimp only
  rw [hend]
  simp
 ·intro i hi ih
  have hx : l[i]? = some l[i] := List.getElem?_eq_getElem hi
  obtain ⟨K, hK⟩ := hstep i _ hx
  refine Ev.next (K := K) (fun k hk => ?_) ih
  rw [hK k _ hk (by simp; omega)]
  congr 1
  have h0 : i = ((l.take i).map f).length := by simp; omega
  rw [List.set_append_right _ _ (by omega)]
  have h1 : i - ((l.take i).map f).length = 0 := by omega
  have h2 : l.length - i = (l.length - (i + 1)) + 1 := by omega
  rw [h1, h2, List.replicate_succ, List.set_cons_zero, List.take_succ_eq_append_getElem hi, List.map_append]
  simp
theorem all_ev {ρ : Type} (L : Nat -> Int -> Option ρ) (n : Nat) (r : ρ) (hend : ∀ k, L (k + 1) (n : Int) = some r)
  (hstep : ∀ (i : Nat), i < n -> ∃ K, ∀ k, K <= k -> L (k + 1) (i : Int) = L k ((i + 1 : Nat) : Int)) : Ev (fun k => L k 0) r := by
 have := ev_down n (fun i => Ev (fun k => L k (i : Int)) r) ⟨1, fun k hk => by obtain ⟨m, rfl⟩ : ∃ m, k = m + 1 := ⟨k - 1, by omega⟩; exact hend m⟩ (fun i hi ih => by
  obtain ⟨K, hK⟩ := hstep i hi
  exact Ev.next hK ih)
 simpa using this
theorem cnd_ {p : Prop} (h : p := by first | omega | assumption | rfl | (simp only [List.length_map, List.length_replicate, List.length_take, List.length_drop, List.length_append, List.length_cons, List.length_nil, List.length_set]; omega) | (simp <;> fail)) : p := h
section
variable {α β γ δ : Type}
theorem Ev.up {g : Nat -> Option α} {r : α} (h : Ev (fun k => g (k + 1)) r) : Ev g r := Ev.next (K := 0) (fun _ _ => rfl) h
theorem Ev.ifp {c : Prop} {dc : Decidable c} {A B : Nat -> Option α} {r : α} (hc : c) (h : Ev A r) : Ev (fun k => if c then A k else B k) r :=
 Ev.same (K := 0) (fun k _ => by rw [if_pos hc]) h
theorem Ev.ifn {c : Prop} {dc : Decidable c} {A B : Nat -> Option α} {r : α} (hc : ¬ c) (h : Ev B r) : Ev (fun k => if c then A k else B k) r :=
 Ev.same (K := 0) (fun k _ => by rw [if_neg hc]) h
theorem Ev.val {a r : α} (h : a = r) : Ev (fun _ => some a) r := Ev.all fun _ => by rw [h]
theorem Ev.bindS {a : α} {f : Nat -> α -> Option β} {r : β} (h : Ev (fun k => f k a) r) : Ev (fun k => (some a).bind (f k)) r := Ev.bind (Ev.val rfl) h
variable {R : α -> β -> Prop} {A A1 A2 : Nat -> Option α} {B B1 B2 : Nat -> Option β}
end
theorem decT {p : Prop} [Decidable p] : (decide p = true) = p := decide_eq_true_eq
end Go.Proofs.Ytoddejmlcnbdmaa.Pure
namespace Go.Proofs.Ytoddejmlcnbdmaa.Fn
def errW : Option Int -> Value
  | none => .nilIface
  | some c => .iface 0 (.int .i64 c)
theorem errW_none : errW none = .nilIface := rfl
theorem errW_some (c : Int) : errW (some c) = .iface 0 (.int .i64 c) := rfl
theorem ew_ {p : Prop} (h : p := by first | rfl | (simp [errW_none, errW_some] <;> rfl) | (simp [*, errW_none, errW_some] <;> rfl)) : p := h
theorem info3 : (Try.prog.info? 3).map (fun i => (i.zero, i.size, i.bytes)) = some (some (.int .i64 0), 1, 8) := by kernel_rfl
theorem info9 : (Try.prog.info? 9).map (fun i => (i.zero, i.size, i.bytes)) = some (some (.string ⟨#[]⟩), 1, 16) := by kernel_rfl
theorem info110 : (Try.prog.info? 110).map (fun i => (i.zero, i.size, i.bytes)) = some (some (.agg #[(.slice none 0 0), (.slice none 0 0), (.slice none 0 0)]), 3, 72) := by kernel_rfl
structure S110 where
  f0 : (List ByteArray)
  f1 : (List ByteArray)
  f2 : (List Int)
def z110 : S110 := ⟨([] : List ByteArray), ([] : List ByteArray), ([] : List Int)⟩
def k110 : Kd S110 := Kd.iso (Kd.pair (Kd.slice 9 Kd.string) (Kd.pair (Kd.slice 9 Kd.string) (Kd.slice 3 (Kd.int .i64)))) (fun x : S110 => (x.f0, x.f1, x.f2))
theorem k110_open {w : World} {x : S110} {cs : List Value} (h : k110.K w x cs) : ∃ A0 c0 A1 c1 A2 c2, cs = [.slice A0 x.f0.length c0, .slice A1 x.f1.length c1, .slice A2 x.f2.length c2] /\ x.f0.length <= c0 /\ Kd.string.C w A0 x.f0.length x.f0 /\ x.f1.length <= c1 /\ Kd.string.C w A1 x.f1.length x.f1 /\ x.f2.length <= c2 /\ (Kd.int .i64).C w A2 x.f2.length x.f2 := by
  obtain ⟨_, _, rfl, ⟨A0, c0, rfl, l0, g0⟩, ⟨_, _, rfl, ⟨A1, c1, rfl, l1, g1⟩, ⟨A2, c2, rfl, l2, g2⟩⟩⟩ := h
  exact ⟨A0, c0, A1, c1, A2, c2, rfl, l0, g0, l1, g1, l2, g2⟩
theorem k110_mkM (w : World) (base : Nat) (ok : Nat -> Prop) (x : S110) {v0 : Value} (g0 : Kd.string.R 9 w base ok v0 x.f0) {v1 : Value} (g1 : Kd.string.R 9 w base ok v1 x.f1) {v2 : Value} (g2 : (Kd.int .i64).R 3 w base ok v2 x.f2) : k110.M w base ok x [v0, v1, v2] := ⟨[v0], [v1, v2], rfl, ⟨v0, rfl, g0⟩, ⟨[v1], [v2], rfl, ⟨v1, rfl, g1⟩, ⟨v2, rfl, g2⟩⟩⟩
def rd_T110 (xs : List S110) (i : Int) : S110 := xs.getD i.toNat z110
theorem at_T110 {w : World} {A : Option Addr} {n : Nat} {xs : List S110} (h : Kd.C k110 w A n xs) (i : Int) (h0 : 0 <= i) (h1 : i < n) : ∃ ad A0 c0 A1 c1 A2 c2, A = some ad /\ w.cell? (ad.add (i.toNat * 3)) = some (.slice A0 (rd_T110 xs i).f0.length c0) /\ w.cell? ⟨(ad.add (i.toNat * 3)).block, (ad.add (i.toNat * 3)).off + 1, none⟩ = some (.slice A1 (rd_T110 xs i).f1.length c1) /\ w.cell? ⟨(ad.add (i.toNat * 3)).block, (ad.add (i.toNat * 3)).off + 2, none⟩ = some (.slice A2 (rd_T110 xs i).f2.length c2) /\ (rd_T110 xs i).f0.length <= c0 /\ Kd.string.C w A0 (rd_T110 xs i).f0.length (rd_T110 xs i).f0 /\ (rd_T110 xs i).f1.length <= c1 /\ Kd.string.C w A1 (rd_T110 xs i).f1.length (rd_T110 xs i).f1 /\ (rd_T110 xs i).f2.length <= c2 /\ (Kd.int .i64).C w A2 (rd_T110 xs i).f2.length (rd_T110 xs i).f2 := by
  obtain ⟨ad, c, e, _, hK, hc0⟩ := Kd.C_get h z110 i h0 h1
  have hc : ∀ j u, c[j]? = some u -> w.cell? (ad.add (i.toNat * 3 + j)) = some u := hc0
  obtain ⟨A0, c0, A1, c1, A2, c2, rfl, l0, g0, l1, g1, l2, g2⟩ := k110_open hK
  exact ⟨ad, A0, c0, A1, c1, A2, c2, e, hc 0 _ rfl, by rw [<- add_field _ _ 1 (by omega)]; exact hc 1 _ rfl, by rw [<- add_field _ _ 2 (by omega)]; exact hc 2 _ rfl, l0, g0, l1, g1, l2, g2⟩
theorem q102_0 {p0 q : Prop} (h0 : p0) (h : p0 -> q := by intro q0_; repeat (first | (with_reducible first | exact q0_ | apply Kept.alloc | apply Kept.drewN | apply Kept.drew) | exact q0_)) : q := h h0
def laws_markIntS.l0 : Nat -> List Int -> Int -> Int -> Option (Int × List Int)
 | 0, _, _, _ => none
 | k + 1, x0, x1, x5 => if x5 < (x0.length : Int) then (if 0 <= x5 then (laws_markIntS.l0 k (x0.set (x5 : Int).toNat x1) (wrap64 (x1 + 1)) (wrap64 (x5 + 1))) else (none)) else (some (x1, x0))
def laws_markIntS.f (k : Nat) (l0 : List Int) (a1 : Int) : Option (Int × List Int) := laws_markIntS.l0 k l0 a1 0
theorem laws_markIntS.calls (k : Nat) (P0_ : Nat -> Prop) (u9000_ : Value) (l0 : List Int) (a1 : Int) (r1 : Int) (r2 : List Int) (w0 w : World) (hB : Below w0.heap.size w0 w) (ho0 : Kd.R (Kd.int .i64) 3 w w0.heap.size P0_ u9000_ l0) (h : laws_markIntS.f k l0 a1 = some (r1, r2)) :
  Calls Try.prog 102 #[u9000_, .int .i64 a1] w fun e w' => e = .returned (.int .i64 r1) /\ Kd.R (Kd.int .i64) 3 w' w0.heap.size (fun k_ => (P0_ k_ ∨ w.heap.size <= k_)) u9000_ r2 /\ Below w0.heap.size w0 w' /\ Kept w w' (fun k_ => P0_ k_) := by
 have HO0 := A_ (show Kd.R (Kd.int .i64) 3 w w0.heap.size (fun k_ => (P0_ k_ ∨ w.heap.size <= k_)) u9000_ l0 from Kd.R_mono ho0 (fun k_ hk => (.inl hk)))
 have HK := A_ (Kept.refl w (fun k_ => P0_ k_))
 have HW0 := A_ hB.size
 have HB := A_ hB
 clear hB
 have H : (laws_markIntS.l0 k l0 a1 0) = some (r1, r2) := h
 clear h
 have H' := A_ H
 clear H
 go_enter Try.func102, Try.ntmps102
 go_wp2
 go_loopg [1, 5] k (fun kq v1 v5 w' => ∃ (x0_1 : List Int) (x1_1 : Int) (x5_1 : Int), v1 = .int .i64 x1_1 /\ v5 = .int .i64 x5_1 /\ Aside0 (laws_markIntS.l0 kq x0_1 x1_1 x5_1 = some (r1, r2)) /\ Aside0 (kq <= k) /\ Aside0 (Kd.R (Kd.int .i64) 3 w' w0.heap.size (fun k_ => (P0_ k_ ∨ w.heap.size <= k_)) u9000_ x0_1) /\ Aside0 (Kept w w' (fun k_ => P0_ k_)) /\ Aside0 (Below w0.heap.size w0 w'))
 case atStart => exact ⟨(l0), (a1), (0), (by first | rfl | (simp; done) | (simp [*]; done)), (by first | rfl | (simp; done) | (simp [*]; done)), H', ⟨Nat.le_refl _⟩, ⟨rk_ HO0.out⟩, ⟨q102_0 HK.out⟩, ⟨be_ HB.out⟩⟩
 case round =>
  clear H'
  (try clear c1); (try clear p2)
  obtain ⟨x0_1, x1_1, x5_1, rfl, rfl, HA, HK1, HO_0, HK, HB⟩ := hrel
  cases gk with
  | zero => exact absurd HA.out (by simp [laws_markIntS.l0])
  | succ k1 =>
   have H := HA.out
   clear HA
   simp only [laws_markIntS.l0] at H
   by_cases c3 : x5_1 < (x0_1.length : Int)
   ·rw [if_pos c3] at H
    have c3b0 : decide (x5_1 < (x0_1.length : Int)) = true := decide_eq_true c3
    clear c3
    by_cases c4 : 0 <= x5_1
    ·rw [if_pos c4] at H
     have c4b0 : decide (0 <= x5_1) = true := decide_eq_true c4
     clear c4
     obtain ⟨y209, hy209⟩ : ∃ y_ : List Int, y_ = (x0_1.set (x5_1 : Int).toNat x1_1) := ⟨_, rfl⟩
     replace H : (laws_markIntS.l0 k1 y209 (wrap64 (x1_1 + 1)) (wrap64 (x5_1 + 1))) = some (r1, r2) := by first | (rw [hy209]; with_reducible exact H) | (have H2_ := (Option.bind_some _ _).symm.trans H; rw [hy209]; with_reducible exact H2_) | (have H2_ := (Option.bind_some _ _).symm.trans H; with_reducible exact H2_) | with_reducible exact H | (rw [hy209]; exact H) | exact H
     have Ny209 := A_ hy209
     clear hy209
     have H' := A_ H
     clear H
     obtain ⟨Ao6, co6, eo6⟩ := Kd.R_slice HO_0.out
     subst eo6
     have p5 : 0 <= (x5_1 : Int) := of_decide_eq_true as_
     have q5 : (x5_1 : Int) < ((x0_1.length : Int) : Int) := of_decide_eq_true as_
     obtain ⟨go5, co5, eo5, gb5, gl5, cl5, HG5⟩ := Kd.R_form HO_0.out (by omega)
     (first | cases eo5 | (injection eo5 with ea_ en_ ec_; (first | subst ea_ | (injection ea_ with ea_; subst ea_)); subst ec_; clear en_))
     have GB5 := A_ gb5
     have GG5 := A_ HG5
     clear gb5 gl5 HG5
     have HMgo5 := A_ (show (P0_ go5 ∨ w.heap.size <= go5) from (HO_0.out.1 _ rfl))
     obtain ⟨hx5_0, hf5_0⟩ := Kd.R_celln 0 HO_0.out (x5_1 : Int) p5 q5
     replace p5 := eq_true p5
     replace q5 := eq_true q5
     have HP7 := Kd.R_putg HO_0.out (x5_1 : Int) x1_1
     go_wp2_with (first | ((with_reducible refine gate_store (t := 3) (p := 15) rfl ?_); refine store_event (t := 3) (p := 15) (v := ?vo_w8) (w1 := (wr.setCell ⟨go5, (x5_1 : Int).toNat, none⟩ (.int .i64 x1_1))) ?hg ?ho ?hn ?hr ?_; (case ho => rfl); (case hg => rfl); (case hn => rfl); (case hr => first | (go_simp; done) | (go_simp; rfl)); intro w8 hw; have hg : wr.grownBy w8 (some go5) := (by rw [hw]; exact HP7.2); have hp_ : Kd.R (Kd.int .i64) 3 w8 w0.heap.size (fun k_ => (P0_ k_ ∨ w.heap.size <= k_)) (.slice (some ⟨go5, 0, none⟩) x0_1.length co6) y209 := (by rw [hw, Ny209.out]; exact HP7.1); clear HP7; have n0_ := A_ (hp_); have n1_ := A_ ((by rw [hw]; exact below_set (HB.out) GB5.out : Below w0.heap.size w0 w8)); have n2_ := A_ (Kept.of_grown (S := (fun k_ => P0_ k_)) hg (q102_0 HK.out) (fun k_ e_ => (HO_0.out.1 k_ e_))); clear HO_0; clear HB; clear HK; have HO_0 := n0_; have HB := n1_; have HK := n2_; clear n0_ n1_ n2_; clear hg hw hp_))
     go_roundg k1
     case measure => have := HK1.out; omega
     case rel => exact ⟨(y209), (wrap64 (x1_1 + 1)), (wrap64 (x5_1 + 1)), (by first | rfl | (simp; done) | (simp [*]; done)), (by first | rfl | (simp; done) | (simp [*]; done)), H', ⟨by have := HK1.out; omega⟩, ⟨rk_ HO_0.out⟩, ⟨q102_0 HK.out⟩, ⟨be_ HB.out⟩⟩
    ·rw [if_neg c4] at H
     exact absurd H (by simp)
   ·rw [if_neg c3] at H
    have c3b0 : decide (x5_1 < (x0_1.length : Int)) = false := decide_eq_false c3
    clear c3
    simp only [Option.some.injEq, Prod.mk.injEq] at H
    obtain ⟨rfl, rfl⟩ := H
    obtain ⟨Ao9, co9, eo9⟩ := Kd.R_slice HO_0.out
    subst eo9
    go_wp2
    go_ret
    exact ⟨ew_, by (with_reducible repeat (first | apply Kd.R_alloc | apply Kd.R_drewN | apply Kd.R_drew)); exact HO_0.out, by repeat (first | (with_reducible first | exact HB.out | apply below_alloc | apply pw_below_drewN | apply below_drew1) | exact HB.out), by repeat (first | (with_reducible first | exact HK.out | apply Kept.alloc | apply Kept.drewN | apply Kept.drew) | exact HK.out)⟩
def laws_markText.l0 : Nat -> Int -> ByteArray -> Option (ByteArray)
 | 0, _, _ => none
 | k + 1, x0, x3 => if x0 > 0 then ((some (([(wrap64 (48 + (Int.tmod x0 10))) % 256] : List Int) : List Int)).bind fun y204 => (if (strOfNums y204).size + x3.size <= 9223372036854775807 then (laws_markText.l0 k (wrap64 (Int.tdiv x0 10)) ((strOfNums y204) ++ x3)) else (none))) else (if 1 + x3.size <= 9223372036854775807 then (some ((⟨#[109]⟩ : ByteArray) ++ x3)) else (none))
def laws_markText.f (k : Nat) (a0 : Int) : Option (ByteArray) := if a0 <= 0 then (some (⟨#[109, 48]⟩ : ByteArray)) else (laws_markText.l0 k a0 (⟨#[]⟩ : ByteArray))
theorem laws_markText.calls (k : Nat) (a0 : Int) (r : ByteArray) (w : World) (h : laws_markText.f k a0 = some r) :
  Calls Try.prog 68 #[.int .i64 a0] w fun e w' => e = .returned (.string r) /\ Below w.heap.size w w' := by
 have HB := A_ (Below.refl w.heap.size w)
 have H : (if a0 <= 0 then (some (⟨#[109, 48]⟩ : ByteArray)) else (laws_markText.l0 k a0 (⟨#[]⟩ : ByteArray))) = some r := h
 clear h
 by_cases c2 : a0 <= 0
 ·rw [if_pos c2] at H
  have c2b0 : decide (a0 <= 0) = true := decide_eq_true c2
  clear c2
  obtain rfl := Option.some.inj H
  go_enter Try.func68, Try.ntmps68
  go_wp2
  go_ret
  exact ⟨ew_, by repeat (first | (with_reducible first | exact HB.out | apply below_alloc | apply pw_below_drewN | apply below_drew1) | exact HB.out)⟩
 ·rw [if_neg c2] at H
  have c2b0 : decide (a0 <= 0) = false := decide_eq_false c2
  clear c2
  have H' := A_ H
  clear H
  go_enter Try.func68, Try.ntmps68
  go_wp2
  go_loopg [0, 3] k (fun kq v0 v3 w' => ∃ (x0_1 : Int) (x3_1 : ByteArray), v0 = .int .i64 x0_1 /\ v3 = .string x3_1 /\ Aside0 (laws_markText.l0 kq x0_1 x3_1 = some r) /\ Aside0 (kq <= k) /\ Aside0 (Below w.heap.size w w'))
  case atStart => exact ⟨(a0), ((⟨#[]⟩ : ByteArray)), (by first | rfl | (simp; done) | (simp [*]; done)), (by first | rfl | (simp; done) | (simp [*]; done)), H', ⟨Nat.le_refl _⟩, ⟨be_ HB.out⟩⟩
  case round =>
   clear H'
   (try clear c2); (try clear c2b0); (try clear p2)
   obtain ⟨x0_1, x3_1, rfl, rfl, HA, HK1, HB⟩ := hrel
   cases gk with
   | zero => exact absurd HA.out (by simp [laws_markText.l0])
   | succ k1 =>
    have H := HA.out
    clear HA
    simp only [laws_markText.l0] at H
    by_cases c3 : x0_1 > 0
    ·rw [if_pos c3] at H
     have c3b0 : decide (0 < x0_1) = true := decide_eq_true c3
     clear c3
     obtain ⟨y204, hy204⟩ : ∃ y_ : List Int, y_ = (([(wrap64 (48 + (Int.tmod x0_1 10))) % 256] : List Int)) := ⟨_, rfl⟩
     replace H : (if (strOfNums y204).size + x3_1.size <= 9223372036854775807 then (laws_markText.l0 k1 (wrap64 (Int.tdiv x0_1 10)) ((strOfNums y204) ++ x3_1)) else (none)) = some r := by first | (rw [hy204]; with_reducible exact H) | (have H2_ := (Option.bind_some _ _).symm.trans H; rw [hy204]; with_reducible exact H2_) | (have H2_ := (Option.bind_some _ _).symm.trans H; with_reducible exact H2_) | with_reducible exact H | (rw [hy204]; exact H) | exact H
     have Ny204 := A_ hy204
     clear hy204
     by_cases c4 : (strOfNums y204).size + x3_1.size <= 9223372036854775807
     ·rw [if_pos c4] at H
      have c4b0 := eq_true c4
      have c4b1 : decide ((strOfNums y204).size + x3_1.size <= 9223372036854775807) = true := decide_eq_true c4
      try have c4b2 : (9223372036854775807 < (strOfNums y204).size + x3_1.size) = False := eq_false (Nat.not_lt.2 c4)
      have H' := A_ H
      clear H
      go_wp2_with (first | ((with_reducible refine gate_dst (N := 12) rfl ?_); refine Kd.R_lit (Kd.int .u8) _ 5 ?hg (N := 12) ?hd (xs := ([(wrap64 (48 + (Int.tmod x0_1 10))) % 256] : List Int)) (inner := [.int .u8 ((wrap64 (48 + (Int.tmod x0_1 10))) % 256)]) (ok := fun _ => True) (okp := fun _ => True) ?hr ?hp (fun _ hk => hk) trivial (Below.refl _ _) (Nat.le_refl _) (by simp) ?_; (case hd => rfl); (case hg => rfl); (case hr => first | (go_simp; done) | (go_simp; rfl)); (case hp => exact (Reps.one (show Kd.M (Kd.int .u8) _ _ _ ((wrap64 (48 + (Int.tmod x0_1 10))) % 256) [.int .u8 ((wrap64 (48 + (Int.tmod x0_1 10))) % 256)] from rfl) (Reps.none _ _))); intro v205 w5 ho6 hb hg_ hnew_; clear hg_ hnew_; (first | rw [<- Ny204.out] at ho6 | (simp only [Int.reduceToNat] at ho6; rw [<- Ny204.out] at ho6)); have n0_ := A_ (Kd.R_lower ho6 (bw_ HB.out)); have n1_ := A_ (bs_ HB.out hb); clear HB; have HO206 := n0_; have HB := n1_; clear n0_ n1_; clear hb ho6; have hcv7 := own_string (P := Try.prog) Try.underlying56 Try.underlying5 Try.underlying9 (Kd.own_of_R HO206.out)))
      go_roundg k1
      case measure => have := HK1.out; omega
      case rel => exact ⟨(wrap64 (Int.tdiv x0_1 10)), ((strOfNums y204) ++ x3_1), (by first | rfl | (simp; done) | (simp [*]; done)), (by first | rfl | (simp; done) | (simp [*]; done)), H', ⟨by have := HK1.out; omega⟩, ⟨be_ HB.out⟩⟩
     ·rw [if_neg c4] at H
      exact absurd H (by simp)
    ·rw [if_neg c3] at H
     have c3b0 : decide (0 < x0_1) = false := decide_eq_false c3
     clear c3
     by_cases c8 : 1 + x3_1.size <= 9223372036854775807
     ·rw [if_pos c8] at H
      have c8b0 := eq_true c8
      have c8b1 : decide (1 + x3_1.size <= 9223372036854775807) = true := decide_eq_true c8
      try have c8b2 : (9223372036854775807 < 1 + x3_1.size) = False := eq_false (Nat.not_lt.2 c8)
      obtain rfl := Option.some.inj H
      go_wp2
      go_ret
      exact ⟨ew_, by repeat (first | (with_reducible first | exact HB.out | apply below_alloc | apply pw_below_drewN | apply below_drew1) | exact HB.out)⟩
     ·rw [if_neg c8] at H
      exact absurd H (by simp)
theorem q28_0 {p0 q : Prop} (h0 : p0) (h : p0 -> q := by intro q0_; repeat (first | (with_reducible first | exact q0_ | apply Kept.alloc | apply Kept.drewN | apply Kept.drew) | exact q0_)) : q := h h0
def laws_markStringS.l0 : Nat -> List ByteArray -> Int -> Int -> Option (Int × List ByteArray)
 | 0, _, _, _ => none
 | k + 1, x0, x1, x5 => if x5 < (x0.length : Int) then ((laws_markText.f k x1).bind fun t207 => (if 0 <= x5 then (laws_markStringS.l0 k (x0.set (x5 : Int).toNat t207) (wrap64 (x1 + 1)) (wrap64 (x5 + 1))) else (none))) else (some (x1, x0))
def laws_markStringS.f (k : Nat) (l0 : List ByteArray) (a1 : Int) : Option (Int × List ByteArray) := laws_markStringS.l0 k l0 a1 0
theorem laws_markStringS.calls (k : Nat) (P0_ : Nat -> Prop) (u9000_ : Value) (l0 : List ByteArray) (a1 : Int) (r1 : Int) (r2 : List ByteArray) (w0 w : World) (hB : Below w0.heap.size w0 w) (ho0 : Kd.R Kd.string 9 w w0.heap.size P0_ u9000_ l0) (h : laws_markStringS.f k l0 a1 = some (r1, r2)) :
  Calls Try.prog 28 #[u9000_, .int .i64 a1] w fun e w' => e = .returned (.int .i64 r1) /\ Kd.R Kd.string 9 w' w0.heap.size (fun k_ => (P0_ k_ ∨ w.heap.size <= k_)) u9000_ r2 /\ Below w0.heap.size w0 w' /\ Kept w w' (fun k_ => P0_ k_) := by
 have HO0 := A_ (show Kd.R Kd.string 9 w w0.heap.size (fun k_ => (P0_ k_ ∨ w.heap.size <= k_)) u9000_ l0 from Kd.R_mono ho0 (fun k_ hk => (.inl hk)))
 have HK := A_ (Kept.refl w (fun k_ => P0_ k_))
 have HW0 := A_ hB.size
 have HB := A_ hB
 clear hB
 have H : (laws_markStringS.l0 k l0 a1 0) = some (r1, r2) := h
 clear h
 have H' := A_ H
 clear H
 go_enter Try.func28, Try.ntmps28
 go_wp2
 go_loopg [1, 5] k (fun kq v1 v5 w' => ∃ (x0_1 : List ByteArray) (x1_1 : Int) (x5_1 : Int), v1 = .int .i64 x1_1 /\ v5 = .int .i64 x5_1 /\ Aside0 (laws_markStringS.l0 kq x0_1 x1_1 x5_1 = some (r1, r2)) /\ Aside0 (kq <= k) /\ Aside0 (Kd.R Kd.string 9 w' w0.heap.size (fun k_ => (P0_ k_ ∨ w.heap.size <= k_)) u9000_ x0_1) /\ Aside0 (Kept w w' (fun k_ => P0_ k_)) /\ Aside0 (Below w0.heap.size w0 w'))
 case atStart => exact ⟨(l0), (a1), (0), (by first | rfl | (simp; done) | (simp [*]; done)), (by first | rfl | (simp; done) | (simp [*]; done)), H', ⟨Nat.le_refl _⟩, ⟨rk_ HO0.out⟩, ⟨q28_0 HK.out⟩, ⟨be_ HB.out⟩⟩
 case round =>
  clear H'
  (try clear c2); (try clear p2)
  obtain ⟨x0_1, x1_1, x5_1, rfl, rfl, HA, HK1, HO_0, HK, HB⟩ := hrel
  cases gk with
  | zero => exact absurd HA.out (by simp [laws_markStringS.l0])
  | succ k1 =>
   have H := HA.out
   clear HA
   simp only [laws_markStringS.l0] at H
   by_cases c3 : x5_1 < (x0_1.length : Int)
   ·rw [if_pos c3] at H
    have c3b0 : decide (x5_1 < (x0_1.length : Int)) = true := decide_eq_true c3
    clear c3
    replace H := Option.bind_eq_some_iff.mp H
    obtain ⟨t207, A40, H⟩ := H
    replace H : (if 0 <= x5_1 then (laws_markStringS.l0 k1 (x0_1.set (x5_1 : Int).toNat t207) (wrap64 (x1_1 + 1)) (wrap64 (x5_1 + 1))) else (none)) = some (r1, r2) := H
    have A4 := A_ A40
    clear A40
    by_cases c5 : 0 <= x5_1
    ·rw [if_pos c5] at H
     have c5b0 : decide (0 <= x5_1) = true := decide_eq_true c5
     clear c5
     obtain ⟨y208, hy208⟩ : ∃ y_ : List ByteArray, y_ = (x0_1.set (x5_1 : Int).toNat t207) := ⟨_, rfl⟩
     replace H : (laws_markStringS.l0 k1 y208 (wrap64 (x1_1 + 1)) (wrap64 (x5_1 + 1))) = some (r1, r2) := by first | (rw [hy208]; with_reducible exact H) | (have H2_ := (Option.bind_some _ _).symm.trans H; rw [hy208]; with_reducible exact H2_) | (have H2_ := (Option.bind_some _ _).symm.trans H; with_reducible exact H2_) | with_reducible exact H | (rw [hy208]; exact H) | exact H
     have Ny208 := A_ hy208
     clear hy208
     have H' := A_ H
     clear H
     obtain ⟨Ao7, co7, eo7⟩ := Kd.R_slice HO_0.out
     subst eo7
     go_wp2_with (first | ((with_reducible refine gate_callee (f := 68) rfl ?_); refine goesL_ (some 15) rfl rfl Try.func68 (by kernel_rfl) rfl #[.int .i64 x1_1] rfl (ag_) ?_; (with_reducible refine (laws_markText.calls k1 x1_1 t207 _ A4.out).mono ?_); rintro e w8 ⟨rfl, hb⟩; refine ⟨_, rfl, ?_⟩; have n0_ := A_ (Kd.R_below (rk_ HO_0.out) hb); have n1_ := A_ (Kept.below (S := (fun k_ => P0_ k_)) (q28_0 HK.out) hb); have n2_ := A_ (bs_ HB.out hb); clear HO_0; clear HK; clear HB; have HO_0 := n0_; have HK := n1_; have HB := n2_; clear n0_ n1_ n2_; (try clear hb); (try clear hb2); (try clear hk); (try clear hi); have p6 : 0 <= (x5_1 : Int) := of_decide_eq_true as_; have q6 : (x5_1 : Int) < ((x0_1.length : Int) : Int) := of_decide_eq_true as_; obtain ⟨go6, co6, eo6, gb6, gl6, cl6, HG6⟩ := Kd.R_form HO_0.out (by omega); (first | cases eo6 | (injection eo6 with ea_ en_ ec_; (first | subst ea_ | (injection ea_ with ea_; subst ea_)); subst ec_; clear en_)); have GB6 := A_ gb6; have GG6 := A_ HG6; clear gb6 gl6 HG6; have HMgo6 := A_ (show (P0_ go6 ∨ w.heap.size <= go6) from (HO_0.out.1 _ rfl)); obtain ⟨hx6_0, hf6_0⟩ := Kd.R_celln (⟨#[]⟩ : ByteArray) HO_0.out (x5_1 : Int) p6 q6; replace p6 := eq_true p6; replace q6 := eq_true q6; obtain ⟨hy9_, hz9_⟩ := Kd.R_celln (⟨#[]⟩ : ByteArray) HO_0.out (x5_1 : Int) (of_decide_eq_true as_) (of_decide_eq_true as_); have HP9 := Kd.R_putg HO_0.out (x5_1 : Int) t207) | ((with_reducible refine gate_store (t := 9) (p := 16) rfl ?_); refine store_event (t := 9) (p := 16) (v := ?vo_w10) (w1 := (w8.setCell ⟨go6, (x5_1 : Int).toNat, none⟩ (.string t207))) ?hg ?ho ?hn ?hr ?_; (case ho => rfl); (case hg => rfl); (case hn => rfl); (case hr => first | (go_simp; done) | (go_simp; rfl)); intro w10 hw; have hg : w8.grownBy w10 (some go6) := (by rw [hw]; exact HP9.2); have hp_ : Kd.R Kd.string 9 w10 w0.heap.size (fun k_ => (P0_ k_ ∨ w.heap.size <= k_)) (.slice (some ⟨go6, 0, none⟩) x0_1.length co7) y208 := (by rw [hw, Ny208.out]; exact HP9.1); clear HP9; have n0_ := A_ (hp_); have n1_ := A_ ((by rw [hw]; exact below_set (HB.out) GB6.out : Below w0.heap.size w0 w10)); have n2_ := A_ (Kept.of_grown (S := (fun k_ => P0_ k_)) hg (q28_0 HK.out) (fun k_ e_ => (HO_0.out.1 k_ e_))); clear HO_0; clear HB; clear HK; have HO_0 := n0_; have HB := n1_; have HK := n2_; clear n0_ n1_ n2_; clear hg hw hp_))
     go_roundg k1
     case measure => have := HK1.out; omega
     case rel => exact ⟨(y208), (wrap64 (x1_1 + 1)), (wrap64 (x5_1 + 1)), (by first | rfl | (simp; done) | (simp [*]; done)), (by first | rfl | (simp; done) | (simp [*]; done)), H', ⟨by have := HK1.out; omega⟩, ⟨rk_ HO_0.out⟩, ⟨q28_0 HK.out⟩, ⟨be_ HB.out⟩⟩
    ·rw [if_neg c5] at H
     exact absurd H (by simp)
   ·rw [if_neg c3] at H
    have c3b0 : decide (x5_1 < (x0_1.length : Int)) = false := decide_eq_false c3
    clear c3
    simp only [Option.some.injEq, Prod.mk.injEq] at H
    obtain ⟨rfl, rfl⟩ := H
    obtain ⟨Ao11, co11, eo11⟩ := Kd.R_slice HO_0.out
    subst eo11
    go_wp2
    go_ret
    exact ⟨ew_, by (with_reducible repeat (first | apply Kd.R_alloc | apply Kd.R_drewN | apply Kd.R_drew)); exact HO_0.out, by repeat (first | (with_reducible first | exact HB.out | apply below_alloc | apply pw_below_drewN | apply below_drew1) | exact HB.out), by repeat (first | (with_reducible first | exact HK.out | apply Kept.alloc | apply Kept.drewN | apply Kept.drew) | exact HK.out)⟩
def laws_heldStringS.l0 : Nat -> List ByteArray -> Int -> Int -> Option (Int)
 | 0, _, _, _ => none
 | k + 1, x0, x1, x5 => if x5 < (x0.length : Int) then (if 0 <= x5 then ((laws_markText.f k x1).bind fun t213 => (if (rdOf ByteArray.empty x0 x5).toList = t213.toList then (laws_heldStringS.l0 k x0 (wrap64 (x1 + 1)) (wrap64 (x5 + 1))) else (some (-1)))) else (none)) else (some x1)
def laws_heldStringS.f (k : Nat) (l0 : List ByteArray) (a1 : Int) : Option (Int) := laws_heldStringS.l0 k l0 a1 0
theorem laws_heldStringS.calls (k : Nat) (A0 : Option Addr) (c0 : Nat) (l0 : List ByteArray) (a1 : Int) (r : Int) (w : World) (hr0 : Kd.C Kd.string w A0 l0.length l0) (hc0 : l0.length <= c0) (h : laws_heldStringS.f k l0 a1 = some r) :
  Calls Try.prog 29 #[.slice A0 l0.length c0, .int .i64 a1] w fun e w' => e = .returned (.int .i64 r) /\ Below w.heap.size w w' := by
 have HR0 := A_ hr0
 have HC0 := A_ hc0
 clear hr0 hc0
 have HB := A_ (Below.refl w.heap.size w)
 have H : (laws_heldStringS.l0 k l0 a1 0) = some r := h
 clear h
 have H' := A_ H
 clear H
 go_enter Try.func29, Try.ntmps29
 go_wp2
 go_loopg [1, 5] k (fun kq v1 v5 w' => ∃ (x1_1 : Int) (x5_1 : Int), v1 = .int .i64 x1_1 /\ v5 = .int .i64 x5_1 /\ Aside0 (laws_heldStringS.l0 kq l0 x1_1 x5_1 = some r) /\ Aside0 (kq <= k) /\ Aside0 (Below w.heap.size w w'))
 case atStart => exact ⟨(a1), (0), (by first | rfl | (simp; done) | (simp [*]; done)), (by first | rfl | (simp; done) | (simp [*]; done)), H', ⟨Nat.le_refl _⟩, ⟨be_ HB.out⟩⟩
 case round =>
  clear H'
  (try clear c2); (try clear p2)
  obtain ⟨x1_1, x5_1, rfl, rfl, HA, HK1, HB⟩ := hrel
  cases gk with
  | zero => exact absurd HA.out (by simp [laws_heldStringS.l0])
  | succ k1 =>
   have H := HA.out
   clear HA
   simp only [laws_heldStringS.l0] at H
   by_cases c3 : x5_1 < (l0.length : Int)
   ·rw [if_pos c3] at H
    have c3b0 : decide (x5_1 < (l0.length : Int)) = true := decide_eq_true c3
    clear c3
    by_cases c4 : 0 <= x5_1
    ·rw [if_pos c4] at H
     have c4b0 : decide (0 <= x5_1) = true := decide_eq_true c4
     clear c4
     replace H := Option.bind_eq_some_iff.mp H
     obtain ⟨t213, A50, H⟩ := H
     replace H : (if (rdOf ByteArray.empty l0 x5_1).toList = t213.toList then (laws_heldStringS.l0 k1 l0 (wrap64 (x1_1 + 1)) (wrap64 (x5_1 + 1))) else (some (-1))) = some r := H
     have A5 := A_ A50
     clear A50
     by_cases c6 : (rdOf ByteArray.empty l0 x5_1).toList = t213.toList
     ·rw [if_pos c6] at H
      have c6b0 : ((rdOf ByteArray.empty l0 x5_1).toList == t213.toList) = true := beq_iff_eq.mpr c6
      have c6b1 : ((rdOf ByteArray.empty l0 x5_1).toList != t213.toList) = false := bne_eq_false_iff_eq.mpr c6
      clear c6
      have H' := A_ H
      clear H
      try go_wp2
      replace HB := A_ (below_drew1 HB.out)
      have p212 : 0 <= (x5_1 : Int) := of_decide_eq_true as_
      have q212 : x5_1 < (l0.length : Int) := of_decide_eq_true as_
      obtain ⟨ad212, e212, hx212_0⟩ := Kd.at_string HR0.out x5_1 p212 q212
      have hw212_0 := hx212_0
      cases e212
      replace hx212_0 := (HB.out.cell (World.block_lt_of_cell? w _ hx212_0)).trans hx212_0
      replace p212 := eq_true p212
      replace q212 := eq_true q212
      refine start_ (n := 7) (S := fun w' => w'.cell? (ad212.add (x5_1).toNat) = some (.string (rdOf ByteArray.empty l0 x5_1))) (ds := []) (bt 7 0) (by kernel_rfl) rfl rfl (((HB.out.cell (World.block_lt_of_cell? w _ hw212_0)).trans hw212_0)) (fun hHeld => ?_)
      generalize wr.drew = w7 at HB hx212_0 hHeld ⊢
      refine pu_ 0 12 1 ?_
      refine pu_ 1 13 3 ?_
      refine pu_ 2 14 7 ?_
      refine pu_ 4 16 23 ?_
      refine take_ (i := 3) (N := some 15) (v := ?_) (a' := ?_) (bt 7 31) rfl rfl (by kernel_rfl) (fun _ _ _ h => h) (Or.inl ⟨by rfl, ?_⟩) hHeld ?_ ?_
      rotate_left
      ·intro w' s0
       go_simp
       with_reducible rfl
      rotate_left
      ·simp only [Act.put, sx_, wx_]
       rfl
      refine on_ 5 (some 17) 63 (fun K hK => ?_)
      refine goes_ Try.func68 (by kernel_rfl) rfl #[.int .i64 x1_1] (by rfl) rfl rfl (ag_) ?_
      with_reducible refine (laws_markText.calls k1 x1_1 t213 _ A5.out).mono ?_
      rintro e w8 ⟨rfl, hb⟩
      refine ⟨_, rfl, ?_⟩
      replace HB := A_ (bs_ HB.out hb)
      (try clear hb)
      (try clear hb2)
      (try clear hk)
      (try clear hi)
      refine hK.out _ _ (((HB.out.cell (World.block_lt_of_cell? w _ hw212_0)).trans hw212_0)) (fun hHeld => ?_)
      clear hK K
      refine no_ 17 ?_
      refine pu_ 6 18 127 ?_
      refine done_ (by kernel_rfl) ?_
      try go_wp2
      go_roundg k1
      case measure => have := HK1.out; omega
      case rel => exact ⟨(wrap64 (x1_1 + 1)), (wrap64 (x5_1 + 1)), (by first | rfl | (simp; done) | (simp [*]; done)), (by first | rfl | (simp; done) | (simp [*]; done)), H', ⟨by have := HK1.out; omega⟩, ⟨be_ HB.out⟩⟩
     ·rw [if_neg c6] at H
      have c6b0 : ((rdOf ByteArray.empty l0 x5_1).toList == t213.toList) = false := beq_eq_false_iff_ne.mpr c6
      have c6b1 : ((rdOf ByteArray.empty l0 x5_1).toList != t213.toList) = true := bne_iff_ne.mpr c6
      obtain rfl := Option.some.inj H
      try go_wp2
      replace HB := A_ (below_drew1 HB.out)
      have p212 : 0 <= (x5_1 : Int) := of_decide_eq_true as_
      have q212 : x5_1 < (l0.length : Int) := of_decide_eq_true as_
      obtain ⟨ad212, e212, hx212_0⟩ := Kd.at_string HR0.out x5_1 p212 q212
      have hw212_0 := hx212_0
      cases e212
      replace hx212_0 := (HB.out.cell (World.block_lt_of_cell? w _ hx212_0)).trans hx212_0
      replace p212 := eq_true p212
      replace q212 := eq_true q212
      refine start_ (n := 7) (S := fun w' => w'.cell? (ad212.add (x5_1).toNat) = some (.string (rdOf ByteArray.empty l0 x5_1))) (ds := []) (bt 7 0) (by kernel_rfl) rfl rfl (((HB.out.cell (World.block_lt_of_cell? w _ hw212_0)).trans hw212_0)) (fun hHeld => ?_)
      generalize wr.drew = w9 at HB hx212_0 hHeld ⊢
      refine pu_ 0 12 1 ?_
      refine pu_ 1 13 3 ?_
      refine pu_ 2 14 7 ?_
      refine pu_ 4 16 23 ?_
      refine take_ (i := 3) (N := some 15) (v := ?_) (a' := ?_) (bt 7 31) rfl rfl (by kernel_rfl) (fun _ _ _ h => h) (Or.inl ⟨by rfl, ?_⟩) hHeld ?_ ?_
      rotate_left
      ·intro w' s0
       go_simp
       with_reducible rfl
      rotate_left
      ·simp only [Act.put, sx_, wx_]
       rfl
      refine on_ 5 (some 17) 63 (fun K hK => ?_)
      refine goes_ Try.func68 (by kernel_rfl) rfl #[.int .i64 x1_1] (by rfl) rfl rfl (ag_) ?_
      with_reducible refine (laws_markText.calls k1 x1_1 t213 _ A5.out).mono ?_
      rintro e w10 ⟨rfl, hb⟩
      refine ⟨_, rfl, ?_⟩
      replace HB := A_ (bs_ HB.out hb)
      (try clear hb)
      (try clear hb2)
      (try clear hk)
      (try clear hi)
      refine hK.out _ _ (((HB.out.cell (World.block_lt_of_cell? w _ hw212_0)).trans hw212_0)) (fun hHeld => ?_)
      clear hK K
      refine no_ 17 ?_
      refine pu_ 6 18 127 ?_
      refine done_ (by kernel_rfl) ?_
      try go_wp2
      go_ret
      exact ⟨ew_, by repeat (first | (with_reducible first | exact HB.out | apply below_alloc | apply pw_below_drewN | apply below_drew1) | exact HB.out)⟩
    ·rw [if_neg c4] at H
     exact absurd H (by simp)
   ·rw [if_neg c3] at H
    have c3b0 : decide (x5_1 < (l0.length : Int)) = false := decide_eq_false c3
    clear c3
    obtain rfl := Option.some.inj H
    go_wp2
    go_ret
    exact ⟨ew_, by repeat (first | (with_reducible first | exact HB.out | apply below_alloc | apply pw_below_drewN | apply below_drew1) | exact HB.out)⟩
def laws_heldIntS.l0 : Nat -> List Int -> Int -> Int -> Option (Int)
 | 0, _, _, _ => none
 | k + 1, x0, x1, x5 => if x5 < (x0.length : Int) then (if 0 <= x5 then (if (rd x0 x5) = x1 then (laws_heldIntS.l0 k x0 (wrap64 (x1 + 1)) (wrap64 (x5 + 1))) else (some (-1))) else (none)) else (some x1)
def laws_heldIntS.f (k : Nat) (l0 : List Int) (a1 : Int) : Option (Int) := laws_heldIntS.l0 k l0 a1 0
theorem laws_heldIntS.calls (k : Nat) (A0 : Option Addr) (c0 : Nat) (l0 : List Int) (a1 : Int) (r : Int) (w : World) (hr0 : Kd.C (Kd.int .i64) w A0 l0.length l0) (hc0 : l0.length <= c0) (h : laws_heldIntS.f k l0 a1 = some r) :
  Calls Try.prog 111 #[.slice A0 l0.length c0, .int .i64 a1] w fun e w' => e = .returned (.int .i64 r) /\ Drawn0 w w' := by
 have HR0 := A_ hr0
 have HC0 := A_ hc0
 clear hr0 hc0
 have H : (laws_heldIntS.l0 k l0 a1 0) = some r := h
 clear h
 have H' := A_ H
 clear H
 go_enter Try.func111, Try.ntmps111
 go_wp2
 go_loopg [1, 5] k (fun kq v1 v5 w' => ∃ (x1_1 : Int) (x5_1 : Int), v1 = .int .i64 x1_1 /\ v5 = .int .i64 x5_1 /\ Aside0 (laws_heldIntS.l0 kq l0 x1_1 x5_1 = some r) /\ Aside0 (kq <= k) /\ Drawn0 w w')
 case atStart => exact ⟨(a1), (0), (by first | rfl | (simp; done) | (simp [*]; done)), (by first | rfl | (simp; done) | (simp [*]; done)), H', ⟨Nat.le_refl _⟩, by repeat (first | exact Drawn0.refl _ | apply Drawn0.step)⟩
 case round =>
  clear H'
  (try clear c1); (try clear p2)
  obtain ⟨x1_1, x5_1, rfl, rfl, HA, HK1, ⟨m1, rfl⟩⟩ := hrel
  cases gk with
  | zero => exact absurd HA.out (by simp [laws_heldIntS.l0])
  | succ k1 =>
   have H := HA.out
   clear HA
   simp only [laws_heldIntS.l0] at H
   by_cases c3 : x5_1 < (l0.length : Int)
   ·rw [if_pos c3] at H
    have c3b0 : decide (x5_1 < (l0.length : Int)) = true := decide_eq_true c3
    clear c3
    by_cases c4 : 0 <= x5_1
    ·rw [if_pos c4] at H
     have c4b0 : decide (0 <= x5_1) = true := decide_eq_true c4
     clear c4
     by_cases c5 : (rd l0 x5_1) = x1_1
     ·rw [if_pos c5] at H
      have c5b0 : ((rd l0 x5_1) == x1_1) = true := beq_iff_eq.mpr c5
      have c5b1 : ((rd l0 x5_1) != x1_1) = false := bne_eq_false_iff_eq.mpr c5
      clear c5
      have H' := A_ H
      clear H
      have p214 : 0 <= (x5_1 : Int) := of_decide_eq_true as_
      have q214 : x5_1 < (l0.length : Int) := of_decide_eq_true as_
      obtain ⟨ad214, e214, hx214_0⟩ := Kd.at_int HR0.out x5_1 p214 q214
      cases e214
      replace p214 := eq_true p214
      replace q214 := eq_true q214
      go_wp2
      go_roundg k1
      case measure => have := HK1.out; omega
      case rel => exact ⟨(wrap64 (x1_1 + 1)), (wrap64 (x5_1 + 1)), (by first | rfl | (simp; done) | (simp [*]; done)), (by first | rfl | (simp; done) | (simp [*]; done)), H', ⟨by have := HK1.out; omega⟩, by repeat (first | exact Drawn0.refl _ | apply Drawn0.step)⟩
     ·rw [if_neg c5] at H
      have c5b0 : ((rd l0 x5_1) == x1_1) = false := beq_eq_false_iff_ne.mpr c5
      have c5b1 : ((rd l0 x5_1) != x1_1) = true := bne_iff_ne.mpr c5
      obtain rfl := Option.some.inj H
      have p214 : 0 <= (x5_1 : Int) := of_decide_eq_true as_
      have q214 : x5_1 < (l0.length : Int) := of_decide_eq_true as_
      obtain ⟨ad214, e214, hx214_0⟩ := Kd.at_int HR0.out x5_1 p214 q214
      cases e214
      replace p214 := eq_true p214
      replace q214 := eq_true q214
      go_wp2
      go_ret
      exact ⟨by first | rfl | (simp; done) | (simp [*]; done), by repeat (first | exact Drawn0.refl _ | apply Drawn0.step)⟩
    ·rw [if_neg c4] at H
     exact absurd H (by simp)
   ·rw [if_neg c3] at H
    have c3b0 : decide (x5_1 < (l0.length : Int)) = false := decide_eq_false c3
    clear c3
    obtain rfl := Option.some.inj H
    go_wp2
    go_ret
    exact ⟨by first | rfl | (simp; done) | (simp [*]; done), by repeat (first | exact Drawn0.refl _ | apply Drawn0.step)⟩
def laws_heldPageS.l0 : Nat -> List (S110) -> Int -> Int -> Option (Int)
 | 0, _, _, _ => none
 | k + 1, x0, x1, x5 => if x5 < (x0.length : Int) then (if 0 <= x5 then ((laws_heldStringS.f k ((rd_T110 x0 x5).f0) x1).bind fun t216 => (if t216 < 0 then (some (-1)) else ((laws_heldStringS.f k ((rd_T110 x0 x5).f1) t216).bind fun t218 => (if t218 < 0 then (some (-1)) else ((laws_heldIntS.f k ((rd_T110 x0 x5).f2) t218).bind fun t220 => (if t220 < 0 then (some (-1)) else (laws_heldPageS.l0 k x0 t220 (wrap64 (x5 + 1))))))))) else (none)) else (some x1)
def laws_heldPageS.f (k : Nat) (l0 : List (S110)) (a1 : Int) : Option (Int) := laws_heldPageS.l0 k l0 a1 0
theorem laws_heldPageS.calls (k : Nat) (A0 : Option Addr) (c0 : Nat) (l0 : List (S110)) (a1 : Int) (r : Int) (w : World) (hr0 : Kd.C k110 w A0 l0.length l0) (hc0 : l0.length <= c0) (h : laws_heldPageS.f k l0 a1 = some r) :
  Calls Try.prog 82 #[.slice A0 l0.length c0, .int .i64 a1] w fun e w' => e = .returned (.int .i64 r) /\ Below w.heap.size w w' := by
 have HR0 := A_ hr0
 have HC0 := A_ hc0
 clear hr0 hc0
 have HB := A_ (Below.refl w.heap.size w)
 have H : (laws_heldPageS.l0 k l0 a1 0) = some r := h
 clear h
 have H' := A_ H
 clear H
 go_enter Try.func82, Try.ntmps82
 go_wp2
 go_loopg [1, 5] k (fun kq v1 v5 w' => ∃ (x1_1 : Int) (x5_1 : Int), v1 = .int .i64 x1_1 /\ v5 = .int .i64 x5_1 /\ Aside0 (laws_heldPageS.l0 kq l0 x1_1 x5_1 = some r) /\ Aside0 (kq <= k) /\ Aside0 (Below w.heap.size w w'))
 case atStart => exact ⟨(a1), (0), (by first | rfl | (simp; done) | (simp [*]; done)), (by first | rfl | (simp; done) | (simp [*]; done)), H', ⟨Nat.le_refl _⟩, ⟨be_ HB.out⟩⟩
 case round =>
  clear H'
  (try clear p2)
  obtain ⟨x1_1, x5_1, rfl, rfl, HA, HK1, HB⟩ := hrel
  cases gk with
  | zero => exact absurd HA.out (by simp [laws_heldPageS.l0])
  | succ k1 =>
   have H := HA.out
   clear HA
   simp only [laws_heldPageS.l0] at H
   by_cases c3 : x5_1 < (l0.length : Int)
   ·rw [if_pos c3] at H
    have c3b0 : decide (x5_1 < (l0.length : Int)) = true := decide_eq_true c3
    clear c3
    by_cases c4 : 0 <= x5_1
    ·rw [if_pos c4] at H
     have c4b0 : decide (0 <= x5_1) = true := decide_eq_true c4
     clear c4
     replace H := Option.bind_eq_some_iff.mp H
     obtain ⟨t216, A50, H⟩ := H
     replace H : (if t216 < 0 then (some (-1)) else ((laws_heldStringS.f k1 ((rd_T110 l0 x5_1).f1) t216).bind fun t218 => (if t218 < 0 then (some (-1)) else ((laws_heldIntS.f k1 ((rd_T110 l0 x5_1).f2) t218).bind fun t220 => (if t220 < 0 then (some (-1)) else (laws_heldPageS.l0 k1 l0 t220 (wrap64 (x5_1 + 1)))))))) = some r := H
     have A5 := A_ A50
     clear A50
     by_cases c6 : t216 < 0
     ·rw [if_pos c6] at H
      have c6b0 : decide (t216 < 0) = true := decide_eq_true c6
      clear c6
      obtain rfl := Option.some.inj H
      have p215 : 0 <= (x5_1 : Int) := of_decide_eq_true as_
      have q215 : x5_1 < (l0.length : Int) := of_decide_eq_true as_
      obtain ⟨ad215, A215_0, c215_0, A215_1, c215_1, A215_2, c215_2, e215, hx215_0, hx215_1, hx215_2, hl215_0, hi215_0, hl215_1, hi215_1, hl215_2, hi215_2⟩ := at_T110 HR0.out x5_1 p215 q215
      cases e215
      replace hx215_0 := (HB.out.cell (World.block_lt_of_cell? w _ hx215_0)).trans hx215_0
      replace hx215_1 := (HB.out.cell (World.block_lt_of_cell? w _ hx215_1)).trans hx215_1
      replace hx215_2 := (HB.out.cell (World.block_lt_of_cell? w _ hx215_2)).trans hx215_2
      have HR215_0 := A_ hi215_0
      have HC215_0 := A_ hl215_0
      clear hi215_0 hl215_0
      have HR215_1 := A_ hi215_1
      have HC215_1 := A_ hl215_1
      clear hi215_1 hl215_1
      have HR215_2 := A_ hi215_2
      have HC215_2 := A_ hl215_2
      clear hi215_2 hl215_2
      replace p215 := eq_true p215
      replace q215 := eq_true q215
      go_wp2_with (first | ((with_reducible refine gate_callee (f := 29) rfl ?_); refine goesL_ (some 18) rfl rfl Try.func29 (by kernel_rfl) rfl #[.slice A215_0 ((rd_T110 l0 x5_1).f0).length c215_0, .int .i64 x1_1] rfl (ag_) ?_; (with_reducible refine (laws_heldStringS.calls k1 _ _ ((rd_T110 l0 x5_1).f0) x1_1 t216 _ ?side1 ?side2 A5.out).mono ?_); (case side1 => refine cd_ ?_; exact (Kd.C_below HR215_0.out HB.out)); (case side2 => exact HC215_0.out); rintro e w7 ⟨rfl, hb⟩; refine ⟨_, rfl, ?_⟩; have n0_ := A_ (bs_ HB.out hb); clear HB; have HB := n0_; clear n0_; (try clear hb); (try clear hb2); (try clear hk); (try clear hi)))
      go_ret
      exact ⟨ew_, by repeat (first | (with_reducible first | exact HB.out | apply below_alloc | apply pw_below_drewN | apply below_drew1) | exact HB.out)⟩
     ·rw [if_neg c6] at H
      have c6b0 : decide (t216 < 0) = false := decide_eq_false c6
      clear c6
      replace H := Option.bind_eq_some_iff.mp H
      obtain ⟨t218, A80, H⟩ := H
      replace H : (if t218 < 0 then (some (-1)) else ((laws_heldIntS.f k1 ((rd_T110 l0 x5_1).f2) t218).bind fun t220 => (if t220 < 0 then (some (-1)) else (laws_heldPageS.l0 k1 l0 t220 (wrap64 (x5_1 + 1)))))) = some r := H
      have A8 := A_ A80
      clear A80
      by_cases c9 : t218 < 0
      ·rw [if_pos c9] at H
       have c9b0 : decide (t218 < 0) = true := decide_eq_true c9
       clear c9
       obtain rfl := Option.some.inj H
       have p215 : 0 <= (x5_1 : Int) := of_decide_eq_true as_
       have q215 : x5_1 < (l0.length : Int) := of_decide_eq_true as_
       obtain ⟨ad215, A215_0, c215_0, A215_1, c215_1, A215_2, c215_2, e215, hx215_0, hx215_1, hx215_2, hl215_0, hi215_0, hl215_1, hi215_1, hl215_2, hi215_2⟩ := at_T110 HR0.out x5_1 p215 q215
       cases e215
       replace hx215_0 := (HB.out.cell (World.block_lt_of_cell? w _ hx215_0)).trans hx215_0
       replace hx215_1 := (HB.out.cell (World.block_lt_of_cell? w _ hx215_1)).trans hx215_1
       replace hx215_2 := (HB.out.cell (World.block_lt_of_cell? w _ hx215_2)).trans hx215_2
       have HR215_0 := A_ hi215_0
       have HC215_0 := A_ hl215_0
       clear hi215_0 hl215_0
       have HR215_1 := A_ hi215_1
       have HC215_1 := A_ hl215_1
       clear hi215_1 hl215_1
       have HR215_2 := A_ hi215_2
       have HC215_2 := A_ hl215_2
       clear hi215_2 hl215_2
       replace p215 := eq_true p215
       replace q215 := eq_true q215
       go_wp2_with (first | ((with_reducible refine gate_callee (f := 29) rfl ?_); refine goesL_ (some 18) rfl rfl Try.func29 (by kernel_rfl) rfl #[.slice A215_0 ((rd_T110 l0 x5_1).f0).length c215_0, .int .i64 x1_1] rfl (ag_) ?_; (with_reducible refine (laws_heldStringS.calls k1 _ _ ((rd_T110 l0 x5_1).f0) x1_1 t216 _ ?side1 ?side2 A5.out).mono ?_); (case side1 => refine cd_ ?_; exact (Kd.C_below HR215_0.out HB.out)); (case side2 => exact HC215_0.out); rintro e w10 ⟨rfl, hb⟩; refine ⟨_, rfl, ?_⟩; have n0_ := A_ (bs_ HB.out hb); clear HB; have HB := n0_; clear n0_; (try clear hb); (try clear hb2); (try clear hk); (try clear hi); have p217 : 0 <= (x5_1 : Int) := of_decide_eq_true as_; have q217 : x5_1 < (l0.length : Int) := of_decide_eq_true as_; obtain ⟨ad217, A217_0, c217_0, A217_1, c217_1, A217_2, c217_2, e217, hx217_0, hx217_1, hx217_2, hl217_0, hi217_0, hl217_1, hi217_1, hl217_2, hi217_2⟩ := at_T110 HR0.out x5_1 p217 q217; obtain rfl : ad215 = ad217 := (by injection e217); replace hx217_0 := (HB.out.cell (World.block_lt_of_cell? w _ hx217_0)).trans hx217_0; replace hx217_1 := (HB.out.cell (World.block_lt_of_cell? w _ hx217_1)).trans hx217_1; replace hx217_2 := (HB.out.cell (World.block_lt_of_cell? w _ hx217_2)).trans hx217_2; have HR217_0 := A_ hi217_0; have HC217_0 := A_ hl217_0; clear hi217_0 hl217_0; have HR217_1 := A_ hi217_1; have HC217_1 := A_ hl217_1; clear hi217_1 hl217_1; have HR217_2 := A_ hi217_2; have HC217_2 := A_ hl217_2; clear hi217_2 hl217_2; replace p217 := eq_true p217; replace q217 := eq_true q217) | ((with_reducible refine gate_callee (f := 29) rfl ?_); refine goesL_ (some 27) rfl rfl Try.func29 (by kernel_rfl) rfl #[.slice A217_1 ((rd_T110 l0 x5_1).f1).length c217_1, .int .i64 t216] rfl (ag_) ?_; (with_reducible refine (laws_heldStringS.calls k1 _ _ ((rd_T110 l0 x5_1).f1) t216 t218 _ ?side1 ?side2 A8.out).mono ?_); (case side1 => refine cd_ ?_; exact (Kd.C_below HR217_1.out HB.out)); (case side2 => exact HC217_1.out); rintro e w11 ⟨rfl, hb⟩; refine ⟨_, rfl, ?_⟩; have n0_ := A_ (bs_ HB.out hb); clear HB; have HB := n0_; clear n0_; (try clear hb); (try clear hb2); (try clear hk); (try clear hi)))
       go_ret
       exact ⟨ew_, by repeat (first | (with_reducible first | exact HB.out | apply below_alloc | apply pw_below_drewN | apply below_drew1) | exact HB.out)⟩
      ·rw [if_neg c9] at H
       have c9b0 : decide (t218 < 0) = false := decide_eq_false c9
       clear c9
       replace H := Option.bind_eq_some_iff.mp H
       obtain ⟨t220, A120, H⟩ := H
       replace H : (if t220 < 0 then (some (-1)) else (laws_heldPageS.l0 k1 l0 t220 (wrap64 (x5_1 + 1)))) = some r := H
       have A12 := A_ A120
       clear A120
       by_cases c13 : t220 < 0
       ·rw [if_pos c13] at H
        have c13b0 : decide (t220 < 0) = true := decide_eq_true c13
        clear c13
        obtain rfl := Option.some.inj H
        have p215 : 0 <= (x5_1 : Int) := of_decide_eq_true as_
        have q215 : x5_1 < (l0.length : Int) := of_decide_eq_true as_
        obtain ⟨ad215, A215_0, c215_0, A215_1, c215_1, A215_2, c215_2, e215, hx215_0, hx215_1, hx215_2, hl215_0, hi215_0, hl215_1, hi215_1, hl215_2, hi215_2⟩ := at_T110 HR0.out x5_1 p215 q215
        cases e215
        replace hx215_0 := (HB.out.cell (World.block_lt_of_cell? w _ hx215_0)).trans hx215_0
        replace hx215_1 := (HB.out.cell (World.block_lt_of_cell? w _ hx215_1)).trans hx215_1
        replace hx215_2 := (HB.out.cell (World.block_lt_of_cell? w _ hx215_2)).trans hx215_2
        have HR215_0 := A_ hi215_0
        have HC215_0 := A_ hl215_0
        clear hi215_0 hl215_0
        have HR215_1 := A_ hi215_1
        have HC215_1 := A_ hl215_1
        clear hi215_1 hl215_1
        have HR215_2 := A_ hi215_2
        have HC215_2 := A_ hl215_2
        clear hi215_2 hl215_2
        replace p215 := eq_true p215
        replace q215 := eq_true q215
        go_wp2_with (first | ((with_reducible refine gate_callee (f := 29) rfl ?_); refine goesL_ (some 18) rfl rfl Try.func29 (by kernel_rfl) rfl #[.slice A215_0 ((rd_T110 l0 x5_1).f0).length c215_0, .int .i64 x1_1] rfl (ag_) ?_; (with_reducible refine (laws_heldStringS.calls k1 _ _ ((rd_T110 l0 x5_1).f0) x1_1 t216 _ ?side1 ?side2 A5.out).mono ?_); (case side1 => refine cd_ ?_; exact (Kd.C_below HR215_0.out HB.out)); (case side2 => exact HC215_0.out); rintro e w14 ⟨rfl, hb⟩; refine ⟨_, rfl, ?_⟩; have n0_ := A_ (bs_ HB.out hb); clear HB; have HB := n0_; clear n0_; (try clear hb); (try clear hb2); (try clear hk); (try clear hi); have p217 : 0 <= (x5_1 : Int) := of_decide_eq_true as_; have q217 : x5_1 < (l0.length : Int) := of_decide_eq_true as_; obtain ⟨ad217, A217_0, c217_0, A217_1, c217_1, A217_2, c217_2, e217, hx217_0, hx217_1, hx217_2, hl217_0, hi217_0, hl217_1, hi217_1, hl217_2, hi217_2⟩ := at_T110 HR0.out x5_1 p217 q217; obtain rfl : ad215 = ad217 := (by injection e217); replace hx217_0 := (HB.out.cell (World.block_lt_of_cell? w _ hx217_0)).trans hx217_0; replace hx217_1 := (HB.out.cell (World.block_lt_of_cell? w _ hx217_1)).trans hx217_1; replace hx217_2 := (HB.out.cell (World.block_lt_of_cell? w _ hx217_2)).trans hx217_2; have HR217_0 := A_ hi217_0; have HC217_0 := A_ hl217_0; clear hi217_0 hl217_0; have HR217_1 := A_ hi217_1; have HC217_1 := A_ hl217_1; clear hi217_1 hl217_1; have HR217_2 := A_ hi217_2; have HC217_2 := A_ hl217_2; clear hi217_2 hl217_2; replace p217 := eq_true p217; replace q217 := eq_true q217) | ((with_reducible refine gate_callee (f := 29) rfl ?_); refine goesL_ (some 27) rfl rfl Try.func29 (by kernel_rfl) rfl #[.slice A217_1 ((rd_T110 l0 x5_1).f1).length c217_1, .int .i64 t216] rfl (ag_) ?_; (with_reducible refine (laws_heldStringS.calls k1 _ _ ((rd_T110 l0 x5_1).f1) t216 t218 _ ?side1 ?side2 A8.out).mono ?_); (case side1 => refine cd_ ?_; exact (Kd.C_below HR217_1.out HB.out)); (case side2 => exact HC217_1.out); rintro e w15 ⟨rfl, hb⟩; refine ⟨_, rfl, ?_⟩; have n0_ := A_ (bs_ HB.out hb); clear HB; have HB := n0_; clear n0_; (try clear hb); (try clear hb2); (try clear hk); (try clear hi); have p219 : 0 <= (x5_1 : Int) := of_decide_eq_true as_; have q219 : x5_1 < (l0.length : Int) := of_decide_eq_true as_; obtain ⟨ad219, A219_0, c219_0, A219_1, c219_1, A219_2, c219_2, e219, hx219_0, hx219_1, hx219_2, hl219_0, hi219_0, hl219_1, hi219_1, hl219_2, hi219_2⟩ := at_T110 HR0.out x5_1 p219 q219; obtain rfl : ad215 = ad219 := (by injection e219); replace hx219_0 := (HB.out.cell (World.block_lt_of_cell? w _ hx219_0)).trans hx219_0; replace hx219_1 := (HB.out.cell (World.block_lt_of_cell? w _ hx219_1)).trans hx219_1; replace hx219_2 := (HB.out.cell (World.block_lt_of_cell? w _ hx219_2)).trans hx219_2; have HR219_0 := A_ hi219_0; have HC219_0 := A_ hl219_0; clear hi219_0 hl219_0; have HR219_1 := A_ hi219_1; have HC219_1 := A_ hl219_1; clear hi219_1 hl219_1; have HR219_2 := A_ hi219_2; have HC219_2 := A_ hl219_2; clear hi219_2 hl219_2; replace p219 := eq_true p219; replace q219 := eq_true q219) | ((with_reducible refine gate_callee (f := 111) rfl ?_); refine goesL_ (some 36) rfl rfl Try.func111 (by kernel_rfl) rfl #[.slice A219_2 ((rd_T110 l0 x5_1).f2).length c219_2, .int .i64 t218] rfl (ag_) ?_; (with_reducible refine (laws_heldIntS.calls k1 _ _ ((rd_T110 l0 x5_1).f2) t218 t220 _ ?side1 ?side2 A12.out).mono ?_); (case side1 => refine cd_ ?_; exact (Kd.C_below HR219_2.out HB.out)); (case side2 => exact HC219_2.out); rintro e w' ⟨rfl, ⟨nd, rfl⟩⟩; refine ⟨_, rfl, ?_⟩))
        go_ret
        exact ⟨ew_, by repeat (first | (with_reducible first | exact HB.out | apply below_alloc | apply pw_below_drewN | apply below_drew1) | exact HB.out)⟩
       ·rw [if_neg c13] at H
        have c13b0 : decide (t220 < 0) = false := decide_eq_false c13
        clear c13
        have H' := A_ H
        clear H
        have p215 : 0 <= (x5_1 : Int) := of_decide_eq_true as_
        have q215 : x5_1 < (l0.length : Int) := of_decide_eq_true as_
        obtain ⟨ad215, A215_0, c215_0, A215_1, c215_1, A215_2, c215_2, e215, hx215_0, hx215_1, hx215_2, hl215_0, hi215_0, hl215_1, hi215_1, hl215_2, hi215_2⟩ := at_T110 HR0.out x5_1 p215 q215
        cases e215
        replace hx215_0 := (HB.out.cell (World.block_lt_of_cell? w _ hx215_0)).trans hx215_0
        replace hx215_1 := (HB.out.cell (World.block_lt_of_cell? w _ hx215_1)).trans hx215_1
        replace hx215_2 := (HB.out.cell (World.block_lt_of_cell? w _ hx215_2)).trans hx215_2
        have HR215_0 := A_ hi215_0
        have HC215_0 := A_ hl215_0
        clear hi215_0 hl215_0
        have HR215_1 := A_ hi215_1
        have HC215_1 := A_ hl215_1
        clear hi215_1 hl215_1
        have HR215_2 := A_ hi215_2
        have HC215_2 := A_ hl215_2
        clear hi215_2 hl215_2
        replace p215 := eq_true p215
        replace q215 := eq_true q215
        go_wp2_with (first | ((with_reducible refine gate_callee (f := 29) rfl ?_); refine goesL_ (some 18) rfl rfl Try.func29 (by kernel_rfl) rfl #[.slice A215_0 ((rd_T110 l0 x5_1).f0).length c215_0, .int .i64 x1_1] rfl (ag_) ?_; (with_reducible refine (laws_heldStringS.calls k1 _ _ ((rd_T110 l0 x5_1).f0) x1_1 t216 _ ?side1 ?side2 A5.out).mono ?_); (case side1 => refine cd_ ?_; exact (Kd.C_below HR215_0.out HB.out)); (case side2 => exact HC215_0.out); rintro e w16 ⟨rfl, hb⟩; refine ⟨_, rfl, ?_⟩; have n0_ := A_ (bs_ HB.out hb); clear HB; have HB := n0_; clear n0_; (try clear hb); (try clear hb2); (try clear hk); (try clear hi); have p217 : 0 <= (x5_1 : Int) := of_decide_eq_true as_; have q217 : x5_1 < (l0.length : Int) := of_decide_eq_true as_; obtain ⟨ad217, A217_0, c217_0, A217_1, c217_1, A217_2, c217_2, e217, hx217_0, hx217_1, hx217_2, hl217_0, hi217_0, hl217_1, hi217_1, hl217_2, hi217_2⟩ := at_T110 HR0.out x5_1 p217 q217; obtain rfl : ad215 = ad217 := (by injection e217); replace hx217_0 := (HB.out.cell (World.block_lt_of_cell? w _ hx217_0)).trans hx217_0; replace hx217_1 := (HB.out.cell (World.block_lt_of_cell? w _ hx217_1)).trans hx217_1; replace hx217_2 := (HB.out.cell (World.block_lt_of_cell? w _ hx217_2)).trans hx217_2; have HR217_0 := A_ hi217_0; have HC217_0 := A_ hl217_0; clear hi217_0 hl217_0; have HR217_1 := A_ hi217_1; have HC217_1 := A_ hl217_1; clear hi217_1 hl217_1; have HR217_2 := A_ hi217_2; have HC217_2 := A_ hl217_2; clear hi217_2 hl217_2; replace p217 := eq_true p217; replace q217 := eq_true q217) | ((with_reducible refine gate_callee (f := 29) rfl ?_); refine goesL_ (some 27) rfl rfl Try.func29 (by kernel_rfl) rfl #[.slice A217_1 ((rd_T110 l0 x5_1).f1).length c217_1, .int .i64 t216] rfl (ag_) ?_; (with_reducible refine (laws_heldStringS.calls k1 _ _ ((rd_T110 l0 x5_1).f1) t216 t218 _ ?side1 ?side2 A8.out).mono ?_); (case side1 => refine cd_ ?_; exact (Kd.C_below HR217_1.out HB.out)); (case side2 => exact HC217_1.out); rintro e w17 ⟨rfl, hb⟩; refine ⟨_, rfl, ?_⟩; have n0_ := A_ (bs_ HB.out hb); clear HB; have HB := n0_; clear n0_; (try clear hb); (try clear hb2); (try clear hk); (try clear hi); have p219 : 0 <= (x5_1 : Int) := of_decide_eq_true as_; have q219 : x5_1 < (l0.length : Int) := of_decide_eq_true as_; obtain ⟨ad219, A219_0, c219_0, A219_1, c219_1, A219_2, c219_2, e219, hx219_0, hx219_1, hx219_2, hl219_0, hi219_0, hl219_1, hi219_1, hl219_2, hi219_2⟩ := at_T110 HR0.out x5_1 p219 q219; obtain rfl : ad215 = ad219 := (by injection e219); replace hx219_0 := (HB.out.cell (World.block_lt_of_cell? w _ hx219_0)).trans hx219_0; replace hx219_1 := (HB.out.cell (World.block_lt_of_cell? w _ hx219_1)).trans hx219_1; replace hx219_2 := (HB.out.cell (World.block_lt_of_cell? w _ hx219_2)).trans hx219_2; have HR219_0 := A_ hi219_0; have HC219_0 := A_ hl219_0; clear hi219_0 hl219_0; have HR219_1 := A_ hi219_1; have HC219_1 := A_ hl219_1; clear hi219_1 hl219_1; have HR219_2 := A_ hi219_2; have HC219_2 := A_ hl219_2; clear hi219_2 hl219_2; replace p219 := eq_true p219; replace q219 := eq_true q219) | ((with_reducible refine gate_callee (f := 111) rfl ?_); refine goesL_ (some 36) rfl rfl Try.func111 (by kernel_rfl) rfl #[.slice A219_2 ((rd_T110 l0 x5_1).f2).length c219_2, .int .i64 t218] rfl (ag_) ?_; (with_reducible refine (laws_heldIntS.calls k1 _ _ ((rd_T110 l0 x5_1).f2) t218 t220 _ ?side1 ?side2 A12.out).mono ?_); (case side1 => refine cd_ ?_; exact (Kd.C_below HR219_2.out HB.out)); (case side2 => exact HC219_2.out); rintro e w' ⟨rfl, ⟨nd, rfl⟩⟩; refine ⟨_, rfl, ?_⟩))
        go_roundg k1
        case measure => have := HK1.out; omega
        case rel => exact ⟨(t220), (wrap64 (x5_1 + 1)), (by first | rfl | (simp; done) | (simp [*]; done)), (by first | rfl | (simp; done) | (simp [*]; done)), H', ⟨by have := HK1.out; omega⟩, ⟨be_ HB.out⟩⟩
    ·rw [if_neg c4] at H
     exact absurd H (by simp)
   ·rw [if_neg c3] at H
    have c3b0 : decide (x5_1 < (l0.length : Int)) = false := decide_eq_false c3
    clear c3
    obtain rfl := Option.some.inj H
    go_wp2
    go_ret
    exact ⟨ew_, by repeat (first | (with_reducible first | exact HB.out | apply below_alloc | apply pw_below_drewN | apply below_drew1) | exact HB.out)⟩
def kp110 : Kd S110 where
  sz := k110.sz
  E := k110.E
  K := k110.K
  M := fun w base ok x cs => ∃ (f : Nat -> Nat) (v0 v1 v2 : Value), cs = [v0, v1, v2] /\ Kd.string.R 9 w base (fun k => ok k /\ f k = 0) v0 x.f0 /\ Kd.string.R 9 w base (fun k => ok k /\ f k = 1) v1 x.f1 /\ (Kd.int .i64).R 3 w base (fun k => ok k /\ f k = 2) v2 x.f2
  K_len := fun h => k110.K_len h
  K_one := fun h => k110.K_one h
  K_below := fun hb h => k110.K_below hb h
  K_of_M := by
    rintro w base ok x cs ⟨f, v0, v1, v2, rfl, h0, h1, h2⟩
    exact k110.K_of_M (k110_mkM w base ok x (Kd.R_mono h0 (fun _ h => h.1)) (Kd.R_mono h1 (fun _ h => h.1)) (Kd.R_mono h2 (fun _ h => h.1)))
  M_mono := by
    rintro w base ok ok' x cs hok ⟨f, v0, v1, v2, rfl, h0, h1, h2⟩
    exact ⟨f, v0, v1, v2, rfl, Kd.R_mono h0 (fun k h => ⟨hok k h.1, h.2⟩), Kd.R_mono h1 (fun k h => ⟨hok k h.1, h.2⟩), Kd.R_mono h2 (fun k h => ⟨hok k h.1, h.2⟩)⟩
  M_bound := by
    rintro w base ok x cs ⟨f, v0, v1, v2, rfl, h0, h1, h2⟩
    have hE : k110.E = [9, 9, 3] := rfl
    refine ⟨f, v0, v1, v2, rfl, Kd.R_mono (Kd.R_bound h0) ?_, Kd.R_mono (Kd.R_bound h1) ?_, Kd.R_mono (Kd.R_bound h2) ?_⟩
    all_goals
      rintro k ⟨⟨a, b⟩, c, d, q, hq, hc⟩
      refine ⟨⟨a, c, d, q, ?_, hc⟩, b⟩
      rw [hE]
      first
        | (have : q = 9 := by simpa [Kd.string, Kd.int, Kd.scalar] using hq
           subst this
           simp)
        | (have : q = 3 := by simpa [Kd.string, Kd.int, Kd.scalar] using hq
           subst this
           simp)
  M_move := by
    rintro w w1 base ok x cs hm ⟨f, v0, v1, v2, rfl, h0, h1, h2⟩
    exact ⟨f, v0, v1, v2, rfl, Kd.R_move h0 (fun k h => hm k h.1), Kd.R_move h1 (fun k h => hm k h.1), Kd.R_move h2 (fun k h => hm k h.1)⟩
  M_lower := by
    rintro w base base' ok x cs hb ⟨f, v0, v1, v2, rfl, h0, h1, h2⟩
    exact ⟨f, v0, v1, v2, rfl, Kd.R_lower h0 hb, Kd.R_lower h1 hb, Kd.R_lower h2 hb⟩
theorem kp110_mkM (w : World) (base : Nat) (ok : Nat -> Prop) (x : S110) {v0 v1 v2 : Value} (g0 : Kd.string.R 9 w base ok v0 x.f0) (g1 : Kd.string.R 9 w base ok v1 x.f1) (g2 : (Kd.int .i64).R 3 w base ok v2 x.f2) (hne : ∀ k, v0.ownBlock = some k -> some k ≠ v1.ownBlock) : kp110.M w base ok x [v0, v1, v2] := by
  have ty : ∀ {u : Value} {y : List ByteArray}, Kd.string.R 9 w base ok u y -> ∀ k, u.ownBlock = some k -> some k ≠ v2.ownBlock := fun g k hk h2 => by
    obtain ⟨c1, e1⟩ := Kd.R_typed g k hk
    obtain ⟨c2, e2⟩ := Kd.R_typed g2 k h2.symm
    rw [e1] at e2
    injection e2 with e2
    injection e2 with _ e2
    cases e2
  refine ⟨fun k => if some k = v1.ownBlock then 1 else if some k = v2.ownBlock then 2 else 0, v0, v1, v2, rfl, Kd.R_mono (Kd.R_tight2 rfl g0) (fun k h => ⟨h.2, ?_⟩), Kd.R_mono (Kd.R_tight2 rfl g1) (fun k h => ⟨h.2, if_pos h.1⟩), Kd.R_mono (Kd.R_tight2 rfl g2) (fun k h => ⟨h.2, ?_⟩)⟩
  · show (if some k = v1.ownBlock then 1 else if some k = v2.ownBlock then 2 else 0) = 0
    rw [if_neg (hne k h.1.symm), if_neg (ty g0 k h.1.symm)]
  · show (if some k = v1.ownBlock then 1 else if some k = v2.ownBlock then 2 else 0) = 2
    rw [if_neg (fun e => ty g1 k e.symm h.1), if_pos h.1]
def laws_markPageS.l0 : Nat -> List (S110) -> Int -> Int -> Option (Int × List (S110))
  | 0, _, _, _ => none
  | k + 1, x0, x1, x5 => if x5 < (x0.length : Int) then (if 0 <= x5 then ((laws_markStringS.f k (rd_T110 x0 x5).f0 x1).bind fun a => (laws_markStringS.f k (rd_T110 x0 x5).f1 a.1).bind fun b => (laws_markIntS.f k (rd_T110 x0 x5).f2 b.1).bind fun c => laws_markPageS.l0 k (x0.set (x5 : Int).toNat ⟨a.2, b.2, c.2⟩) c.1 (wrap64 (x5 + 1))) else (none)) else (some (x1, x0))
def laws_markPageS.f (k : Nat) (l0 : List (S110)) (a1 : Int) : Option (Int × List (S110)) := laws_markPageS.l0 k l0 a1 0
theorem laws_markPageS.calls (k : Nat) (ok : Nat -> Prop) (v : Value) (l0 : List (S110)) (a1 : Int) (r1 : Int) (r2 : List (S110)) (w0 w : World) (hB : Below w0.heap.size w0 w) (ho : Kd.S kp110 110 w w0.heap.size ok v l0) (h : laws_markPageS.f k l0 a1 = some (r1, r2)) :
    Calls Try.prog 67 #[v, .int .i64 a1] w fun e w' => e = .returned (.int .i64 r1) /\ Kd.S kp110 110 w' w0.heap.size ok v r2 /\ Below w0.heap.size w0 w' /\ Kept w w' ok := by
  have hu110 := Try.underlying110
  have HO := Aside0.mk ho
  have HK := Aside0.mk (Kept.refl w ok)
  have HB := Aside0.mk hB
  have H' := Aside0.mk (show laws_markPageS.l0 k l0 a1 0 = some (r1, r2) from h)
  clear hB ho h
  go_enter Try.func67, Try.ntmps67
  go_wp2
  go_loopg [1, 5] k (fun kq v1 v5 w' => ∃ (x0 : List (S110)) (x1 : Int) (x5 : Int), v1 = .int .i64 x1 /\ v5 = .int .i64 x5 /\ Aside0 (laws_markPageS.l0 kq x0 x1 x5 = some (r1, r2)) /\ Aside0 (kq <= k) /\ Aside0 (Kd.S kp110 110 w' w0.heap.size ok v x0) /\ Aside0 (Kept w w' ok) /\ Aside0 (Below w0.heap.size w0 w'))
  case atStart => exact ⟨l0, a1, 0, by first | rfl | (simp; done), by first | rfl | (simp; done), H', ⟨Nat.le_refl _⟩, HO, HK, HB⟩
  case round =>
    clear H' HO HK HB
    obtain ⟨x0, x1, x5, rfl, rfl, HA, HK1, HO, HK, HB⟩ := hrel
    cases gk with
    | zero => exact absurd HA.out (by simp [laws_markPageS.l0])
    | succ k1 =>
      have H := HA.out
      clear HA
      simp only [laws_markPageS.l0] at H
      by_cases c3 : x5 < (x0.length : Int)
      · rw [if_pos c3] at H
        have c3b : decide (x5 < (x0.length : Int)) = true := decide_eq_true c3
        by_cases c4 : 0 <= x5
        · rw [if_pos c4] at H
          have c4b : decide (0 <= x5) = true := decide_eq_true c4
          obtain ⟨a, ha, H⟩ := Option.bind_eq_some_iff.mp H
          obtain ⟨b, hb, H⟩ := Option.bind_eq_some_iff.mp H
          obtain ⟨c, hc, H⟩ := Option.bind_eq_some_iff.mp H
          have HMa := Aside0.mk ha
          have HMb := Aside0.mk hb
          have HMc := Aside0.mk hc
          have H' := Aside0.mk H
          clear ha hb hc H
          obtain ⟨go5, co5, eo5, gb5, gl5, cl5, HG5⟩ := Kd.R_form (Kd.S_R HO.out) (by omega)
          subst eo5
          clear gb5 gl5 HG5
          obtain ⟨oki, cc, hcl, hM, hcc, hfr, hoki, hH⟩ := Kd.S_elem HO.out ⟨[], [], []⟩ x5 c4 c3
          have erd : x0.getD x5.toNat ⟨[], [], []⟩ = rd_T110 x0 x5 := rfl
          rw [erd] at hM
          generalize rd_T110 x0 x5 = p at hM HMa HMb HMc
          obtain ⟨f, v0, v1, v2, rfl, hR0, hR1, hR2⟩ := hM
          have z0 := hcc 0 _ rfl
          have z1 := hcc 1 _ rfl
          have z2 := hcc 2 _ rfl
          rw [show kp110.sz = 3 from rfl] at z0 z1 z2
          rw [Nat.add_zero] at z0
          have HH := Aside0.mk hH
          have HR0 := Aside0.mk hR0
          have HR1 := Aside0.mk hR1
          have HR2 := Aside0.mk hR2
          have HT0 := Aside0.mk (fun k_ (e_ : v0.ownBlock = some k_) => hR0.1 k_ e_)
          have HT1 := Aside0.mk (fun k_ (e_ : v1.ownBlock = some k_) => hR1.1 k_ e_)
          have HT2 := Aside0.mk (fun k_ (e_ : v2.ownBlock = some k_) => hR2.1 k_ e_)
          have HI := Aside0.mk hoki
          clear hH hR0 hR1 hR2 hcc hcl hfr hoki erd HO
          go_wp2_with (go_at_call 28; (with_reducible refine (laws_markStringS.calls k1 (fun k_ => oki k_ /\ f k_ = 0) v0 p.f0 x1 a.1 a.2 w0 _ ?side1 ?side2 HMa.out).mono ?_); (case side1 => exact HB.out); (case side2 => exact HR0.out); rintro e w2 ⟨rfl, hr2, hb2, hk2⟩; have HH2 := Aside0.mk (Kd.H_kept HH.out hk2 (fun _ _ h1_ h2_ => h1_ h2_.1)); have HQ0 := Aside0.mk (Kd.R_mono (Kd.R_tight rfl hr2) (fun k_ hk_ => HT0.out k_ hk_.symm)); have HQ1 := Aside0.mk (Kd.R_kept HR1.out hk2 (fun k_ h1_ h2_ => by have e1_ := h1_.2; have e2_ := h2_.2; omega)); have HQ2 := Aside0.mk (Kd.R_kept HR2.out hk2 (fun k_ h1_ h2_ => by have e1_ := h1_.2; have e2_ := h2_.2; omega)); have HB2 := Aside0.mk hb2; have HK2 := Aside0.mk (HK.out.then_ hk2 (fun k_ h_ => .inl (HI.out k_ h_.1).1)); have y1 := cell_kept z1 hk2 (fun h_ => (HI.out _ h_.1).2 rfl); have y2 := cell_kept z2 hk2 (fun h_ => (HI.out _ h_.1).2 rfl); clear hr2 hb2 hk2 HH HR0 HR1 HR2 HB HK z0 z1 z2)
          go_wp2_with (go_at_call 28; (with_reducible refine (laws_markStringS.calls k1 (fun k_ => oki k_ /\ f k_ = 1) v1 p.f1 a.1 b.1 b.2 w0 _ ?side1 ?side2 HMb.out).mono ?_); (case side1 => exact HB2.out); (case side2 => exact HQ1.out); rintro e w3 ⟨rfl, hr2, hb2, hk2⟩; have HH3 := Aside0.mk (Kd.H_kept HH2.out hk2 (fun _ _ h1_ h2_ => h1_ h2_.1)); have HU1 := Aside0.mk (Kd.R_mono (Kd.R_tight rfl hr2) (fun k_ hk_ => HT1.out k_ hk_.symm)); have HU0 := Aside0.mk (Kd.R_kept HQ0.out hk2 (fun k_ h1_ h2_ => by have e1_ := h1_.2; have e2_ := h2_.2; omega)); have HU2 := Aside0.mk (Kd.R_kept HQ2.out hk2 (fun k_ h1_ h2_ => by have e1_ := h1_.2; have e2_ := h2_.2; omega)); have HB3 := Aside0.mk hb2; have HK3 := Aside0.mk (HK2.out.then_ hk2 (fun k_ h_ => .inl (HI.out k_ h_.1).1)); have x2_ := cell_kept y2 hk2 (fun h_ => (HI.out _ h_.1).2 rfl); clear hr2 hb2 hk2 HH2 HQ0 HQ1 HQ2 HB2 HK2 y1 y2)
          go_wp2_with (go_at_call 102; (with_reducible refine (laws_markIntS.calls k1 (fun k_ => oki k_ /\ f k_ = 2) v2 p.f2 b.1 c.1 c.2 w0 _ ?side1 ?side2 HMc.out).mono ?_); (case side1 => exact HB3.out); (case side2 => exact HU2.out); rintro e w4 ⟨rfl, hr2, hb2, hk2⟩; have HH4 := Aside0.mk (Kd.H_kept HH3.out hk2 (fun _ _ h1_ h2_ => h1_ h2_.1)); have HV2 := Aside0.mk (Kd.R_mono (Kd.R_tight rfl hr2) (fun k_ hk_ => HT2.out k_ hk_.symm)); have HV0 := Aside0.mk (Kd.R_kept HU0.out hk2 (fun k_ h1_ h2_ => by have e1_ := h1_.2; have e2_ := h2_.2; omega)); have HV1 := Aside0.mk (Kd.R_kept HU1.out hk2 (fun k_ h1_ h2_ => by have e1_ := h1_.2; have e2_ := h2_.2; omega)); have HB4 := Aside0.mk hb2; have HK4 := Aside0.mk (HK3.out.then_ hk2 (fun k_ h_ => .inl (HI.out k_ h_.1).1)); clear hr2 hb2 hk2 HH3 HU0 HU1 HU2 HB3 HK3 x2_)
          go_roundg k1
          case measure => have := HK1.out; omega
          case rel => exact ⟨x0.set x5.toNat ⟨a.2, b.2, c.2⟩, c.1, wrap64 (x5 + 1), by first | rfl | (simp; done), by first | rfl | (simp; done), H', ⟨by have := HK1.out; omega⟩, ⟨Kd.H_back HH4.out (show kp110.M _ _ oki ⟨a.2, b.2, c.2⟩ _ from ⟨f, v0, v1, v2, rfl, HV0.out, HV1.out, HV2.out⟩) (fun _ h_ => h_)⟩, HK4, HB4⟩
        · rw [if_neg c4] at H
          exact absurd H (by simp)
      · rw [if_neg c3] at H
        have c3b : decide (x5 < (x0.length : Int)) = false := decide_eq_false c3
        clear c3
        simp only [Option.some.injEq, Prod.mk.injEq] at H
        obtain ⟨rfl, rfl⟩ := H
        obtain ⟨Ao, co, eo⟩ := Kd.S_slice HO.out
        subst eo
        go_wp2
        go_ret
        exact ⟨by first | rfl | (simp; done), HO.out, HB.out, HK.out⟩
theorem laws_markTree.calls (k : Nat) (ok : Nat -> Prop) (v : Value) (l0 : List (S110)) (a1 : Int) (r1 : Int) (r2 : List (S110)) (w0 w : World) (hB : Below w0.heap.size w0 w) (ho : Kd.S kp110 110 w w0.heap.size ok v l0) (h : laws_markPageS.f k l0 a1 = some (r1, r2)) :
    Calls Try.prog 27 #[.agg #[v], .int .i64 a1] w fun e w' => e = .returned (.int .i64 r1) /\ Kd.S kp110 110 w' w0.heap.size ok v r2 /\ Below w0.heap.size w0 w' /\ Kept w w' ok := by
  have hu29 := Try.underlying29
  obtain ⟨Ao, co, rfl⟩ := Kd.S_slice ho
  have HO := Aside0.mk ho
  have HB := Aside0.mk hB
  have HK := Aside0.mk (Kept.refl w ok)
  have E := Aside0.mk h
  clear ho hB h
  go_enter Try.func27, Try.ntmps27
  go_wp2_with (first | ((with_reducible refine gate_dst (N := 2) rfl ?_); refine box_event ?hg (N := 2) ?hd (cs := #[.slice Ao l0.length co]) (t := 29) ?hr ?_; (case hd => rfl); (case hg => rfl); (case hr => first | (go_simp; done) | (go_simp; rfl)); intro gb hg w5 hbox hb; have HB5 := Aside0.mk (below_step (by repeat (first | (with_reducible first | exact HB.out | apply below_alloc | apply pw_below_drewN | apply below_drew1) | exact HB.out)) hb); have HO5 := Aside0.mk (Kd.S_below (by (with_reducible repeat (first | apply Kd.S_alloc | apply Kd.S_drewN | apply Kd.S_drew)); exact HO.out) hb); have HK5 := Aside0.mk (Kept.below HK.out hb); have hcz_ := (blk_cell hbox 0).trans rfl; have hfz_ := blk_frozen hbox 0; clear hbox hb hg) | (go_at_call 67; (with_reducible refine (laws_markPageS.calls k ok _ l0 a1 r1 r2 w0 _ ?side1 ?side2 E.out).mono ?_); (case side1 => exact HB5.out); (case side2 => exact HO5.out); rintro e w6 ⟨rfl, hr6, hb6, hk6⟩; have HO6 := Aside0.mk hr6; have HB6 := Aside0.mk hb6; have HK6 := Aside0.mk (HK5.out.then_ hk6 (fun _ h_ => .inl h_)); clear hr6 hb6 hk6))
  go_ret
  exact ⟨by first | rfl | (simp; done), HO6.out, HB6.out, HK6.out⟩
def laws_toStringS.l0 : Nat -> List ByteArray -> List ByteArray -> Int -> Option (List ByteArray)
 | 0, _, _, _ => none
 | k + 1, x0, x3, x4 => if x4 < (x0.length : Int) then (if 0 <= x4 then (if x4 < (x3.length : Int) then (laws_toStringS.l0 k x0 (x3.set (x4 : Int).toNat (rdOf ByteArray.empty x0 x4)) (wrap64 (x4 + 1))) else (none)) else (none)) else (some x3)
def laws_toStringS.f (k : Nat) (l0 : List ByteArray) : Option (List ByteArray) := if 0 <= (l0.length : Int) then (if ((l0.length : Int) : Int).toNat <= 17592186044416 then (laws_toStringS.l0 k l0 (List.replicate ((l0.length : Int) : Int).toNat (⟨#[]⟩ : ByteArray)) 0) else (none)) else (none)
theorem laws_toStringS.calls (k : Nat) (A0 : Option Addr) (c0 : Nat) (l0 : List ByteArray) (r : List ByteArray) (w : World) (hr0 : Kd.C Kd.string w A0 l0.length l0) (hc0 : l0.length <= c0) (h : laws_toStringS.f k l0 = some r) :
  Calls Try.prog 43 #[.slice A0 l0.length c0] w fun e w' => ∃ v0_ : Value, e = .returned (v0_) /\ Kd.R Kd.string 9 w' w.heap.size (fun _ => True) v0_ r /\ Below w.heap.size w w' := by
 have HR0 := A_ hr0
 have HC0 := A_ hc0
 clear hr0 hc0
 have HB := A_ (Below.refl w.heap.size w)
 have H : (if 0 <= (l0.length : Int) then (if ((l0.length : Int) : Int).toNat <= 17592186044416 then (laws_toStringS.l0 k l0 (List.replicate ((l0.length : Int) : Int).toNat (⟨#[]⟩ : ByteArray)) 0) else (none)) else (none)) = some r := h
 clear h
 by_cases c2 : 0 <= (l0.length : Int)
 ·rw [if_pos c2] at H
  have c2b0 := eq_true c2
  have c2b1 : decide (0 <= (l0.length : Int)) = true := decide_eq_true c2
  clear c2
  by_cases c3 : ((l0.length : Int) : Int).toNat <= 17592186044416
  ·rw [if_pos c3] at H
   have c3b0 := eq_true c3
   have c3b1 : decide (((l0.length : Int) : Int).toNat <= 17592186044416) = true := decide_eq_true c3
   clear c3
   obtain ⟨y110, hy110⟩ : ∃ y_ : List ByteArray, y_ = (List.replicate ((l0.length : Int) : Int).toNat (⟨#[]⟩ : ByteArray)) := ⟨_, rfl⟩
   replace H : (laws_toStringS.l0 k l0 y110 0) = some r := by first | (rw [hy110]; with_reducible exact H) | (have H2_ := (Option.bind_some _ _).symm.trans H; rw [hy110]; with_reducible exact H2_) | (have H2_ := (Option.bind_some _ _).symm.trans H; with_reducible exact H2_) | with_reducible exact H | (rw [hy110]; exact H) | exact H
   have Ny110 := A_ hy110
   clear hy110
   have H' := A_ H
   clear H
   go_enter Try.func43, Try.ntmps43
   go_wp2_with (first | ((with_reducible refine gate_dst (N := 7) rfl ?_); refine Kd.R_make Kd.string _ 9 rfl (N := 7) rfl 38 _ _ rfl (l0.length : Int) rfl rfl Try.underlying38 (.string ⟨#[]⟩) 16 info9 rfl (by decide) (by omega) (⟨#[]⟩ : ByteArray) (ok := fun _ => True) (okp := fun _ => True) rfl (fun _ hk => hk) trivial (of_decide_eq_true as_) (Nat.le_trans (Nat.mul_le_mul_right _ (of_decide_eq_true as_ : (l0.length : Int).toNat <= 17592186044416)) (by omega)) (Below.refl _ _) (Nat.le_refl _) ?_; intro v111 w4 ho5 hb hg_ hnew_; clear hg_ hnew_; (first | rw [<- Ny110.out] at ho5 | (simp only [Int.reduceToNat] at ho5; rw [<- Ny110.out] at ho5)); have n0_ := A_ (Kd.R_lower ho5 (bw_ HB.out)); have n1_ := A_ (bs_ HB.out hb); clear HB; have HO112 := n0_; have HB := n1_; clear n0_ n1_; clear hb ho5))
   go_loopg [4] k (fun kq v4 w' => ∃ (x3_1 : List ByteArray) (x4_1 : Int), v4 = .int .i64 x4_1 /\ Aside0 (laws_toStringS.l0 kq l0 x3_1 x4_1 = some r) /\ Aside0 (kq <= k) /\ Aside0 (Kd.R Kd.string 9 w' w.heap.size (fun _ => True) v111 x3_1) /\ Aside0 (Below w.heap.size w w'))
   case atStart => exact ⟨(y110), (0), (by first | rfl | (simp; done) | (simp [*]; done)), H', ⟨Nat.le_refl _⟩, ⟨rk_ HO112.out⟩, ⟨be_ HB.out⟩⟩
   case round =>
    clear H'
    (try clear c2); (try clear c2b0); (try clear c2b1); (try clear p2); (try clear c3); (try clear c3b0); (try clear c3b1); (try clear c4)
    obtain ⟨x3_1, x4_1, rfl, HA, HK1, HO_3, HB⟩ := hrel
    cases gk with
    | zero => exact absurd HA.out (by simp [laws_toStringS.l0])
    | succ k1 =>
     have H := HA.out
     clear HA
     simp only [laws_toStringS.l0] at H
     by_cases c6 : x4_1 < (l0.length : Int)
     ·rw [if_pos c6] at H
      have c6b0 : decide (x4_1 < (l0.length : Int)) = true := decide_eq_true c6
      clear c6
      by_cases c7 : 0 <= x4_1
      ·rw [if_pos c7] at H
       have c7b0 : decide (0 <= x4_1) = true := decide_eq_true c7
       clear c7
       by_cases c8 : x4_1 < (x3_1.length : Int)
       ·rw [if_pos c8] at H
        have c8b0 : decide (x4_1 < (x3_1.length : Int)) = true := decide_eq_true c8
        clear c8
        obtain ⟨y114, hy114⟩ : ∃ y_ : List ByteArray, y_ = (x3_1.set (x4_1 : Int).toNat (rdOf ByteArray.empty l0 x4_1)) := ⟨_, rfl⟩
        replace H : (laws_toStringS.l0 k1 l0 y114 (wrap64 (x4_1 + 1))) = some r := by first | (rw [hy114]; with_reducible exact H) | (have H2_ := (Option.bind_some _ _).symm.trans H; rw [hy114]; with_reducible exact H2_) | (have H2_ := (Option.bind_some _ _).symm.trans H; with_reducible exact H2_) | with_reducible exact H | (rw [hy114]; exact H) | exact H
        have Ny114 := A_ hy114
        clear hy114
        have H' := A_ H
        clear H
        have p113 : 0 <= (x4_1 : Int) := of_decide_eq_true as_
        have q113 : x4_1 < (l0.length : Int) := of_decide_eq_true as_
        obtain ⟨ad113, e113, hx113_0⟩ := Kd.at_string HR0.out x4_1 p113 q113
        cases e113
        replace hx113_0 := (HB.out.cell (World.block_lt_of_cell? w _ hx113_0)).trans hx113_0
        replace p113 := eq_true p113
        replace q113 := eq_true q113
        have p9 : 0 <= (x4_1 : Int) := of_decide_eq_true as_
        have q9 : (x4_1 : Int) < ((x3_1.length : Int) : Int) := of_decide_eq_true as_
        obtain ⟨go9, co9, eo9, gb9, gl9, cl9, HG9⟩ := Kd.R_form HO_3.out (by omega)
        (first | cases eo9 | (injection eo9 with ea_ en_ ec_; (first | subst ea_ | (injection ea_ with ea_; subst ea_)); subst ec_; clear en_))
        have GB9 := A_ gb9
        have GG9 := A_ HG9
        clear gb9 gl9 HG9
        obtain ⟨hx9_0, hf9_0⟩ := Kd.R_celln (⟨#[]⟩ : ByteArray) HO_3.out (x4_1 : Int) p9 q9
        replace p9 := eq_true p9
        replace q9 := eq_true q9
        have HP10 := Kd.R_putg HO_3.out (x4_1 : Int) (rdOf ByteArray.empty l0 x4_1)
        go_wp2_with (first | ((with_reducible refine gate_store (t := 9) (p := 20) rfl ?_); refine store_event (t := 9) (p := 20) (v := ?vo_w11) (w1 := (wr.setCell ⟨go9, (x4_1 : Int).toNat, none⟩ (.string (rdOf ByteArray.empty l0 x4_1)))) ?hg ?ho ?hn ?hr ?_; (case ho => rfl); (case hg => rfl); (case hn => rfl); (case hr => first | (go_simp; done) | (go_simp; rfl)); intro w11 hw; have hg : wr.grownBy w11 (some go9) := (by rw [hw]; exact HP10.2); have hp_ : Kd.R Kd.string 9 w11 w.heap.size (fun _ => True) (.slice (some ⟨go9, 0, none⟩) x3_1.length co9) y114 := (by rw [hw, Ny114.out]; exact HP10.1); clear HP10; have n0_ := A_ (hp_); have n1_ := A_ ((by rw [hw]; exact below_set (HB.out) GB9.out : Below w.heap.size w w11)); clear HO_3; clear HB; have HO_3 := n0_; have HB := n1_; clear n0_ n1_; clear hg hw hp_))
        go_roundg k1
        case measure => have := HK1.out; omega
        case rel => exact ⟨(y114), (wrap64 (x4_1 + 1)), (by first | rfl | (simp; done) | (simp [*]; done)), H', ⟨by have := HK1.out; omega⟩, ⟨rk_ HO_3.out⟩, ⟨be_ HB.out⟩⟩
       ·rw [if_neg c8] at H
        exact absurd H (by simp)
      ·rw [if_neg c7] at H
       exact absurd H (by simp)
     ·rw [if_neg c6] at H
      have c6b0 : decide (x4_1 < (l0.length : Int)) = false := decide_eq_false c6
      clear c6
      obtain rfl := Option.some.inj H
      go_wp2
      go_ret
      exact ⟨_, ew_, by (with_reducible repeat (first | apply Kd.R_alloc | apply Kd.R_drewN | apply Kd.R_drew)); exact HO_3.out, by repeat (first | (with_reducible first | exact HB.out | apply below_alloc | apply pw_below_drewN | apply below_drew1) | exact HB.out)⟩
  ·rw [if_neg c3] at H
   exact absurd H (by simp)
 ·rw [if_neg c2] at H
  exact absurd H (by simp)
def laws_toIntS.l0 : Nat -> List Int -> List Int -> Int -> Option (List Int)
 | 0, _, _, _ => none
 | k + 1, x0, x3, x4 => if x4 < (x0.length : Int) then (if 0 <= x4 then (if x4 < (x3.length : Int) then (laws_toIntS.l0 k x0 (x3.set (x4 : Int).toNat (rd x0 x4)) (wrap64 (x4 + 1))) else (none)) else (none)) else (some x3)
def laws_toIntS.f (k : Nat) (l0 : List Int) : Option (List Int) := if 0 <= (l0.length : Int) then (if ((l0.length : Int) : Int).toNat <= 35184372088832 then (laws_toIntS.l0 k l0 (List.replicate ((l0.length : Int) : Int).toNat 0) 0) else (none)) else (none)
end Go.Proofs.Ytoddejmlcnbdmaa.Fn
namespace Go.Proofs.YtoddejmlcnbdmaaW.PrintWords
namespace Kd
section
variable {α : Type} {d : Kd α} {e last : Nat} {w W w1 : World} {v : Value} {xs : List α}
theorem S_iv (ho : Kd.S d e w1 W.heap.size (fun _ => True) v xs) (hb : Below W.heap.size W w1) (hB : Below w.heap.size w W) (hS : last <= W.heap.size) :
  ∃ n m : Nat, last <= n /\ n <= m /\ m <= w1.heap.size /\ Kd.S d e w1 w.heap.size (fun k => n <= k /\ k < m) v xs :=
 ⟨W.heap.size, w1.heap.size, hS, hb.size, Nat.le_refl _, S_mono (S_lower (S_bound ho) hB.size) (fun _ hk => ⟨hk.2.1, hk.2.2.1⟩)⟩
theorem R_iv (ho : d.R e w1 W.heap.size (fun _ => True) v xs) (hb : Below W.heap.size W w1) (hB : Below w.heap.size w W) (hS : last <= W.heap.size) :
  ∃ n m : Nat, last <= n /\ n <= m /\ m <= w1.heap.size /\ d.R e w1 w.heap.size (fun k => n <= k /\ k < m) v xs :=
 ⟨W.heap.size, w1.heap.size, hS, hb.size, Nat.le_refl _, R_mono (R_lower (R_bound ho) hB.size) (fun _ hk => ⟨hk.2.1, hk.2.2.1⟩)⟩
end
end Kd
end Go.Proofs.YtoddejmlcnbdmaaW.PrintWords
namespace Go.Proofs.Ytoddejmlcnbdmaa.Fn
theorem kp110_C {w : World} {A : Option Addr} {n : Nat} {xs : List S110} (h : Kd.C kp110 w A n xs) : Kd.C k110 w A n xs := h
theorem tree_box {w : World} {g : Nat} {v : Value} (h : w.heap[g]? = some (.cells #[.slice none 0 0] 29 (0, 0))) : (w.setCell ⟨g, 0, none⟩ v).heap[g]? = some (.cells #[v] 29 (0, 0)) := blk_put (cs := #[.slice none 0 0]) h 0 _ rfl
theorem blk_away {w : World} {g : Nat} {o : Obj} (h : w.heap[g]? = some o) {p : Addr} (hp : g ≠ p.block) (u : Value) : (w.setCell p u).heap[g]? = some o := (Below.heap_setCell w p u g hp).trans h
def laws_heldTree.f (k : Nat) (l0_0 : List (S110)) (a1 : Int) : Option (Int) := (laws_heldPageS.f k l0_0 a1).bind fun t222 => (if t222 < 0 then (some (-1)) else (some t222))
theorem laws_heldTree.calls (k : Nat) (A0_0 : Option Addr) (c0_0 : Nat) (l0_0 : List (S110)) (a1 : Int) (r : Int) (w : World) (hr0_0 : Kd.C k110 w A0_0 l0_0.length l0_0) (hc0_0 : l0_0.length <= c0_0) (h : laws_heldTree.f k l0_0 a1 = some r) :
  Calls Try.prog 38 #[.agg #[.slice A0_0 l0_0.length c0_0], .int .i64 a1] w fun e w' => e = .returned (.int .i64 r) /\ Below w.heap.size w w' := by
 have hu29 := Try.underlying29
 have HR0_0 := A_ hr0_0
 have HC0_0 := A_ hc0_0
 clear hr0_0 hc0_0
 have HB := A_ (Below.refl w.heap.size w)
 have H : ((laws_heldPageS.f k l0_0 a1).bind fun t222 => (if t222 < 0 then (some (-1)) else (some t222))) = some r := h
 clear h
 replace H := Option.bind_eq_some_iff.mp H
 obtain ⟨t222, A30, H⟩ := H
 replace H : (if t222 < 0 then (some (-1)) else (some t222)) = some r := H
 have A3 := A_ A30
 clear A30
 by_cases c4 : t222 < 0
 ·rw [if_pos c4] at H
  have c4b0 : decide (t222 < 0) = true := decide_eq_true c4
  clear c4
  obtain rfl := Option.some.inj H
  go_enter Try.func38, Try.ntmps38
  go_wp2_with (first | ((with_reducible refine gate_dst (N := 2) rfl ?_); refine box_event ?hg (N := 2) ?hd (cs := #[.slice A0_0 l0_0.length c0_0]) (t := 29) ?hr ?_; (case hd => rfl); (case hg => rfl); (case hr => first | (go_simp; done) | (go_simp; rfl)); intro gb221 hg w5 hbox hb; have n0_ := A_ (bs_ HB.out hb); have n1_ := A_ (hbox); have n2_ := A_ ((by rw [hg]; exact (bw_ HB.out) : w.heap.size <= gb221)); have n3_ := A_ ((by rw [hg]; exact (bw_ HB.out) : w.heap.size <= gb221)); clear HB; have HB := n0_; have BK221 := n1_; have GW221 := n2_; have GE221 := n3_; clear n0_ n1_ n2_ n3_; clear hb hbox hg; have hcz6_0 : w5.cell? ⟨gb221, 0, none⟩ = some (.slice A0_0 l0_0.length c0_0) := (blk_cell BK221.out 0).trans rfl; have hfz6_0 := blk_frozen BK221.out 0) | ((with_reducible refine gate_callee (f := 82) rfl ?_); refine goesL_ (some 8) rfl rfl Try.func82 (by kernel_rfl) rfl #[.slice A0_0 l0_0.length c0_0, .int .i64 a1] rfl (ag_) ?_; (with_reducible refine (laws_heldPageS.calls k _ _ l0_0 a1 t222 _ ?side1 ?side2 A3.out).mono ?_); (case side1 => refine cd_ ?_; exact (Kd.C_below HR0_0.out HB.out)); (case side2 => exact HC0_0.out); rintro e w7 ⟨rfl, hb⟩; refine ⟨_, rfl, ?_⟩; have n0_ := A_ (blk_below (g := gb221) (o := .cells #[.slice A0_0 l0_0.length c0_0] 29 (0, 0)) (pk_ BK221.out) hb); have n1_ := A_ (bs_ HB.out hb); clear BK221; clear HB; have BK221 := n0_; have HB := n1_; clear n0_ n1_; (try clear hb); (try clear hb2); (try clear hk); (try clear hi)))
  go_ret
  exact ⟨ew_, by repeat (first | (with_reducible first | exact HB.out | apply below_alloc | apply pw_below_drewN | apply below_drew1 | refine below_set ?_ GE221.out) | exact HB.out)⟩
 ·rw [if_neg c4] at H
  have c4b0 : decide (t222 < 0) = false := decide_eq_false c4
  clear c4
  obtain rfl := Option.some.inj H
  go_enter Try.func38, Try.ntmps38
  go_wp2_with (first | ((with_reducible refine gate_dst (N := 2) rfl ?_); refine box_event ?hg (N := 2) ?hd (cs := #[.slice A0_0 l0_0.length c0_0]) (t := 29) ?hr ?_; (case hd => rfl); (case hg => rfl); (case hr => first | (go_simp; done) | (go_simp; rfl)); intro gb221 hg w8 hbox hb; have n0_ := A_ (bs_ HB.out hb); have n1_ := A_ (hbox); have n2_ := A_ ((by rw [hg]; exact (bw_ HB.out) : w.heap.size <= gb221)); have n3_ := A_ ((by rw [hg]; exact (bw_ HB.out) : w.heap.size <= gb221)); clear HB; have HB := n0_; have BK221 := n1_; have GW221 := n2_; have GE221 := n3_; clear n0_ n1_ n2_ n3_; clear hb hbox hg; have hcz9_0 : w8.cell? ⟨gb221, 0, none⟩ = some (.slice A0_0 l0_0.length c0_0) := (blk_cell BK221.out 0).trans rfl; have hfz9_0 := blk_frozen BK221.out 0) | ((with_reducible refine gate_callee (f := 82) rfl ?_); refine goesL_ (some 8) rfl rfl Try.func82 (by kernel_rfl) rfl #[.slice A0_0 l0_0.length c0_0, .int .i64 a1] rfl (ag_) ?_; (with_reducible refine (laws_heldPageS.calls k _ _ l0_0 a1 t222 _ ?side1 ?side2 A3.out).mono ?_); (case side1 => refine cd_ ?_; exact (Kd.C_below HR0_0.out HB.out)); (case side2 => exact HC0_0.out); rintro e w10 ⟨rfl, hb⟩; refine ⟨_, rfl, ?_⟩; have n0_ := A_ (blk_below (g := gb221) (o := .cells #[.slice A0_0 l0_0.length c0_0] 29 (0, 0)) (pk_ BK221.out) hb); have n1_ := A_ (bs_ HB.out hb); clear BK221; clear HB; have BK221 := n0_; have HB := n1_; clear n0_ n1_; (try clear hb); (try clear hb2); (try clear hk); (try clear hi)))
  go_ret
  exact ⟨ew_, by repeat (first | (with_reducible first | exact HB.out | apply below_alloc | apply pw_below_drewN | apply below_drew1 | refine below_set ?_ GE221.out) | exact HB.out)⟩
theorem heldTree_n (k : Nat) (A : Option Addr) (c n : Nat) (l : List S110) (a1 r : Int) (w : World) (hn : n = l.length) (hr : Kd.C k110 w A l.length l) (hc : l.length <= c) (h : laws_heldTree.f k l a1 = some r) :
  Calls Try.prog 38 #[.agg #[.slice A n c], .int .i64 a1] w fun e w' => e = .returned (.int .i64 r) /\ Below w.heap.size w w' := by
 subst hn
 exact laws_heldTree.calls k A c l a1 r w hr hc h
end Go.Proofs.Ytoddejmlcnbdmaa.Fn
namespace Go.Proofs.Ytoddejmlcnbdmaa.Tree
inductive PT where
 | mk (keys vals : List ByteArray) (kids : List PT)
def PT.keys : PT -> List ByteArray | .mk k _ _ => k
def PT.vals : PT -> List ByteArray | .mk _ v _ => v
def PT.kids : PT -> List PT | .mk _ _ c => c
theorem PT.size_kid {t s : PT} {i : Nat} (h : t.kids[i]? = some s) : SizeOf.sizeOf s < SizeOf.sizeOf t := by
 cases t with
 | mk keys vals kids =>
  have h1 : s ∈ kids := List.mem_of_getElem? h
  have h2 := List.sizeOf_lt_of_mem h1
  have h3 : SizeOf.sizeOf (PT.mk keys vals kids) = 1 + SizeOf.sizeOf keys + SizeOf.sizeOf vals + SizeOf.sizeOf kids := by simp
  omega
mutual
def evenS : PT -> Int
 | .mk _ _ [] => 1
 | .mk _ _ (c :: cs) => if evenL (evenS c) (c :: cs) then Go.RowKit.wrap64 (evenS c + 1) else -1
def evenL (d : Int) : List PT -> Bool
 | [] => true
 | c :: cs => !(decide (d < 0) || evenS c != d || decide (c.keys.length < 2)) && evenL d cs
end
theorem drop_of {α : Type} {l : List α} {i : Nat} {s : α} (h : l[i]? = some s) : l.drop i = s :: l.drop (i + 1) := by
 obtain ⟨h1, h2⟩ := List.getElem?_eq_some_iff.1 h
 rw [<- h2]
 exact List.drop_eq_getElem_cons h1
theorem evenS_leaf {t : PT} (h : t.kids.length = 0) : evenS t = 1 := by
 cases t with | mk keys vals kids =>
  cases kids with
  | nil => simp [evenS]
  | cons c cs => simp [PT.kids] at h
theorem evenS_node {t c : PT} (h : t.kids[0]? = some c) : evenS t = if evenL (evenS c) (t.kids.drop 0) then Go.RowKit.wrap64 (evenS c + 1) else -1 := by
 cases t with | mk keys vals kids =>
  cases kids with
  | nil => simp [PT.kids] at h
  | cons c' cs =>
   obtain rfl : c' = c := by simpa [PT.kids] using h
   simp [evenS, PT.kids]
mutual
def depthP : PT -> Int × Bool
 | .mk _ _ [] => (1, true)
 | .mk keys _ (c :: cs) => match depthL 0 0 (c :: cs) with
  | some f => (Go.RowKit.wrap64 (f + 1), decide (0 < keys.length))
  | none => (0, false)
def depthL (i : Nat) (first : Int) : List PT -> Option Int
 | [] => some first
 | c :: cs => if (!(depthP c).2 || decide (c.keys.length < 2) || (decide (0 < i) && (depthP c).1 != first)) then none else depthL (i + 1) (depthP c).1 cs
end
def depthR (n : Nat) : Option Int -> Int × Bool
 | some f => (Go.RowKit.wrap64 (f + 1), decide (0 < n))
 | none => (0, false)
theorem depthP_leaf {t : PT} (h : t.kids.length = 0) : depthP t = (1, true) := by
 cases t with | mk keys vals kids =>
  cases kids with
  | nil => simp [depthP]
  | cons c cs => simp [PT.kids] at h
theorem depthP_node {t : PT} (h : t.kids.length ≠ 0) : depthP t = depthR t.keys.length (depthL 0 0 (t.kids.drop 0)) := by
 cases t with | mk keys vals kids =>
  cases kids with
  | nil => simp [PT.kids] at h
  | cons c cs =>
   simp only [PT.kids, PT.keys, List.drop_zero]
   rw [depthP]
   cases depthL 0 0 (c :: cs) <;> rfl
def weave {α : Type} : List (List α) -> List α -> List α
 | [], ks => ks
 | c :: _, [] => c
 | c :: cs, k :: ks => c ++ k :: weave cs ks
mutual
def allK : PT -> List ByteArray
 | .mk keys _ kids => weave (allKL kids) keys
def allKL : List PT -> List (List ByteArray)
 | [] => []
 | c :: cs => allK c :: allKL cs
end
mutual
def allV : PT -> List ByteArray
 | .mk _ vals kids => weave (allVL kids) vals
def allVL : List PT -> List (List ByteArray)
 | [] => []
 | c :: cs => allV c :: allVL cs
end
theorem allKL_map : ∀ l : List PT, allKL l = l.map allK
 | [] => rfl
 | c :: cs => by rw [allKL, allKL_map cs]; rfl
theorem allVL_map : ∀ l : List PT, allVL l = l.map allV
 | [] => rfl
 | c :: cs => by rw [allVL, allVL_map cs]; rfl
theorem allK_eq (t : PT) : allK t = weave (t.kids.map allK) t.keys := by
 cases t with | mk keys vals kids => rw [allK, allKL_map]; rfl
theorem allV_eq (t : PT) : allV t = weave (t.kids.map allV) t.vals := by
 cases t with | mk keys vals kids => rw [allV, allVL_map]; rfl
def Shp1 (t : PT) : Prop := t.keys.length = t.vals.length /\ t.keys.length <= 1000 /\ (t.kids.length = 0 ∨ t.kids.length = t.keys.length + 1)
mutual
def Shp : PT -> Prop
 | .mk keys vals kids => Shp1 (.mk keys vals kids) /\ ShpL kids
def ShpL : List PT -> Prop
 | [] => True
 | c :: cs => Shp c /\ ShpL cs
end
theorem ShpL_get : ∀ {l : List PT}, ShpL l -> ∀ {i : Nat} {s : PT}, l[i]? = some s -> Shp s
 | [], _, i, s, h => by simp at h
 | c :: cs, hf, 0, s, h => by
  simp only [ShpL] at hf
  obtain rfl := Option.some.inj h
  exact hf.1
 | c :: cs, hf, i + 1, s, h => by
  simp only [ShpL] at hf
  exact ShpL_get hf.2 (by simpa using h)
theorem Shp.one {t : PT} (h : Shp t) : Shp1 t := by
 cases t with | mk keys vals kids => simp only [Shp] at h; exact h.1
theorem Shp.kid {t s : PT} {i : Nat} (h : Shp t) (hs : t.kids[i]? = some s) : Shp s := by
 cases t with | mk keys vals kids =>
  simp only [Shp] at h
  exact ShpL_get h.2 hs
theorem Shp.mk' {t : PT} (h1 : Shp1 t) (h : ∀ (i : Nat) (s : PT), t.kids[i]? = some s -> Shp s) : Shp t := by
 cases t with | mk keys vals kids =>
  simp only [Shp]
  refine ⟨h1, ?_⟩
  have h' : ∀ (i : Nat) (s : PT), kids[i]? = some s -> Shp s := h
  clear h h1
  induction kids with
  | nil => simp [ShpL]
  | cons c cs ih =>
   simp only [ShpL]
   exact ⟨h' 0 c rfl, ih fun i s hs => h' (i + 1) s (by simpa using hs)⟩
mutual
def PT.big : PT -> Nat
 | .mk _ _ kids => 1 + PT.bigL kids
def PT.bigL : List PT -> Nat
 | [] => 0
 | c :: cs => c.big + PT.bigL cs
end
theorem bigL_get : ∀ {l : List PT} {i : Nat} {s : PT}, l[i]? = some s -> s.big <= PT.bigL l
 | [], i, s, h => by simp at h
 | c :: cs, 0, s, h => by
  obtain rfl := Option.some.inj h
  rw [PT.bigL]
  omega
 | c :: cs, i + 1, s, h => by
  have := bigL_get (l := cs) (i := i) (s := s) (by simpa using h)
  rw [PT.bigL]
  omega
theorem PT.big_kid {t s : PT} {i : Nat} (h : t.kids[i]? = some s) : s.big < t.big := by
 cases t with | mk keys vals kids =>
 have := bigL_get (l := kids) h
 rw [PT.big]
 omega
theorem PT.big_pos (t : PT) : 0 < t.big := by
 cases t with | mk keys vals kids => rw [PT.big]; omega
abbrev ptrv (p : Nat) : Value := .pointer (some ⟨p, 0, none⟩)
def kptr : Kd Nat := Kd.scalar ptrv (fun _ => rfl)
inductive Rd (T : Nat) (w : World) : Nat -> PT -> Prop
 | mk {p : Nat} {keys vals : List ByteArray} {kids : List PT} (Ak : Option Addr) (ck : Nat) (Av : Option Addr) (cv : Nat) (Ac : Option Addr) (cc : Nat) (ps : List Nat)
   (hn : w.heap[p]? = some (.cells #[.slice Ak keys.length ck, .slice Av vals.length cv, .slice Ac kids.length cc] T (0, 0)))
   (h1 : keys.length <= ck) (h2 : vals.length <= cv) (h3 : kids.length <= cc)
   (hk : Kd.string.C w Ak keys.length keys) (hv : Kd.string.C w Av vals.length vals) (hc : kptr.C w Ac kids.length ps) (hl : ps.length = kids.length)
   (ht : ∀ (i q : Nat) (s : PT), ps[i]? = some q -> kids[i]? = some s -> Rd T w q s) : Rd T w p (.mk keys vals kids)
section
variable {T : Nat} {w w1 : World} {p : Nat} {t : PT}
theorem Rd.under (h : Rd T w p t) (hb : Below w.heap.size w w1) : Rd T w1 p t := by
 induction h with
 | mk Ak ck Av cv Ac cc ps hn h1 h2 h3 hk hv hc hl ht ih =>
  exact .mk Ak ck Av cv Ac cc ps (blk_below hn hb) h1 h2 h3 (Kd.C_below hk hb) (Kd.C_below hv hb) (Kd.C_below hc hb) hl ih
theorem Rd.drew (h : Rd T w p t) : Rd T w.drew p t := h.under (below_drew (Below.refl _ _))
theorem Rd.drewN (h : Rd T w p t) (m : Nat) : Rd T (w.drewN m) p t := h.under (pw_below_drewN (Below.refl _ _) m)
end
structure NC (T : Nat) (w : World) (p : Nat) (t : PT) (Ak : Option Addr) (ck : Nat) (Av : Option Addr) (cv : Nat) (Ac : Option Addr) (cc : Nat) (ps : List Nat) : Prop where
 hn : w.heap[p]? = some (.cells #[.slice Ak t.keys.length ck, .slice Av t.vals.length cv, .slice Ac t.kids.length cc] T (0, 0))
 h1 : t.keys.length <= ck
 h2 : t.vals.length <= cv
 h3 : t.kids.length <= cc
 hk : Kd.string.C w Ak t.keys.length t.keys
 hv : Kd.string.C w Av t.vals.length t.vals
 hc : kptr.C w Ac t.kids.length ps
 hl : ps.length = t.kids.length
 ht : ∀ (i q : Nat) (s : PT), ps[i]? = some q -> t.kids[i]? = some s -> Rd T w q s
section
variable {T : Nat} {w w1 : World} {p : Nat} {t : PT} {Ak Av Ac : Option Addr} {ck cv cc : Nat} {ps : List Nat}
theorem Rd.open (h : Rd T w p t) : ∃ Ak ck Av cv Ac cc ps, NC T w p t Ak ck Av cv Ac cc ps := by
 cases h with | mk Ak ck Av cv Ac cc ps hn h1 h2 h3 hk hv hc hl ht => exact ⟨Ak, ck, Av, cv, Ac, cc, ps, ⟨hn, h1, h2, h3, hk, hv, hc, hl, ht⟩⟩
theorem NC.z0 (h : NC T w p t Ak ck Av cv Ac cc ps) : w.cell? ⟨p, 0, none⟩ = some (.slice Ak t.keys.length ck) := (blk_cell h.hn 0).trans rfl
theorem NC.z2 (h : NC T w p t Ak ck Av cv Ac cc ps) : w.cell? ⟨p, 2, none⟩ = some (.slice Ac t.kids.length cc) := (blk_cell h.hn 2).trans rfl
theorem at_ptr {A : Option Addr} {n : Nat} {ps : List Nat} (h : kptr.C w A n ps) (i : Int) (h0 : 0 <= i) (h1 : i < n) : ∃ ad, A = some ad /\ w.cell? (ad.add i.toNat) = some (ptrv (rdOf 0 ps i)) :=
 ReadsOf.at_ (Kd.reads_of_C (enc := ptrv) (d := (0 : Nat)) (h1 := fun _ => rfl) h) i h0 h1
theorem NC.key (h : NC T w p t Ak ck Av cv Ac cc ps) (i : Int) (h0 : 0 <= i) (h1 : i < (t.keys.length : Int)) :
  ∃ (ad : Addr), Ak = some ad /\ w.cell? (ad.add i.toNat) = some (.string (rdOf ByteArray.empty t.keys i)) := Kd.at_string h.hk i h0 h1
end
open Go.Proofs.Ytoddejmlcnbdmaa.Fn
def SR (w : World) (base : Nat) (v : Value) (l : List ByteArray) : Prop := Kd.string.R 9 w base (fun _ => True) v l
section
variable {W w1 : World} {base : Nat} {v v1 u : Value} {l l1 : List ByteArray}
end
open Go.Proofs.Ytoddejmlcnbdmaa.Fn
inductive Ck where
 | own (e : Nat) (v : Value) (xs : List Value)
 | que (e : Nat) (v : Value) (xs : List Value)
 | box (T p : Nat) (cs : Array Value)
 | row (e sz : Nat) (v : Value) (n : Nat) (xs : List Value)
def Ck.blk : Ck -> Option Nat
 | .own _ v _ => v.ownBlock
 | .que _ v _ => v.ownBlock
 | .box _ p _ => some p
 | .row _ _ v _ _ => v.ownBlock
def Ck.ok (w : World) (base : Nat) : Ck -> Prop
 | .own e v xs => w.ownsRow base e 1 v xs.length xs
 | .que e v xs => QRow w base e 1 v xs.length xs
 | .box T p cs => base <= p /\ w.heap[p]? = some (.cells cs T (0, 0))
 | .row e sz v n xs => w.ownsRow base e sz v n xs
def Apart (a b : Ck) : Prop := ∀ k, a.blk = some k -> b.blk ≠ some k
theorem Apart.symm {a b : Ck} (h : Apart a b) : Apart b a := fun k h1 h2 => h k h2 h1
structure Sat (w : World) (base : Nat) (L : List Ck) : Prop where
 ok : ∀ c ∈ L, c.ok w base
 ap : L.Pairwise Apart
def blks (L : List Ck) (k : Nat) : Prop := ∃ c ∈ L, c.blk = some k
section
variable {w w1 W : World} {base : Nat} {c : Ck} {L A A' R : List Ck}
theorem Ck.lt (h : c.ok w base) {k : Nat} (hk : c.blk = some k) : k < w.heap.size := by
 cases c with
 | own e v xs => exact own_lt h k hk
 | que e v xs => exact q_lt h k hk
 | box T p cs =>
  injection hk with hk
  subst hk
  exact blk_lt h.2
 | row e sz v n xs => exact own_lt h k hk
theorem Ck.ge (h : c.ok w base) {k : Nat} (hk : c.blk = some k) : base <= k := by
 cases c with
 | own e v xs => exact own_base h k hk
 | que e v xs => exact (q_typed h k hk).1
 | box T p cs =>
  injection hk with hk
  subst hk
  exact h.1
 | row e sz v n xs => exact own_base h k hk
theorem Ck.move (h : c.ok w base) (hm : ∀ k, c.blk = some k -> w1.heap[k]? = w.heap[k]?) : c.ok w1 base := by
 cases c with
 | own e v xs => exact own_move h hm
 | que e v xs => exact q_move h hm
 | box T p cs => exact ⟨h.1, (hm p rfl).trans h.2⟩
 | row e sz v n xs => exact own_move h hm
theorem Ck.lower {base' : Nat} (h : c.ok w base) (hb : base' <= base) : c.ok w base' := by
 cases c with
 | own e v xs => exact own_weaken h hb
 | que e v xs => exact q_lower h hb
 | box T p cs => exact ⟨Nat.le_trans hb h.1, h.2⟩
 | row e sz v n xs => exact own_weaken h hb
theorem Sat.lt (h : Sat w base L) {k : Nat} (hk : blks L k) : k < w.heap.size := by
 obtain ⟨c, hc, hb⟩ := hk
 exact Ck.lt (h.ok c hc) hb
theorem Sat.ge (h : Sat w base L) {k : Nat} (hk : blks L k) : base <= k := by
 obtain ⟨c, hc, hb⟩ := hk
 exact Ck.ge (h.ok c hc) hb
theorem Sat.move (h : Sat w base L) (hm : ∀ k, blks L k -> k < w.heap.size -> w1.heap[k]? = w.heap[k]?) : Sat w1 base L :=
 ⟨fun c hc => Ck.move (h.ok c hc) fun k hk => hm k ⟨c, hc, hk⟩ (Ck.lt (h.ok c hc) hk), h.ap⟩
theorem Sat.under (h : Sat w base L) (hb : Below w.heap.size w w1) : Sat w1 base L := h.move fun k _ hk => hb.block k hk
theorem Sat.lower {base' : Nat} (h : Sat w base L) (hb : base' <= base) : Sat w base' L := ⟨fun c hc => Ck.lower (h.ok c hc) hb, h.ap⟩
theorem Sat.drew (h : Sat w base L) : Sat w.drew base L := h.under (below_drew (Below.refl _ _))
theorem Sat.drewN (h : Sat w base L) (m : Nat) : Sat (w.drewN m) base L := h.under (pw_below_drewN (Below.refl _ _) m)
theorem Sat.perm (h : Sat w base A) (hp : A.Perm L) : Sat w base L :=
 ⟨fun c hc => h.ok c (hp.mem_iff.2 hc), hp.pairwise h.ap fun h => Apart.symm h⟩
theorem Sat.sub (h : Sat w base A) (hp : L.Sublist A) : Sat w base L := ⟨fun c hc => h.ok c (hp.subset hc), h.ap.sublist hp⟩
theorem Sat.left (h : Sat w base (A ++ R)) : Sat w base A := h.sub (List.sublist_append_left _ _)
theorem Sat.right (h : Sat w base (A ++ R)) : Sat w base R := h.sub (List.sublist_append_right _ _)
theorem Sat.apart (h : Sat w base (A ++ R)) {k : Nat} (ha : blks A k) (hr : blks R k) : False := by
 obtain ⟨c, hc, h1⟩ := ha
 obtain ⟨d, hd, h2⟩ := hr
 exact (List.pairwise_append.1 h.ap).2.2 c hc d hd k h1 h2
theorem Sat.frame (h : Sat w base (A ++ R)) (ha : Sat w1 base A') (hk : Kept w w1 (blks A)) (hb : ∀ k, blks A' k -> blks A k ∨ w.heap.size <= k) : Sat w1 base (A' ++ R) := by
 have hr : Sat w1 base R := h.right.move fun k hk' hlt => hk.2 k hlt fun hka => h.apart hka hk'
 refine ⟨fun c hc => ?_, List.pairwise_append.2 ⟨ha.ap, hr.ap, fun a haa r hrr k h1 h2 => ?_⟩⟩
 ·rcases List.mem_append.1 hc with hc | hc
  ·exact ha.ok c hc
  ·exact hr.ok c hc
 ·rcases hb k ⟨a, haa, h1⟩ with h3 | h3
  ·exact h.apart h3 ⟨r, hrr, h2⟩
  ·have := h.right.lt ⟨r, hrr, h2⟩
   omega
theorem Sat.add (h : Sat w base L) (hk : Kept w w1 (fun _ => False)) (hc : Sat w1 base A) (hn : ∀ k, blks A k -> w.heap.size <= k) : Sat w1 base (A ++ L) := by
 have := Sat.frame (A := []) (A' := A) (R := L) (w := w) (w1 := w1) (base := base) (by simpa using h) hc (hk.mono fun k h => h.elim) (fun k h => .inr (hn k h))
 exact this
theorem Sat.one (h : c.ok w base) : Sat w base [c] := ⟨fun d hd => by rw [List.mem_singleton.1 hd]; exact h, List.pairwise_singleton _ _⟩
theorem Sat.cell (h : Sat w base L) {T p : Nat} {cs : Array Value} (hm : Ck.box T p cs ∈ L) : w.heap[p]? = some (.cells cs T (0, 0)) := (h.ok _ hm).2
theorem ok_sr {v : Value} {l : List ByteArray} (h : Ck.ok w base (.own 9 v (encs Value.string l))) : SR w base v l :=
 Kd.R_of_own (enc := Value.string) (h1 := fun _ => rfl) (by have h2 : w.ownsRow base 9 1 v (encs Value.string l).length (encs Value.string l) := h; rw [encs_length] at h2; exact h2) (fun _ _ => trivial)
theorem sr_ok {v : Value} {l : List ByteArray} (h : SR w base v l) : Ck.ok w base (.own 9 v (encs Value.string l)) := by
 have h2 := Kd.own_of_R (enc := Value.string) (h1 := fun _ => rfl) h
 show w.ownsRow base 9 1 v (encs Value.string l).length (encs Value.string l)
 rw [encs_length]
 exact h2
abbrev txt (v : Value) (l : List ByteArray) : Ck := .own 9 v (encs Value.string l)
theorem Sat.sr (h : Sat w base L) {v : Value} {l : List ByteArray} (i : Nat) (hi : L[i]? = some (txt v l)) : SR w base v l := ok_sr (h.ok _ (List.mem_of_getElem? hi))
theorem Sat.lit {xs : List ByteArray} {vb : Value} (h : Sat W base L) (ho : Kd.string.R 9 w1 base (fun _ => True) vb xs) (hg : W.grownBy w1 none) (hn : ∃ b, vb.ownBlock = some b /\ W.heap.size <= b) : Sat w1 base (L ++ [txt vb xs]) := by
 have hk : Kept W w1 (fun _ => False) := ⟨hg.size, fun i hi _ => hg.block i hi (by simp)⟩
 refine (h.add hk (Sat.one (sr_ok ho)) ?_).perm List.perm_append_comm
 rintro k ⟨c, hc, hb⟩
 rw [List.mem_singleton.1 hc] at hb
 obtain ⟨b, h1, h2⟩ := hn
 have h3 : vb.ownBlock = some k := hb
 rw [h1] at h3
 injection h3 with h3
 omega
theorem set_perm {α : Type} : ∀ {l : List α} {i : Nat} {x y : α}, l[i]? = some x -> (l.Perm (x :: l.eraseIdx i)) /\ (l.set i y).Perm (y :: l.eraseIdx i)
 | [], i, x, y, h => by simp at h
 | a :: l, 0, x, y, h => by
  have h : a = x := by simpa using h
  subst h
  exact ⟨.refl _, .refl _⟩
 | a :: l, i + 1, x, y, h => by
  obtain ⟨h1, h2⟩ := set_perm (l := l) (i := i) (x := x) (y := y) (by simpa using h)
  exact ⟨(h1.cons a).trans (.swap _ _ _), (h2.cons a).trans (.swap _ _ _)⟩
end
open Go.Proofs.Ytoddejmlcnbdmaa.Fn
inductive NT where
 | mk (p : Nat) (kv vv cv : Value) (keys vals : List ByteArray) (kids : List NT)
def NT.p : NT -> Nat | .mk p _ _ _ _ _ _ => p
def NT.kv : NT -> Value | .mk _ v _ _ _ _ _ => v
def NT.vv : NT -> Value | .mk _ _ v _ _ _ _ => v
def NT.cv : NT -> Value | .mk _ _ _ v _ _ _ => v
def NT.keys : NT -> List ByteArray | .mk _ _ _ _ k _ _ => k
def NT.vals : NT -> List ByteArray | .mk _ _ _ _ _ v _ => v
def NT.kids : NT -> List NT | .mk _ _ _ _ _ _ c => c
mutual
def NT.erase : NT -> PT
 | .mk _ _ _ _ keys vals kids => .mk keys vals (NT.eraseL kids)
def NT.eraseL : List NT -> List PT
 | [] => []
 | c :: cs => c.erase :: NT.eraseL cs
end
theorem eraseL_map : ∀ l : List NT, NT.eraseL l = l.map NT.erase
 | [] => rfl
 | c :: cs => by rw [NT.eraseL, eraseL_map cs]; rfl
abbrev ptrs (l : List NT) : List Value := l.map fun k => ptrv k.p
mutual
def NT.cks (T E : Nat) : NT -> List Ck
 | .mk p kv vv cv keys vals kids => .box T p #[kv, vv, cv] :: txt kv keys :: txt vv vals :: .que E cv (ptrs kids) :: NT.cksL T E kids
def NT.cksL (T E : Nat) : List NT -> List Ck
 | [] => []
 | c :: cs => c.cks T E ++ NT.cksL T E cs
end
theorem cksL_flat (T E : Nat) : ∀ l : List NT, NT.cksL T E l = l.flatMap (NT.cks T E)
 | [] => rfl
 | c :: cs => by rw [NT.cksL, cksL_flat T E cs]; rfl
theorem cksL_append (T E : Nat) (a b : List NT) : NT.cksL T E (a ++ b) = NT.cksL T E a ++ NT.cksL T E b := by
 rw [cksL_flat, cksL_flat, cksL_flat, List.flatMap_append]
section
variable {w w1 : World} {base : Nat} {L : List Ck}
theorem reps_enc {α : Type} {enc : α -> Value} {xs : List α} {inner : List Value} {n : Nat} (hr : Reps (fun (x : α) (cs : List Value) => cs = [enc x]) 1 xs inner) : inner = encs enc xs := by
 apply List.ext_getElem?
 intro j
 rcases Nat.lt_or_ge j xs.length with hj | hj
 ·have h2 := hr.2 j _ (List.getElem?_eq_getElem hj)
  have hl : j < inner.length := by have := hr.1; omega
  have h3 : (inner.drop (j * 1)).take 1 = [enc xs[j]] := h2
  rw [Nat.mul_one, List.drop_eq_getElem_cons hl] at h3
  have h4 : inner[j] = enc xs[j] := by
   have h5 := congrArg List.head? h3
   rw [List.take_succ_cons] at h5
   exact Option.some.inj h5
  rw [List.getElem?_eq_getElem hl, h4]
  simp [encs, List.getElem?_eq_getElem hj]
 ·have h3 : inner.length = xs.length := by have := hr.1; omega
  rw [List.getElem?_eq_none (by omega), List.getElem?_eq_none (by rw [encs_length]; omega)]
def PQ (E : Nat) (w : World) (base : Nat) (v : Value) (ps : List Nat) : Prop := kptr.Q E w base (fun _ => True) v ps
theorem ok_pq {E : Nat} {v : Value} {ps : List Nat} (h : Ck.ok w base (.que E v (encs ptrv ps))) : PQ E w base v ps := by
 refine ⟨fun _ _ => trivial, encs ptrv ps, ?_, Kd.reps_scalar ps⟩
 have h2 : QRow w base E 1 v (encs ptrv ps).length (encs ptrv ps) := h
 rw [encs_length] at h2
 exact h2
theorem pq_ok {E : Nat} {v : Value} {ps : List Nat} (h : PQ E w base v ps) : Ck.ok w base (.que E v (encs ptrv ps)) := by
 obtain ⟨_, inner, ho, hr⟩ := h
 have e := reps_enc (n := 0) (enc := ptrv) hr
 subst e
 show QRow w base E 1 v (encs ptrv ps).length (encs ptrv ps)
 rw [encs_length]
 exact ho
theorem ptrs_encs (l : List NT) : ptrs l = encs ptrv (l.map NT.p) := by unfold ptrs encs; rw [List.map_map]; rfl
theorem Sat.tail {c : Ck} (h : Sat w base (c :: L)) : Sat w base L := h.sub (List.sublist_cons_self _ _)
theorem sub_flat {α β : Type} {f : α -> List β} : ∀ {l : List α} {x : α}, x ∈ l -> (f x).Sublist (l.flatMap f)
 | y :: l, x, h => by
  rw [List.flatMap_cons]
  rcases List.mem_cons.1 h with rfl | h
  ·exact List.sublist_append_left _ _
  ·exact (sub_flat h).trans (List.sublist_append_right _ _)
theorem sat_kid {T E : Nat} {l : List NT} (h : Sat w base (NT.cksL T E l)) {i : Nat} {s : NT} (hs : l[i]? = some s) : Sat w base (s.cks T E) := by
 rw [cksL_flat] at h
 exact h.sub (sub_flat (List.mem_of_getElem? hs))
theorem rd_of_sat {T E : Nat} : ∀ (n : Nat) (t : NT), SizeOf.sizeOf t <= n -> Sat w base (t.cks T E) -> Rd T w t.p t.erase
 | 0, t, h, _ => by cases t; simp at h
 | n + 1, .mk p kv vv cv keys vals kids, h, hs => by
  rw [NT.cks] at hs
  have hb := (hs.ok _ List.mem_cons_self).2
  obtain ⟨Ak, ck, e1, h1, hk⟩ := Kd.R_reads (ok_sr (hs.tail.ok _ List.mem_cons_self))
  obtain ⟨Av, cv', e2, h2, hv⟩ := Kd.R_reads (ok_sr (hs.tail.tail.ok _ List.mem_cons_self))
  have hq := hs.tail.tail.tail.ok _ List.mem_cons_self
  rw [ptrs_encs] at hq
  obtain ⟨Ac, cc, e3, h3, hc⟩ := Kd.Q_reads (ok_pq hq)
  subst e1; subst e2; subst e3
  rw [List.length_map] at h3 hc
  have hl : (NT.eraseL kids).length = kids.length := by rw [eraseL_map, List.length_map]
  refine .mk Ak ck Av cv' Ac cc (kids.map NT.p) (by rw [hl]; rw [List.length_map] at hb; exact hb) h1 h2 (by omega) hk hv (by rw [hl]; exact hc) (by rw [hl, List.length_map]) ?_
  intro i q s hq hs'
  rw [eraseL_map] at hs'
  rw [List.getElem?_map] at hq hs'
  obtain ⟨k, hk, rfl⟩ := Option.map_eq_some_iff.1 hq
  rw [hk] at hs'
  obtain rfl := Option.some.inj hs'
  refine rd_of_sat n k ?_ (sat_kid hs.tail.tail.tail.tail hk)
  have := List.sizeOf_lt_of_mem (List.mem_of_getElem? hk)
  have h3 : SizeOf.sizeOf (NT.mk p (.slice Ak keys.length ck) (.slice Av vals.length cv') (.slice Ac (kids.map NT.p).length cc) keys vals kids) = 1 + SizeOf.sizeOf p + SizeOf.sizeOf (Value.slice Ak keys.length ck) + SizeOf.sizeOf (Value.slice Av vals.length cv') + SizeOf.sizeOf (Value.slice Ac (kids.map NT.p).length cc) + SizeOf.sizeOf keys + SizeOf.sizeOf vals + SizeOf.sizeOf kids := by simp
  omega
theorem rd_of {T E : Nat} {t : NT} (h : Sat w base (t.cks T E)) : Rd T w t.p t.erase := rd_of_sat _ t (Nat.le_refl _) h
theorem Sat.put {T p : Nat} {cs cs' : Array Value} (h : Sat w base (.box T p cs :: L)) (j : Nat) (u : Value) (e : cs.setIfInBounds j u = cs') : Sat (w.setCell ⟨p, j, none⟩ u) base (.box T p cs' :: L) := by
 have h1 := (h.ok _ List.mem_cons_self)
 refine Sat.frame (A := [.box T p cs]) (A' := [.box T p cs']) (R := L) (w := w) h (Sat.one ⟨h1.1, blk_put h1.2 j u e⟩) ((Kept.refl w _).setCell (.inl ⟨_, List.mem_singleton_self _, rfl⟩) u) ?_
 rintro k ⟨c, hc, hb⟩
 rw [List.mem_singleton.1 hc] at hb
 exact .inl ⟨_, List.mem_singleton_self _, hb⟩
theorem Sat.newBox {T g : Nat} {cs : Array Value} {W : World} (h : Sat W base L) (hg : g = W.heap.size) (hbox : w1.heap[g]? = some (.cells cs T (0, 0))) (hb : Below W.heap.size W w1) (hbase : base <= W.heap.size) : Sat w1 base (.box T g cs :: L) := by
 refine Sat.add (A := [.box T g cs]) h (Kept.of_below hb _) (Sat.one ⟨by omega, hbox⟩) ?_
 rintro k ⟨c, hc, hb⟩
 rw [List.mem_singleton.1 hc] at hb
 injection hb with hb
 omega
theorem Sat.addNil (h : Sat w base L) (E : Nat) : Sat w base (.que E (.slice none 0 0) [] :: L) := by
 have hq : Ck.ok w base (.que E (.slice none 0 0) []) := pq_ok (ps := []) (Kd.Q_nil _ _ _ _ _)
 refine Sat.add (A := [.que E (.slice none 0 0) []]) h (Kept.refl _ _) (Sat.one hq) ?_
 rintro k ⟨c, hc, hb⟩
 rw [List.mem_singleton.1 hc] at hb
 cases hb
theorem Sat.boxAt (h : Sat w base L) (i : Nat) {T p : Nat} {cs : Array Value} (hi : L[i]? = some (.box T p cs)) : w.heap[p]? = some (.cells cs T (0, 0)) := h.cell (List.mem_of_getElem? hi)
theorem Sat.z (h : Sat w base L) (i : Nat) {T p : Nat} {cs : Array Value} (hi : L[i]? = some (.box T p cs)) (j : Nat) : w.cell? ⟨p, j, none⟩ = cs[j]? := blk_cell (h.boxAt i hi) j
theorem Sat.f (h : Sat w base L) (i : Nat) {T p : Nat} {cs : Array Value} (hi : L[i]? = some (.box T p cs)) (j : Nat) : w.frozen? ⟨p, j, none⟩ = false := blk_frozen (h.boxAt i hi) j
end
open Go.Proofs.Ytoddejmlcnbdmaa.Fn
def badP (p : S110) : Bool := decide (4 < p.f0.length) || p.f1.length != p.f0.length || (p.f2.length != 0 && p.f2.length != p.f0.length + 1)
def readK (rd : Nat -> Option (PT × Nat)) : List Int -> Nat -> List PT -> Option (List PT × Nat)
 | [], next, acc => some (acc, next)
 | k :: ks, next, acc => if k ≠ (next : Int) then none else match rd next with
  | none => none
  | some r => readK rd ks r.2 (acc ++ [r.1])
def fin (p : S110) (o : Option (List PT × Nat)) : Option (PT × Nat) := o.map fun r => (.mk p.f0 p.f1 r.1, r.2)
def readS (P : List S110) : Nat -> Nat -> Option (PT × Nat)
 | 0, _ => none
 | f + 1, at_ => if P.length <= at_ then none else if badP (P.getD at_ z110) then none else fin (P.getD at_ z110) (readK (readS P f) (P.getD at_ z110).f2 (at_ + 1) [])
section
variable {rd : Nat -> Option (PT × Nat)} {p : S110} {l : List Int} {i next : Nat} {acc : List PT} {k : Int} {R : Option (PT × Nat)}
end
theorem readK_le {P : List S110} {rd : Nat -> Option (PT × Nat)} (hrd : ∀ at_ t n, rd at_ = some (t, n) -> at_ < n /\ n <= P.length) : ∀ (l : List Int) (next : Nat) (acc : List PT) (ts : List PT) (n : Nat), next <= P.length -> readK rd l next acc = some (ts, n) -> next <= n /\ n <= P.length
 | [], next, acc, ts, n, hl, h => by
  rw [readK] at h
  injection h with h
  injection h with h1 h2
  omega
 | k :: ks, next, acc, ts, n, hl, h => by
  rw [readK] at h
  split at h
  ·cases h
  ·cases hr : rd next with
   | none => rw [hr] at h; cases h
   | some r =>
    rw [hr] at h
    have h1 := hrd next r.1 r.2 hr
    have := readK_le hrd ks r.2 _ ts n h1.2 h
    omega
theorem readS_le {P : List S110} : ∀ (f at_ : Nat) (t : PT) (n : Nat), readS P f at_ = some (t, n) -> at_ < n /\ n <= P.length
 | 0, at_, t, n, h => by cases h
 | f + 1, at_, t, n, h => by
  rw [readS] at h
  split at h
  ·cases h
  ·rename_i hl
   split at h
   ·cases h
   ·unfold fin at h
    obtain ⟨r, hr, e⟩ := Option.map_eq_some_iff.1 h
    injection e with e1 e2
    have := readK_le (P := P) (fun a t n h => readS_le f a t n h) _ _ _ r.1 r.2 (by omega) hr
    omega
open Go.Proofs.Ytoddejmlcnbdmaa.Fn
theorem under94 : Try.prog.underlying 94 = some (.slice 70) := by kernel_rfl
theorem under99 : Try.prog.underlying 99 = some (.slice 74) := by kernel_rfl
theorem info70 : (Try.prog.info? 70).map (fun i => (i.zero, i.size, i.bytes)) = some (some (.pointer none), 1, 8) := by kernel_rfl
theorem info74 : (Try.prog.info? 74).map (fun i => (i.zero, i.size, i.bytes)) = some (some (.pointer none), 1, 8) := by kernel_rfl
theorem ne_t {a b : Nat} (h : a ≠ b) : ((a : Int) != (b : Int)) = true := by rw [bne_iff_ne]; omega
theorem ne_f {a b : Nat} (h : a = b) : ((a : Int) != (b : Int)) = false := by rw [bne_eq_false_iff_eq]; omega
theorem nen_t {a b : Nat} (h : a ≠ b) : (a != b) = true := by rw [bne_iff_ne]; omega
theorem nen_f {a b : Nat} (h : a = b) : (a != b) = false := by rw [bne_eq_false_iff_eq]; omega
section
variable {w w1 W : World} {base T E g : Nat} {v0 v1 cv cv' : Value} {k v : List ByteArray} {X L : List Ck} {acc : List NT} {n : NT}
theorem Sat.behind {A : List Ck} (h : Sat w base L) (hb : Below w.heap.size w w1) (hbase : base <= w.heap.size) (hn : Sat w1 w.heap.size A) : Sat w1 base (L ++ A) :=
 (h.add (Kept.of_below hb _) (hn.lower hbase) fun k hk => hn.ge hk).perm List.perm_append_comm
end
open Go.Proofs.Ytoddejmlcnbdmaa.Fn
set_option maxHeartbeats 8000000
set_option maxRecDepth 100000
end Go.Proofs.Ytoddejmlcnbdmaa.Tree
namespace Go.Proofs.Ytoddejmlcnbdmaa.Fn
def slices_Clone_string_string.f (l0 : List ByteArray) : Option (List ByteArray) := (some (([] : List ByteArray) : List ByteArray)).bind fun y179 => (if y179.length + l0.length < 8796093022208 then (some (y179 ++ l0)) else (none))
theorem slices_Clone_string_string.nil_ (w : World) (a : Option Addr) (n c : Nat) : (binOp .eql 38 (.slice a n c) (.slice none 0 0)).run Try.prog w = .ok (.bool a.isNone) w := Go.Proofs.Ytoddejmlcnbdmaa.Gen.eql_nil w _ _ a n c Try.underlying38
attribute [local go_sem] slices_Clone_string_string.nil_
theorem slices_Clone_string_string.calls (A0 : Option Addr) (c0 : Nat) (l0 : List ByteArray) (r : List ByteArray) (w : World) (hr0 : Kd.C Kd.string w A0 l0.length l0) (hc0 : l0.length <= c0) (h : slices_Clone_string_string.f l0 = some r) :
  Calls Try.prog 74 #[.slice A0 l0.length c0] w fun e w' => ∃ v0_ : Value, e = .returned (v0_) /\ Kd.R Kd.string 9 w' w.heap.size (fun _ => True) v0_ r /\ Below w.heap.size w w' := by
 have HR0 := A_ hr0
 have HC0 := A_ hc0
 clear hr0 hc0
 have HB := A_ (Below.refl w.heap.size w)
 have H : ((some (([] : List ByteArray) : List ByteArray)).bind fun y179 => (if y179.length + l0.length < 8796093022208 then (some (y179 ++ l0)) else (none))) = some r := h
 clear h
 obtain ⟨y179, hy179⟩ : ∃ y_ : List ByteArray, y_ = (([] : List ByteArray)) := ⟨_, rfl⟩
 replace H : (if y179.length + l0.length < 8796093022208 then (some (y179 ++ l0)) else (none)) = some r := by first | (rw [hy179]; with_reducible exact H) | (have H2_ := (Option.bind_some _ _).symm.trans H; rw [hy179]; with_reducible exact H2_) | (have H2_ := (Option.bind_some _ _).symm.trans H; with_reducible exact H2_) | with_reducible exact H | (rw [hy179]; exact H) | exact H
 have Ny179 := A_ hy179
 clear hy179
 by_cases c2 : y179.length + l0.length < 8796093022208
 ·rw [if_pos c2] at H
  have LMc2 := A_ c2
  clear c2
  obtain ⟨y182, hy182⟩ : ∃ y_ : List ByteArray, y_ = (y179 ++ l0) := ⟨_, rfl⟩
  replace H : (some y182) = some r := by first | (rw [hy182]; with_reducible exact H) | (have H2_ := (Option.bind_some _ _).symm.trans H; rw [hy182]; with_reducible exact H2_) | (have H2_ := (Option.bind_some _ _).symm.trans H; with_reducible exact H2_) | with_reducible exact H | (rw [hy182]; exact H) | exact H
  have Ny182 := A_ hy182
  clear hy182
  obtain rfl := Option.some.inj H
  rcases A0 with _ | ad_
  ·have e0_ : l0 = [] := by
    rcases Nat.eq_zero_or_pos l0.length with h_ | h_
    ·exact List.length_eq_zero_iff.1 h_
    ·obtain ⟨_, _, hz_⟩ := HR0.out
     obtain ⟨ad_, hz_, _⟩ := hz_ h_
     cases hz_
   subst e0_
   have e1_ : y182 = [] := by rw [Ny182.out, Ny179.out]; rfl
   subst e1_
   go_enter Try.func74, Try.ntmps74
   go_wp2
   go_ret
   exact ⟨_, rfl, Kd.R_nil _ _ _ _ _, HB.out⟩
  go_enter Try.func74, Try.ntmps74
  go_wp2_with (first | ((with_reducible refine gate_dst (N := 5) rfl ?_); refine Kd.R_lit Kd.string _ 9 ?hg (N := 5) ?hd (xs := ([] : List ByteArray)) (inner := []) (ok := fun _ => True) (okp := fun _ => True) ?hr ?hp (fun _ hk => hk) trivial (Below.refl _ _) (Nat.le_refl _) (by simp) ?_; (case hd => rfl); (case hg => rfl); (case hr => first | (go_simp; done) | (go_simp; rfl)); (case hp => exact (Reps.none _ _)); intro v180 w3 ho4 hb hg_ hnew_; clear hg_ hnew_; (first | rw [<- Ny179.out] at ho4 | (simp only [Int.reduceToNat] at ho4; rw [<- Ny179.out] at ho4)); have n0_ := A_ (Kd.R_lower ho4 (bw_ HB.out)); have n1_ := A_ (bs_ HB.out hb); clear HB; have HO181 := n0_; have HB := n1_; clear n0_ n1_; clear hb ho4) | ((with_reducible refine gate_builtin (b := .append) (xs := #[.tmp 5, .tmp 6]) rfl ?_); at_builtin; refine Kd.R_append_rows Kd.string (w0 := w) w.heap.size rfl (.tmp 5) (.tmp 6) 38 9 (.string ⟨#[]⟩) 16 rfl Try.underlying38 info9 rfl (by decide) (by omega) v180 y179 l0 _ _ _ (fun _ => True) (fun _ => False) rfl rfl ?aO ?aR (fun _ _ h => h) (fun _ h => h.elim) ?aF ?aB ?aS ?aL ?_; (case aR => refine cd_ ?_; exact (Kd.C_below HR0.out HB.out)); (case aB => exact (be_ HB.out)); (case aF => exact (fun _ _ => trivial)); (case aO => exact (rk_ HO181.out)); (case aS => exact (bw_ HB.out)); (case aL => have := LMc2.out; omega); intro v183 w5 ho hb hg hat; rw [<- Ny182.out] at ho; have n0_ := A_ (hb); have n1_ := A_ (ho); clear HB; clear HO181; have HB := n0_; have HO184 := n1_; clear n0_ n1_; clear ho hb hg hat))
  go_ret
  exact ⟨_, ew_, by (with_reducible repeat (first | apply Kd.R_alloc | apply Kd.R_drewN | apply Kd.R_drew)); exact HO184.out, by repeat (first | (with_reducible first | exact HB.out | apply below_alloc | apply pw_below_drewN | apply below_drew1) | exact HB.out)⟩
 ·rw [if_neg c2] at H
  exact absurd H (by simp)
end Go.Proofs.Ytoddejmlcnbdmaa.Fn
namespace Go.Proofs.Ytoddejmlcnbdmaa.Tree
open Go.Proofs.Ytoddejmlcnbdmaa.Fn
set_option maxHeartbeats 8000000
set_option maxRecDepth 100000
open Go.Proofs.Ytoddejmlcnbdmaa.Fn
set_option maxHeartbeats 8000000
set_option maxRecDepth 100000
theorem spec_leaf.callsB {p : Nat} {t : PT} (b : Bool) (hb : decide ((t.kids.length : Int) = 0) = b) (w : World) (h : Rd 96 w p t) :
  Calls Try.prog 84 #[ptrv p] w fun e w' => e = .returned (.bool b) /\ Drawn0 w w' := by
 subst hb
 obtain ⟨Ak, ck, Av, cv, Ac, cc, ps, HN⟩ := h.open
 have hz := HN.z2
 clear HN h
 go_enter Try.func84, Try.ntmps84
 go_wp2
 go_ret
 exact ⟨by first | rfl | (simp; done), by repeat (first | exact Drawn0.refl _ | apply Drawn0.step)⟩
open Go.Proofs.Ytoddejmlcnbdmaa.Fn
set_option maxHeartbeats 8000000
set_option maxRecDepth 100000
open Go.Proofs.Ytoddejmlcnbdmaa.Fn
set_option maxHeartbeats 8000000
set_option maxRecDepth 100000
theorem impl_isLeaf.callsB {p : Nat} {t : PT} (b : Bool) (hb : decide ((t.kids.length : Int) = 0) = b) (w : World) (h : Rd 101 w p t) :
  Calls Try.prog 99 #[ptrv p] w fun e w' => e = .returned (.bool b) /\ Drawn0 w w' := by
 subst hb
 obtain ⟨Ak, ck, Av, cv, Ac, cc, ps, HN⟩ := h.open
 have hz := HN.z2
 clear HN h
 go_enter Try.func99, Try.ntmps99
 go_wp2
 go_ret
 exact ⟨by first | rfl | (simp; done), by repeat (first | exact Drawn0.refl _ | apply Drawn0.step)⟩
open Go.Proofs.Ytoddejmlcnbdmaa.Fn
set_option maxHeartbeats 8000000
set_option maxRecDepth 100000
open Go.Proofs.Ytoddejmlcnbdmaa.Fn
set_option maxHeartbeats 8000000
set_option maxRecDepth 100000
end Go.Proofs.Ytoddejmlcnbdmaa.Tree
namespace Go.Proofs.Ytoddejmlcnbdmaa.Fn
def cmp_isNaN_string.f (a0 : ByteArray) : Option (Bool) := some (a0.toList != a0.toList)
theorem cmp_isNaN_string.calls (a0 : ByteArray) (r : Bool) (w : World) (h : cmp_isNaN_string.f a0 = some r) :
  Calls Try.prog 135 #[.string a0] w fun e w' => e = .returned (.bool r) /\ Drawn0 w w' := by
 have H : (some (a0.toList != a0.toList)) = some r := h
 clear h
 obtain rfl := Option.some.inj H
 go_enter Try.func135, Try.ntmps135
 go_wp2
 go_ret
 exact ⟨by first | rfl | (simp; done) | (simp [*]; done), by repeat (first | exact Drawn0.refl _ | apply Drawn0.step)⟩
def cmp_Less_string.f (a0 : ByteArray) (a1 : ByteArray) : Option (Bool) := (cmp_isNaN_string.f a0).bind fun t237 => (if t237 = true then ((cmp_isNaN_string.f a1).bind fun t238 => (if t238 = true then (some (Op.bytesLess a0.toList a1.toList)) else (some true))) else (some (Op.bytesLess a0.toList a1.toList)))
theorem cmp_Less_string.calls (a0 : ByteArray) (a1 : ByteArray) (r : Bool) (w : World) (h : cmp_Less_string.f a0 a1 = some r) :
  Calls Try.prog 122 #[.string a0, .string a1] w fun e w' => e = .returned (.bool r) /\ Drawn0 w w' := by
 have H : ((cmp_isNaN_string.f a0).bind fun t237 => (if t237 = true then ((cmp_isNaN_string.f a1).bind fun t238 => (if t238 = true then (some (Op.bytesLess a0.toList a1.toList)) else (some true))) else (some (Op.bytesLess a0.toList a1.toList)))) = some r := h
 clear h
 replace H := Option.bind_eq_some_iff.mp H
 obtain ⟨t237, A30, H⟩ := H
 replace H : (if t237 = true then ((cmp_isNaN_string.f a1).bind fun t238 => (if t238 = true then (some (Op.bytesLess a0.toList a1.toList)) else (some true))) else (some (Op.bytesLess a0.toList a1.toList))) = some r := H
 have A3 := A_ A30
 clear A30
 by_cases c4 : t237 = true
 ·subst c4
  have H1 : ((cmp_isNaN_string.f a1).bind fun t238 => (if t238 = true then (some (Op.bytesLess a0.toList a1.toList)) else (some true))) = some r := by rw [if_pos rfl] at H; exact H
  clear H
  have H := H1
  clear H1
  replace H := Option.bind_eq_some_iff.mp H
  obtain ⟨t238, A50, H⟩ := H
  replace H : (if t238 = true then (some (Op.bytesLess a0.toList a1.toList)) else (some true)) = some r := H
  have A5 := A_ A50
  clear A50
  by_cases c6 : t238 = true
  ·subst c6
   have H1 : (some (Op.bytesLess a0.toList a1.toList)) = some r := by rw [if_pos rfl] at H; exact H
   clear H
   have H := H1
   clear H1
   obtain rfl := Option.some.inj H
   go_enter Try.func122, Try.ntmps122
   go_wp2_with (first | ((with_reducible refine gate_callee (f := 135) rfl ?_); refine goesL_ (some 6) rfl rfl Try.func135 (by kernel_rfl) rfl #[.string a0] rfl (ag_) ?_; (with_reducible refine (cmp_isNaN_string.calls a0 true _ A3.out).mono ?_); rintro e w' ⟨rfl, ⟨nd, rfl⟩⟩; refine ⟨_, rfl, ?_⟩) | (go_at_call 135; (with_reducible refine (cmp_isNaN_string.calls a1 true _ A5.out).mono ?_); rintro e w' ⟨rfl, ⟨nd, rfl⟩⟩))
   go_ret
   exact ⟨by first | rfl | (simp only [Go.Proofs.Ytoddejmlcnbdmaa.Gen.nil_str, Go.Proofs.Ytoddejmlcnbdmaa.Gen.gt_str]; first | done | rfl | (simp; done)) | (simp; done) | (simp [*]; done), by repeat (first | exact Drawn0.refl _ | apply Drawn0.step)⟩
  ·replace c6 := Bool.eq_false_iff.mpr c6
   subst c6
   have H1 : (some true) = some r := by rw [if_neg (show ¬ (false = true) by decide)] at H; exact H
   clear H
   have H := H1
   clear H1
   obtain rfl := Option.some.inj H
   go_enter Try.func122, Try.ntmps122
   go_wp2_with (first | ((with_reducible refine gate_callee (f := 135) rfl ?_); refine goesL_ (some 6) rfl rfl Try.func135 (by kernel_rfl) rfl #[.string a0] rfl (ag_) ?_; (with_reducible refine (cmp_isNaN_string.calls a0 true _ A3.out).mono ?_); rintro e w' ⟨rfl, ⟨nd, rfl⟩⟩; refine ⟨_, rfl, ?_⟩) | (go_at_call 135; (with_reducible refine (cmp_isNaN_string.calls a1 false _ A5.out).mono ?_); rintro e w' ⟨rfl, ⟨nd, rfl⟩⟩))
   go_ret
   exact ⟨by first | rfl | (simp only [Go.Proofs.Ytoddejmlcnbdmaa.Gen.nil_str, Go.Proofs.Ytoddejmlcnbdmaa.Gen.gt_str]; first | done | rfl | (simp; done)) | (simp; done) | (simp [*]; done), by repeat (first | exact Drawn0.refl _ | apply Drawn0.step)⟩
 ·replace c4 := Bool.eq_false_iff.mpr c4
  subst c4
  have H1 : (some (Op.bytesLess a0.toList a1.toList)) = some r := by rw [if_neg (show ¬ (false = true) by decide)] at H; exact H
  clear H
  have H := H1
  clear H1
  obtain rfl := Option.some.inj H
  go_enter Try.func122, Try.ntmps122
  go_wp2_with (first | ((with_reducible refine gate_callee (f := 135) rfl ?_); refine goesL_ (some 6) rfl rfl Try.func135 (by kernel_rfl) rfl #[.string a0] rfl (ag_) ?_; (with_reducible refine (cmp_isNaN_string.calls a0 false _ A3.out).mono ?_); rintro e w' ⟨rfl, ⟨nd, rfl⟩⟩; refine ⟨_, rfl, ?_⟩))
  go_ret
  exact ⟨by first | rfl | (simp only [Go.Proofs.Ytoddejmlcnbdmaa.Gen.nil_str, Go.Proofs.Ytoddejmlcnbdmaa.Gen.gt_str]; first | done | rfl | (simp; done)) | (simp; done) | (simp [*]; done), by repeat (first | exact Drawn0.refl _ | apply Drawn0.step)⟩
def slices_isNaN_string.f (a0 : ByteArray) : Option (Bool) := some (a0.toList != a0.toList)
theorem slices_isNaN_string.calls (a0 : ByteArray) (r : Bool) (w : World) (h : slices_isNaN_string.f a0 = some r) :
  Calls Try.prog 123 #[.string a0] w fun e w' => e = .returned (.bool r) /\ Drawn0 w w' := by
 have H : (some (a0.toList != a0.toList)) = some r := h
 clear h
 obtain rfl := Option.some.inj H
 go_enter Try.func123, Try.ntmps123
 go_wp2
 go_ret
 exact ⟨by first | rfl | (simp; done) | (simp [*]; done), by repeat (first | exact Drawn0.refl _ | apply Drawn0.step)⟩
def slices_BinarySearch_string_string.l0 : Nat -> List ByteArray -> ByteArray -> Int -> Int -> Int -> Option (Int × Bool)
 | 0, _, _, _, _, _ => none
 | k + 1, x0, x1, x6, x7, x8 => if x7 < x8 then (if 0 <= (wrap64 ((IntKind.u64.wrap (wrap64 (x7 + x8))) / 2)) then (if (wrap64 ((IntKind.u64.wrap (wrap64 (x7 + x8))) / 2)) < (x0.length : Int) then ((cmp_Less_string.f (rdOf ByteArray.empty x0 (wrap64 ((IntKind.u64.wrap (wrap64 (x7 + x8))) / 2))) x1).bind fun t240 => (if t240 = true then (slices_BinarySearch_string_string.l0 k x0 x1 x6 (wrap64 ((wrap64 ((IntKind.u64.wrap (wrap64 (x7 + x8))) / 2)) + 1)) x8) else (slices_BinarySearch_string_string.l0 k x0 x1 x6 x7 (wrap64 ((IntKind.u64.wrap (wrap64 (x7 + x8))) / 2))))) else (none)) else (none)) else (if x7 < x6 then (if 0 <= x7 then (if x7 < (x0.length : Int) then (if (rdOf ByteArray.empty x0 x7).toList = x1.toList then (some (x7, true)) else ((slices_isNaN_string.f (rdOf ByteArray.empty x0 x7)).bind fun t243 => (if t243 = true then ((slices_isNaN_string.f x1).bind fun t244 => (some (x7, t244))) else (some (x7, false))))) else (none)) else (none)) else (some (x7, false)))
def slices_BinarySearch_string_string.f (k : Nat) (l0 : List ByteArray) (a1 : ByteArray) : Option (Int × Bool) := slices_BinarySearch_string_string.l0 k l0 a1 (l0.length : Int) 0 (l0.length : Int)
theorem slices_BinarySearch_string_string.calls (k : Nat) (A0 : Option Addr) (c0 : Nat) (l0 : List ByteArray) (a1 : ByteArray) (r1 : Int) (r2 : Bool) (w : World) (hr0 : Kd.C Kd.string w A0 l0.length l0) (hc0 : l0.length <= c0) (h : slices_BinarySearch_string_string.f k l0 a1 = some (r1, r2)) :
  Calls Try.prog 103 #[.slice A0 l0.length c0, .string a1] w fun e w' => e = .returned (.tuple #[.int .i64 r1, .bool r2]) /\ Drawn0 w w' := by
 have HR0 := A_ hr0
 have HC0 := A_ hc0
 clear hr0 hc0
 have H : (slices_BinarySearch_string_string.l0 k l0 a1 (l0.length : Int) 0 (l0.length : Int)) = some (r1, r2) := h
 clear h
 have H' := A_ H
 clear H
 go_enter Try.func103, Try.ntmps103
 go_wp2
 go_loopg [7, 8] k (fun kq v7 v8 w' => ∃ (x7_1 : Int) (x8_1 : Int), v7 = .int .i64 x7_1 /\ v8 = .int .i64 x8_1 /\ Aside0 (slices_BinarySearch_string_string.l0 kq l0 a1 (l0.length : Int) x7_1 x8_1 = some (r1, r2)) /\ Aside0 (kq <= k) /\ Drawn0 w w')
 case atStart => exact ⟨(0), ((l0.length : Int)), (by first | rfl | (simp; done) | (simp [*]; done)), (by first | rfl | (simp; done) | (simp [*]; done)), H', ⟨Nat.le_refl _⟩, by repeat (first | exact Drawn0.refl _ | apply Drawn0.step)⟩
 case round =>
  clear H'
  (try clear c1); (try clear p2)
  obtain ⟨x7_1, x8_1, rfl, rfl, HA, HK1, ⟨m1, rfl⟩⟩ := hrel
  cases gk with
  | zero => exact absurd HA.out (by simp [slices_BinarySearch_string_string.l0])
  | succ k1 =>
   have H := HA.out
   clear HA
   simp only [slices_BinarySearch_string_string.l0] at H
   by_cases c3 : x7_1 < x8_1
   ·rw [if_pos c3] at H
    have c3b0 : decide (x7_1 < x8_1) = true := decide_eq_true c3
    clear c3
    obtain ⟨ji4, hji4⟩ : ∃ j_ : Int, (wrap64 ((IntKind.u64.wrap (wrap64 (x7_1 + x8_1))) / 2)) = j_ := ⟨_, rfl⟩
    replace H : (if 0 <= (ji4) then (if (ji4) < (l0.length : Int) then ((cmp_Less_string.f (rdOf ByteArray.empty l0 (ji4)) a1).bind fun t240 => (if t240 = true then (slices_BinarySearch_string_string.l0 k1 l0 a1 (l0.length : Int) (wrap64 ((ji4) + 1)) x8_1) else (slices_BinarySearch_string_string.l0 k1 l0 a1 (l0.length : Int) x7_1 ji4))) else (none)) else (none)) = some (r1, r2) := by first | (rw [hji4] at H; exact H) | (simp only [hji4] at H ⊢; exact H)
    have hji4w : (IntKind.i64.wrap ((IntKind.u64.wrap (wrap64 (x7_1 + x8_1))) / 2)) = ji4 := (i64_w _).trans hji4
    by_cases c5 : 0 <= (ji4)
    ·rw [if_pos c5] at H
     have c5b0 : decide (0 <= (ji4)) = true := decide_eq_true c5
     clear c5
     by_cases c6 : (ji4) < (l0.length : Int)
     ·rw [if_pos c6] at H
      have c6b0 : decide ((ji4) < (l0.length : Int)) = true := decide_eq_true c6
      clear c6
      replace H := Option.bind_eq_some_iff.mp H
      obtain ⟨t240, A70, H⟩ := H
      replace H : (if t240 = true then (slices_BinarySearch_string_string.l0 k1 l0 a1 (l0.length : Int) (wrap64 ((ji4) + 1)) x8_1) else (slices_BinarySearch_string_string.l0 k1 l0 a1 (l0.length : Int) x7_1 ji4)) = some (r1, r2) := H
      have A7 := A_ A70
      clear A70
      by_cases c8 : t240 = true
      ·subst c8
       have H1 : (slices_BinarySearch_string_string.l0 k1 l0 a1 (l0.length : Int) (wrap64 ((ji4) + 1)) x8_1) = some (r1, r2) := by rw [if_pos rfl] at H; exact H
       clear H
       have H := H1
       clear H1
       have H' := A_ H
       clear H
       have p239 : 0 <= ((ji4) : Int) := of_decide_eq_true as_
       have q239 : (ji4) < (l0.length : Int) := of_decide_eq_true as_
       obtain ⟨ad239, e239, hx239_0⟩ := Kd.at_string HR0.out (ji4) p239 q239
       cases e239
       replace p239 := eq_true p239
       replace q239 := eq_true q239
       go_wp2_with (first | ((with_reducible refine gate_callee (f := 122) rfl ?_); refine goesL_ (some 27) rfl rfl Try.func122 (by kernel_rfl) rfl #[.string (rdOf ByteArray.empty l0 (ji4)), .string a1] rfl (by (try simp only [List.map_toArray, List.map_cons, List.map_nil]); first | done | (simp only [hji4]; rfl) | rfl | (simp only [List.length_drop, List.length_take]; rfl)) ?_; (with_reducible refine (cmp_Less_string.calls (rdOf ByteArray.empty l0 (ji4)) a1 true _ A7.out).mono ?_); rintro e w' ⟨rfl, ⟨nd, rfl⟩⟩; refine ⟨_, rfl, ?_⟩))
       go_roundg k1
       case measure => have := HK1.out; omega
       case rel => exact ⟨(wrap64 ((ji4) + 1)), (x8_1), (by first | rfl | (simp; done) | (simp only [<- hji4] <;> (first | rfl | simp)) | (simp [*]; done)), (by first | rfl | (simp; done) | (simp [*]; done)), H', ⟨by have := HK1.out; omega⟩, by repeat (first | exact Drawn0.refl _ | apply Drawn0.step)⟩
      ·replace c8 := Bool.eq_false_iff.mpr c8
       subst c8
       have H1 : (slices_BinarySearch_string_string.l0 k1 l0 a1 (l0.length : Int) x7_1 ji4) = some (r1, r2) := by rw [if_neg (show ¬ (false = true) by decide)] at H; exact H
       clear H
       have H := H1
       clear H1
       have H' := A_ H
       clear H
       have p239 : 0 <= ((ji4) : Int) := of_decide_eq_true as_
       have q239 : (ji4) < (l0.length : Int) := of_decide_eq_true as_
       obtain ⟨ad239, e239, hx239_0⟩ := Kd.at_string HR0.out (ji4) p239 q239
       cases e239
       replace p239 := eq_true p239
       replace q239 := eq_true q239
       go_wp2_with (first | ((with_reducible refine gate_callee (f := 122) rfl ?_); refine goesL_ (some 27) rfl rfl Try.func122 (by kernel_rfl) rfl #[.string (rdOf ByteArray.empty l0 (ji4)), .string a1] rfl (by (try simp only [List.map_toArray, List.map_cons, List.map_nil]); first | done | (simp only [hji4]; rfl) | rfl | (simp only [List.length_drop, List.length_take]; rfl)) ?_; (with_reducible refine (cmp_Less_string.calls (rdOf ByteArray.empty l0 (ji4)) a1 false _ A7.out).mono ?_); rintro e w' ⟨rfl, ⟨nd, rfl⟩⟩; refine ⟨_, rfl, ?_⟩))
       go_roundg k1
       case measure => have := HK1.out; omega
       case rel => exact ⟨(x7_1), (ji4), (by first | rfl | (simp; done) | (simp [*]; done)), (by first | rfl | (simp; done) | (simp only [<- hji4] <;> (first | rfl | simp)) | (simp [*]; done)), H', ⟨by have := HK1.out; omega⟩, by repeat (first | exact Drawn0.refl _ | apply Drawn0.step)⟩
     ·rw [if_neg c6] at H
      exact absurd H (by simp)
    ·rw [if_neg c5] at H
     exact absurd H (by simp)
   ·rw [if_neg c3] at H
    have c3b0 : decide (x7_1 < x8_1) = false := decide_eq_false c3
    clear c3
    by_cases c9 : x7_1 < (l0.length : Int)
    ·rw [if_pos c9] at H
     have c9b0 : decide (x7_1 < (l0.length : Int)) = true := decide_eq_true c9
     clear c9
     by_cases c10 : 0 <= x7_1
     ·rw [if_pos c10] at H
      have c10b0 : decide (0 <= x7_1) = true := decide_eq_true c10
      clear c10
      by_cases c11 : x7_1 < (l0.length : Int)
      ·rw [if_pos c11] at H
       have c11b0 : decide (x7_1 < (l0.length : Int)) = true := decide_eq_true c11
       clear c11
       by_cases c12 : (rdOf ByteArray.empty l0 x7_1).toList = a1.toList
       ·rw [if_pos c12] at H
        have c12b0 : ((rdOf ByteArray.empty l0 x7_1).toList == a1.toList) = true := beq_iff_eq.mpr c12
        have c12b1 : ((rdOf ByteArray.empty l0 x7_1).toList != a1.toList) = false := bne_eq_false_iff_eq.mpr c12
        clear c12
        simp only [Option.some.injEq, Prod.mk.injEq] at H
        obtain ⟨rfl, rfl⟩ := H
        have p241 : 0 <= (x7_1 : Int) := of_decide_eq_true as_
        have q241 : x7_1 < (l0.length : Int) := of_decide_eq_true as_
        obtain ⟨ad241, e241, hx241_0⟩ := Kd.at_string HR0.out x7_1 p241 q241
        cases e241
        replace p241 := eq_true p241
        replace q241 := eq_true q241
        go_wp2
        go_ret2
        exact ⟨by first | rfl | (simp; done) | (simp [*]; done), by repeat (first | exact Drawn0.refl _ | apply Drawn0.step)⟩
       ·rw [if_neg c12] at H
        have c12b0 : ((rdOf ByteArray.empty l0 x7_1).toList == a1.toList) = false := beq_eq_false_iff_ne.mpr c12
        have c12b1 : ((rdOf ByteArray.empty l0 x7_1).toList != a1.toList) = true := bne_iff_ne.mpr c12
        replace H := Option.bind_eq_some_iff.mp H
        obtain ⟨t243, A130, H⟩ := H
        replace H : (if t243 = true then ((slices_isNaN_string.f a1).bind fun t244 => (some (x7_1, t244))) else (some (x7_1, false))) = some (r1, r2) := H
        have A13 := A_ A130
        clear A130
        by_cases c14 : t243 = true
        ·subst c14
         have H1 : ((slices_isNaN_string.f a1).bind fun t244 => (some (x7_1, t244))) = some (r1, r2) := by rw [if_pos rfl] at H; exact H
         clear H
         have H := H1
         clear H1
         replace H := Option.bind_eq_some_iff.mp H
         obtain ⟨t244, A150, H⟩ := H
         replace H : (some (x7_1, t244)) = some (r1, r2) := H
         have A15 := A_ A150
         clear A150
         simp only [Option.some.injEq, Prod.mk.injEq] at H
         obtain ⟨rfl, rfl⟩ := H
         have p241 : 0 <= (x7_1 : Int) := of_decide_eq_true as_
         have q241 : x7_1 < (l0.length : Int) := of_decide_eq_true as_
         obtain ⟨ad241, e241, hx241_0⟩ := Kd.at_string HR0.out x7_1 p241 q241
         cases e241
         replace p241 := eq_true p241
         replace q241 := eq_true q241
         have p242 : 0 <= (x7_1 : Int) := of_decide_eq_true as_
         have q242 : x7_1 < (l0.length : Int) := of_decide_eq_true as_
         obtain ⟨ad242, e242, hx242_0⟩ := Kd.at_string HR0.out x7_1 p242 q242
         obtain rfl : ad241 = ad242 := (by injection e242)
         replace p242 := eq_true p242
         replace q242 := eq_true q242
         go_wp2_with (first | (go_at_call 123; (with_reducible refine (slices_isNaN_string.calls (rdOf ByteArray.empty l0 x7_1) true _ A13.out).mono ?_); rintro e w' ⟨rfl, ⟨nd, rfl⟩⟩) | (go_at_call 123; (with_reducible refine (slices_isNaN_string.calls a1 t244 _ A15.out).mono ?_); rintro e w' ⟨rfl, ⟨nd, rfl⟩⟩))
         go_ret2
         exact ⟨by first | rfl | (simp; done) | (simp [*]; done), by repeat (first | exact Drawn0.refl _ | apply Drawn0.step)⟩
        ·replace c14 := Bool.eq_false_iff.mpr c14
         subst c14
         have H1 : (some (x7_1, false)) = some (r1, r2) := by rw [if_neg (show ¬ (false = true) by decide)] at H; exact H
         clear H
         have H := H1
         clear H1
         simp only [Option.some.injEq, Prod.mk.injEq] at H
         obtain ⟨rfl, rfl⟩ := H
         have p241 : 0 <= (x7_1 : Int) := of_decide_eq_true as_
         have q241 : x7_1 < (l0.length : Int) := of_decide_eq_true as_
         obtain ⟨ad241, e241, hx241_0⟩ := Kd.at_string HR0.out x7_1 p241 q241
         cases e241
         replace p241 := eq_true p241
         replace q241 := eq_true q241
         have p242 : 0 <= (x7_1 : Int) := of_decide_eq_true as_
         have q242 : x7_1 < (l0.length : Int) := of_decide_eq_true as_
         obtain ⟨ad242, e242, hx242_0⟩ := Kd.at_string HR0.out x7_1 p242 q242
         obtain rfl : ad241 = ad242 := (by injection e242)
         replace p242 := eq_true p242
         replace q242 := eq_true q242
         go_wp2_with (first | (go_at_call 123; (with_reducible refine (slices_isNaN_string.calls (rdOf ByteArray.empty l0 x7_1) false _ A13.out).mono ?_); rintro e w' ⟨rfl, ⟨nd, rfl⟩⟩))
         go_ret2
         exact ⟨by first | rfl | (simp; done) | (simp [*]; done), by repeat (first | exact Drawn0.refl _ | apply Drawn0.step)⟩
      ·rw [if_neg c11] at H
       exact absurd H (by simp)
     ·rw [if_neg c10] at H
      exact absurd H (by simp)
    ·rw [if_neg c9] at H
     have c9b0 : decide (x7_1 < (l0.length : Int)) = false := decide_eq_false c9
     clear c9
     simp only [Option.some.injEq, Prod.mk.injEq] at H
     obtain ⟨rfl, rfl⟩ := H
     go_wp2
     go_ret2
     exact ⟨by first | rfl | (simp; done) | (simp [*]; done), by repeat (first | exact Drawn0.refl _ | apply Drawn0.step)⟩
def impl_less.f (k : Nat) (l0 : List ByteArray) (a1 : ByteArray) : Option (Int) := (slices_BinarySearch_string_string.f k l0 a1).bind fun bt245 => (some bt245.1)
theorem impl_less.calls (k : Nat) (A0 : Option Addr) (c0 : Nat) (l0 : List ByteArray) (a1 : ByteArray) (r : Int) (w : World) (hr0 : Kd.C Kd.string w A0 l0.length l0) (hc0 : l0.length <= c0) (h : impl_less.f k l0 a1 = some r) :
  Calls Try.prog 73 #[.slice A0 l0.length c0, .string a1] w fun e w' => e = .returned (.int .i64 r) /\ Drawn0 w w' := by
 have HR0 := A_ hr0
 have HC0 := A_ hc0
 clear hr0 hc0
 have H : ((slices_BinarySearch_string_string.f k l0 a1).bind fun bt245 => (some bt245.1)) = some r := h
 clear h
 replace H := Option.bind_eq_some_iff.mp H
 obtain ⟨⟨t245, t246⟩, A30, H⟩ := H
 replace H : (some t245) = some r := H
 have A3 := A_ A30
 clear A30
 obtain rfl := Option.some.inj H
 go_enter Try.func73, Try.ntmps73
 go_wp2_with (first | ((with_reducible refine gate_callee (f := 103) rfl ?_); refine goesL_ (some 10) rfl rfl Try.func103 (by kernel_rfl) rfl #[.slice A0 l0.length c0, .string a1] rfl (ag_) ?_; (with_reducible refine (slices_BinarySearch_string_string.calls k _ _ l0 a1 t245 t246 _ ?side1 ?side2 A3.out).mono ?_); (case side1 => refine cd_ ?_; exact HR0.out); (case side2 => exact HC0.out); rintro e w' ⟨rfl, ⟨nd, rfl⟩⟩; refine ⟨_, rfl, ?_⟩))
 go_ret
 exact ⟨by first | rfl | (simp; done) | (simp [*]; done), by repeat (first | exact Drawn0.refl _ | apply Drawn0.step)⟩
def impl_hasAt.f (l0 : List ByteArray) (a1 : Int) (a2 : ByteArray) : Option (Bool) := if a1 < (l0.length : Int) then (if 0 <= a1 then (some ((rdOf ByteArray.empty l0 a1).toList == a2.toList)) else (none)) else (some false)
theorem impl_hasAt.calls (A0 : Option Addr) (c0 : Nat) (l0 : List ByteArray) (a1 : Int) (a2 : ByteArray) (r : Bool) (w : World) (hr0 : Kd.C Kd.string w A0 l0.length l0) (hc0 : l0.length <= c0) (h : impl_hasAt.f l0 a1 a2 = some r) :
  Calls Try.prog 101 #[.slice A0 l0.length c0, .int .i64 a1, .string a2] w fun e w' => e = .returned (.bool r) /\ Drawn0 w w' := by
 have HR0 := A_ hr0
 have HC0 := A_ hc0
 clear hr0 hc0
 have H : (if a1 < (l0.length : Int) then (if 0 <= a1 then (some ((rdOf ByteArray.empty l0 a1).toList == a2.toList)) else (none)) else (some false)) = some r := h
 clear h
 by_cases c4 : a1 < (l0.length : Int)
 ·rw [if_pos c4] at H
  have c4b0 : decide (a1 < (l0.length : Int)) = true := decide_eq_true c4
  clear c4
  by_cases c5 : 0 <= a1
  ·rw [if_pos c5] at H
   have c5b0 : decide (0 <= a1) = true := decide_eq_true c5
   clear c5
   obtain rfl := Option.some.inj H
   have p247 : 0 <= (a1 : Int) := of_decide_eq_true as_
   have q247 : a1 < (l0.length : Int) := of_decide_eq_true as_
   obtain ⟨ad247, e247, hx247_0⟩ := Kd.at_string HR0.out a1 p247 q247
   cases e247
   replace p247 := eq_true p247
   replace q247 := eq_true q247
   go_enter Try.func101, Try.ntmps101
   go_wp2
   go_ret
   exact ⟨by first | rfl | (simp; done) | (simp [*]; done), by repeat (first | exact Drawn0.refl _ | apply Drawn0.step)⟩
  ·rw [if_neg c5] at H
   exact absurd H (by simp)
 ·rw [if_neg c4] at H
  have c4b0 : decide (a1 < (l0.length : Int)) = false := decide_eq_false c4
  clear c4
  obtain rfl := Option.some.inj H
  go_enter Try.func101, Try.ntmps101
  go_wp2
  go_ret
  exact ⟨by first | rfl | (simp; done) | (simp [*]; done), by repeat (first | exact Drawn0.refl _ | apply Drawn0.step)⟩
end Go.Proofs.Ytoddejmlcnbdmaa.Fn
namespace Go.Proofs.Ytoddejmlcnbdmaa.Tree
open Go.Proofs.Ytoddejmlcnbdmaa.Fn
def ltB (a b : ByteArray) : Bool := Op.bytesLess a.toList b.toList
def atI (key : ByteArray) : List ByteArray -> Nat
 | [] => 0
 | k :: ks => if ltB k key then atI key ks + 1 else 0
def hasS (keys : List ByteArray) (i : Nat) (key : ByteArray) : Bool := match keys[i]? with
 | some k => k.toList == key.toList
 | none => false
theorem atI_on {key k : ByteArray} {l : List ByteArray} {i x : Nat} (hk : l[i]? = some k) (h : x = i + atI key (l.drop i)) (hlt : ltB k key = true) : x = (i + 1) + atI key (l.drop (i + 1)) := by
 rw [drop_of hk, atI, if_pos hlt] at h
 omega
theorem atI_off {key k : ByteArray} {l : List ByteArray} {i x : Nat} (hk : l[i]? = some k) (h : x = i + atI key (l.drop i)) (hlt : ltB k key = false) : x = i := by
 rw [drop_of hk, atI, if_neg (by rw [hlt]; decide)] at h
 omega
theorem atI_end {key : ByteArray} {l : List ByteArray} {i x : Nat} (hi : l.length <= i) (h : x = i + atI key (l.drop i)) : x = i := by
 rw [List.drop_eq_nil_of_le hi, atI] at h
 omega
theorem atI_le (key : ByteArray) : ∀ l : List ByteArray, atI key l <= l.length
 | [] => Nat.le_refl _
 | k :: ks => by
  rw [atI]
  have := atI_le key ks
  split
  ·simp only [List.length_cons]; omega
  ·exact Nat.zero_le _
theorem hasS_lt {keys : List ByteArray} {i : Nat} {key : ByteArray} (h : hasS keys i key = true) : i < keys.length := by
 unfold hasS at h
 rcases Nat.lt_or_ge i keys.length with hi | hi
 ·exact hi
 ·rw [List.getElem?_eq_none hi] at h
  cases h
end Go.Proofs.Ytoddejmlcnbdmaa.Tree
namespace Go.Proofs.Ytoddejmlcnbdmaa.Fn
def spec_l5Text.f (a0 : ByteArray) : Option (Bool) := some (decide ((a0.size : Int) <= 12))
theorem spec_l5Text.calls (a0 : ByteArray) (r : Bool) (w : World) (h : spec_l5Text.f a0 = some r) :
  Calls Try.prog 104 #[.string a0] w fun e w' => e = .returned (.bool r) /\ Drawn0 w w' := by
 have H : (some (decide ((a0.size : Int) <= 12))) = some r := h
 clear h
 obtain rfl := Option.some.inj H
 go_enter Try.func104, Try.ntmps104
 go_wp2
 go_ret
 exact ⟨by first | rfl | (simp; done) | (simp [*]; done), by repeat (first | exact Drawn0.refl _ | apply Drawn0.step)⟩
def spec_l5Pair.f (a0 : ByteArray) (a1 : ByteArray) : Option (Bool) := (spec_l5Text.f a0).bind fun t167 => (if t167 = true then ((spec_l5Text.f a1).bind fun t168 => (if t168 = true then (some (a0.toList != ([] : List UInt8))) else (some false))) else (some false))
theorem spec_l5Pair.calls (a0 : ByteArray) (a1 : ByteArray) (r : Bool) (w : World) (h : spec_l5Pair.f a0 a1 = some r) :
  Calls Try.prog 75 #[.string a0, .string a1] w fun e w' => e = .returned (.bool r) /\ Drawn0 w w' := by
 have H : ((spec_l5Text.f a0).bind fun t167 => (if t167 = true then ((spec_l5Text.f a1).bind fun t168 => (if t168 = true then (some (a0.toList != ([] : List UInt8))) else (some false))) else (some false))) = some r := h
 clear h
 replace H := Option.bind_eq_some_iff.mp H
 obtain ⟨t167, A30, H⟩ := H
 replace H : (if t167 = true then ((spec_l5Text.f a1).bind fun t168 => (if t168 = true then (some (a0.toList != ([] : List UInt8))) else (some false))) else (some false)) = some r := H
 have A3 := A_ A30
 clear A30
 by_cases c4 : t167 = true
 ·subst c4
  have H1 : ((spec_l5Text.f a1).bind fun t168 => (if t168 = true then (some (a0.toList != ([] : List UInt8))) else (some false))) = some r := by rw [if_pos rfl] at H; exact H
  clear H
  have H := H1
  clear H1
  replace H := Option.bind_eq_some_iff.mp H
  obtain ⟨t168, A50, H⟩ := H
  replace H : (if t168 = true then (some (a0.toList != ([] : List UInt8))) else (some false)) = some r := H
  have A5 := A_ A50
  clear A50
  by_cases c6 : t168 = true
  ·subst c6
   have H1 : (some (a0.toList != ([] : List UInt8))) = some r := by rw [if_pos rfl] at H; exact H
   clear H
   have H := H1
   clear H1
   obtain rfl := Option.some.inj H
   go_enter Try.func75, Try.ntmps75
   go_wp2_with (first | ((with_reducible refine gate_callee (f := 104) rfl ?_); refine goesL_ (some 6) rfl rfl Try.func104 (by kernel_rfl) rfl #[.string a0] rfl (ag_) ?_; (with_reducible refine (spec_l5Text.calls a0 true _ A3.out).mono ?_); rintro e w' ⟨rfl, ⟨nd, rfl⟩⟩; refine ⟨_, rfl, ?_⟩) | (go_at_call 104; (with_reducible refine (spec_l5Text.calls a1 true _ A5.out).mono ?_); rintro e w' ⟨rfl, ⟨nd, rfl⟩⟩))
   go_ret
   exact ⟨by first | rfl | (simp only [Go.Proofs.Ytoddejmlcnbdmaa.Gen.nil_str, Go.Proofs.Ytoddejmlcnbdmaa.Gen.gt_str]; first | done | rfl | (simp; done)) | (simp; done) | (simp [*]; done), by repeat (first | exact Drawn0.refl _ | apply Drawn0.step)⟩
  ·replace c6 := Bool.eq_false_iff.mpr c6
   subst c6
   have H1 : (some false) = some r := by rw [if_neg (show ¬ (false = true) by decide)] at H; exact H
   clear H
   have H := H1
   clear H1
   obtain rfl := Option.some.inj H
   go_enter Try.func75, Try.ntmps75
   go_wp2_with (first | ((with_reducible refine gate_callee (f := 104) rfl ?_); refine goesL_ (some 6) rfl rfl Try.func104 (by kernel_rfl) rfl #[.string a0] rfl (ag_) ?_; (with_reducible refine (spec_l5Text.calls a0 true _ A3.out).mono ?_); rintro e w' ⟨rfl, ⟨nd, rfl⟩⟩; refine ⟨_, rfl, ?_⟩) | (go_at_call 104; (with_reducible refine (spec_l5Text.calls a1 false _ A5.out).mono ?_); rintro e w' ⟨rfl, ⟨nd, rfl⟩⟩))
   go_ret
   exact ⟨by first | rfl | (simp only [Go.Proofs.Ytoddejmlcnbdmaa.Gen.nil_str, Go.Proofs.Ytoddejmlcnbdmaa.Gen.gt_str]; first | done | rfl | (simp; done)) | (simp; done) | (simp [*]; done), by repeat (first | exact Drawn0.refl _ | apply Drawn0.step)⟩
 ·replace c4 := Bool.eq_false_iff.mpr c4
  subst c4
  have H1 : (some false) = some r := by rw [if_neg (show ¬ (false = true) by decide)] at H; exact H
  clear H
  have H := H1
  clear H1
  obtain rfl := Option.some.inj H
  go_enter Try.func75, Try.ntmps75
  go_wp2_with (first | ((with_reducible refine gate_callee (f := 104) rfl ?_); refine goesL_ (some 6) rfl rfl Try.func104 (by kernel_rfl) rfl #[.string a0] rfl (ag_) ?_; (with_reducible refine (spec_l5Text.calls a0 false _ A3.out).mono ?_); rintro e w' ⟨rfl, ⟨nd, rfl⟩⟩; refine ⟨_, rfl, ?_⟩))
  go_ret
  exact ⟨by first | rfl | (simp only [Go.Proofs.Ytoddejmlcnbdmaa.Gen.nil_str, Go.Proofs.Ytoddejmlcnbdmaa.Gen.gt_str]; first | done | rfl | (simp; done)) | (simp; done) | (simp [*]; done), by repeat (first | exact Drawn0.refl _ | apply Drawn0.step)⟩
def impl_within.f (a0 : Int) (a1 : Int) (a2 : Int) : Option (Bool) := if a0 ≥ a1 then (some (decide (a0 <= a2))) else (some false)
theorem impl_within.calls (a0 : Int) (a1 : Int) (a2 : Int) (r : Bool) (w : World) (h : impl_within.f a0 a1 a2 = some r) :
  Calls Try.prog 69 #[.int .i64 a0, .int .i64 a1, .int .i64 a2] w fun e w' => e = .returned (.bool r) /\ Drawn0 w w' := by
 have H : (if a0 ≥ a1 then (some (decide (a0 <= a2))) else (some false)) = some r := h
 clear h
 by_cases c4 : a0 ≥ a1
 ·rw [if_pos c4] at H
  have c4b0 : decide (a1 <= a0) = true := decide_eq_true c4
  clear c4
  obtain rfl := Option.some.inj H
  go_enter Try.func69, Try.ntmps69
  go_wp2
  go_ret
  exact ⟨by first | rfl | (simp; done) | (simp [*]; done), by repeat (first | exact Drawn0.refl _ | apply Drawn0.step)⟩
 ·rw [if_neg c4] at H
  have c4b0 : decide (a1 <= a0) = false := decide_eq_false c4
  clear c4
  obtain rfl := Option.some.inj H
  go_enter Try.func69, Try.ntmps69
  go_wp2
  go_ret
  exact ⟨by first | rfl | (simp; done) | (simp [*]; done), by repeat (first | exact Drawn0.refl _ | apply Drawn0.step)⟩
def impl_isKey.f (a0 : ByteArray) : Option (Bool) := (impl_within.f (a0.size : Int) 1 12).bind fun t169 => (some t169)
theorem impl_isKey.calls (a0 : ByteArray) (r : Bool) (w : World) (h : impl_isKey.f a0 = some r) :
  Calls Try.prog 78 #[.string a0] w fun e w' => e = .returned (.bool r) /\ Drawn0 w w' := by
 have H : ((impl_within.f (a0.size : Int) 1 12).bind fun t169 => (some t169)) = some r := h
 clear h
 replace H := Option.bind_eq_some_iff.mp H
 obtain ⟨t169, A20, H⟩ := H
 replace H : (some t169) = some r := H
 have A2 := A_ A20
 clear A20
 obtain rfl := Option.some.inj H
 go_enter Try.func78, Try.ntmps78
 go_wp2_with (first | ((with_reducible refine gate_callee (f := 69) rfl ?_); refine goesL_ (some 5) rfl rfl Try.func69 (by kernel_rfl) rfl #[.int .i64 (a0.size : Int), .int .i64 1, .int .i64 12] rfl (ag_) ?_; (with_reducible refine (impl_within.calls (a0.size : Int) 1 12 t169 _ A2.out).mono ?_); rintro e w' ⟨rfl, ⟨nd, rfl⟩⟩; refine ⟨_, rfl, ?_⟩))
 go_ret
 exact ⟨by first | rfl | (simp; done) | (simp [*]; done), by repeat (first | exact Drawn0.refl _ | apply Drawn0.step)⟩
def impl_areRising.l0 : Nat -> List ByteArray -> List ByteArray -> Int -> Int -> Option (Bool)
 | 0, _, _, _, _ => none
 | k + 1, x0, x5, x6, x7 => if x7 < x6 then (if 0 <= x7 then (if x7 < (x5.length : Int) then ((impl_isKey.f (rdOf ByteArray.empty x5 x7)).bind fun t171 => (if t171 = true then (if x7 > 0 then (if 0 <= (wrap64 (x7 - 1)) then (if (wrap64 (x7 - 1)) < (x0.length : Int) then (if ((Op.bytesLess ((rdOf ByteArray.empty x0 (wrap64 (x7 - 1))).toList) ((rdOf ByteArray.empty x5 x7).toList)) = true) then (impl_areRising.l0 k x0 x5 x6 (wrap64 (x7 + 1))) else (some false)) else (none)) else (none)) else (impl_areRising.l0 k x0 x5 x6 (wrap64 (x7 + 1)))) else (some false))) else (none)) else (none)) else (some true)
def impl_areRising.f (k : Nat) (l0 : List ByteArray) : Option (Bool) := impl_areRising.l0 k l0 l0 (l0.length : Int) 0
theorem impl_areRising.mono_l : ∀ k, (∀ y0 y1 y2 y3, LeO (impl_areRising.l0 k y0 y1 y2 y3) (impl_areRising.l0 (k + 1) y0 y1 y2 y3))
 | 0 => fun _ _ _ _ r h => by simp [impl_areRising.l0] at h
 | k + 1 => by
  have ih0 := impl_areRising.mono_l k
  ·intro y0 y1 y2 y3
   unfold impl_areRising.l0
   repeat' (with_reducible first | exact ih0 _ _ _ _ | exact LeO.refl _ | exact LeO.none _ | refine LeO.ite ?_ ?_ | refine LeO.bind ?_ (fun _ => ?_))
theorem impl_areRising.mono : ∀ a0 k, LeO (impl_areRising.f k a0) (impl_areRising.f (k + 1) a0) := by
 intro a0 k
 have ih0 := impl_areRising.mono_l k
 unfold impl_areRising.f
 repeat' (with_reducible first | exact ih0 _ _ _ _ | exact LeO.refl _ | exact LeO.none _ | refine LeO.ite ?_ ?_ | refine LeO.bind ?_ (fun _ => ?_))
theorem impl_areRising.calls (k : Nat) (A0 : Option Addr) (c0 : Nat) (l0 : List ByteArray) (r : Bool) (w : World) (hr0 : Kd.C Kd.string w A0 l0.length l0) (hc0 : l0.length <= c0) (h : impl_areRising.f k l0 = some r) :
  Calls Try.prog 115 #[.slice A0 l0.length c0] w fun e w' => e = .returned (.bool r) /\ Drawn0 w w' := by
 have HR0 := A_ hr0
 have HC0 := A_ hc0
 clear hr0 hc0
 have H : (impl_areRising.l0 k l0 l0 (l0.length : Int) 0) = some r := h
 clear h
 have H' := A_ H
 clear H
 go_enter Try.func115, Try.ntmps115
 go_wp2
 go_loopg [7] k (fun kq v7 w' => ∃ (x7_1 : Int), v7 = .int .i64 x7_1 /\ Aside0 (impl_areRising.l0 kq l0 l0 (l0.length : Int) x7_1 = some r) /\ Aside0 (kq <= k) /\ Drawn0 w w')
 case atStart => exact ⟨(0), (by first | rfl | (simp; done) | (simp [*]; done)), H', ⟨Nat.le_refl _⟩, by repeat (first | exact Drawn0.refl _ | apply Drawn0.step)⟩
 case round =>
  clear H'
  (try clear c1)
  obtain ⟨x7_1, rfl, HA, HK1, ⟨m1, rfl⟩⟩ := hrel
  cases gk with
  | zero => exact absurd HA.out (by simp [impl_areRising.l0])
  | succ k1 =>
   have H := HA.out
   clear HA
   simp only [impl_areRising.l0] at H
   by_cases c2 : x7_1 < (l0.length : Int)
   ·rw [if_pos c2] at H
    have c2b0 : decide (x7_1 < (l0.length : Int)) = true := decide_eq_true c2
    clear c2
    by_cases c3 : 0 <= x7_1
    ·rw [if_pos c3] at H
     have c3b0 : decide (0 <= x7_1) = true := decide_eq_true c3
     clear c3
     by_cases c4 : x7_1 < (l0.length : Int)
     ·rw [if_pos c4] at H
      have c4b0 : decide (x7_1 < (l0.length : Int)) = true := decide_eq_true c4
      clear c4
      replace H := Option.bind_eq_some_iff.mp H
      obtain ⟨t171, A50, H⟩ := H
      replace H : (if t171 = true then (if x7_1 > 0 then (if 0 <= (wrap64 (x7_1 - 1)) then (if (wrap64 (x7_1 - 1)) < (l0.length : Int) then (if ((Op.bytesLess ((rdOf ByteArray.empty l0 (wrap64 (x7_1 - 1))).toList) ((rdOf ByteArray.empty l0 x7_1).toList)) = true) then (impl_areRising.l0 k1 l0 l0 (l0.length : Int) (wrap64 (x7_1 + 1))) else (some false)) else (none)) else (none)) else (impl_areRising.l0 k1 l0 l0 (l0.length : Int) (wrap64 (x7_1 + 1)))) else (some false)) = some r := H
      have A5 := A_ A50
      clear A50
      by_cases c6 : t171 = true
      ·subst c6
       have H1 : (if x7_1 > 0 then (if 0 <= (wrap64 (x7_1 - 1)) then (if (wrap64 (x7_1 - 1)) < (l0.length : Int) then (if ((Op.bytesLess ((rdOf ByteArray.empty l0 (wrap64 (x7_1 - 1))).toList) ((rdOf ByteArray.empty l0 x7_1).toList)) = true) then (impl_areRising.l0 k1 l0 l0 (l0.length : Int) (wrap64 (x7_1 + 1))) else (some false)) else (none)) else (none)) else (impl_areRising.l0 k1 l0 l0 (l0.length : Int) (wrap64 (x7_1 + 1)))) = some r := by rw [if_pos rfl] at H; exact H
       clear H
       have H := H1
       clear H1
       by_cases c7 : x7_1 > 0
       ·rw [if_pos c7] at H
        have c7b0 : decide (0 < x7_1) = true := decide_eq_true c7
        clear c7
        obtain ⟨ji8, hji8⟩ : ∃ j_ : Int, (wrap64 (x7_1 - 1)) = j_ := ⟨_, rfl⟩
        replace H : (if 0 <= (ji8) then (if (ji8) < (l0.length : Int) then (if ((Op.bytesLess ((rdOf ByteArray.empty l0 (ji8)).toList) ((rdOf ByteArray.empty l0 x7_1).toList)) = true) then (impl_areRising.l0 k1 l0 l0 (l0.length : Int) (wrap64 (x7_1 + 1))) else (some false)) else (none)) else (none)) = some r := by first | (rw [hji8] at H; exact H) | (simp only [hji8] at H ⊢; exact H)
        (try rw [hji8] at A5)
        have hji8w : (IntKind.i64.wrap (x7_1 - 1)) = ji8 := (i64_w _).trans hji8
        by_cases c9 : 0 <= (ji8)
        ·rw [if_pos c9] at H
         have c9b0 : decide (0 <= (ji8)) = true := decide_eq_true c9
         clear c9
         by_cases c10 : (ji8) < (l0.length : Int)
         ·rw [if_pos c10] at H
          have c10b0 : decide ((ji8) < (l0.length : Int)) = true := decide_eq_true c10
          clear c10
          by_cases c11 : ((Op.bytesLess ((rdOf ByteArray.empty l0 (ji8)).toList) ((rdOf ByteArray.empty l0 x7_1).toList)) = true)
          ·rw [if_pos c11] at H
           have c11b0 : (Op.bytesLess ((rdOf ByteArray.empty l0 (ji8)).toList) ((rdOf ByteArray.empty l0 x7_1).toList)) = true := c11
           clear c11
           have H' := A_ H
           clear H
           have p170 : 0 <= (x7_1 : Int) := of_decide_eq_true as_
           have q170 : x7_1 < (l0.length : Int) := of_decide_eq_true as_
           obtain ⟨ad170, e170, hx170_0⟩ := Kd.at_string HR0.out x7_1 p170 q170
           cases e170
           replace p170 := eq_true p170
           replace q170 := eq_true q170
           go_wp2_with (first | ((with_reducible refine gate_callee (f := 78) rfl ?_); refine goesL_ (some 13) rfl rfl Try.func78 (by kernel_rfl) rfl #[.string (rdOf ByteArray.empty l0 x7_1)] rfl (ag_) ?_; (with_reducible refine (impl_isKey.calls (rdOf ByteArray.empty l0 x7_1) true _ A5.out).mono ?_); rintro e w' ⟨rfl, ⟨nd, rfl⟩⟩; refine ⟨_, rfl, ?_⟩; have p172 : 0 <= ((ji8) : Int) := of_decide_eq_true as_; have q172 : (ji8) < (l0.length : Int) := of_decide_eq_true as_; obtain ⟨ad172, e172, hx172_0⟩ := Kd.at_string HR0.out (ji8) p172 q172; obtain rfl : ad170 = ad172 := (by injection e172); replace p172 := eq_true p172; replace q172 := eq_true q172))
           go_roundg k1
           case measure => have := HK1.out; omega
           case rel => exact ⟨(wrap64 (x7_1 + 1)), (by first | rfl | (simp; done) | (simp [*]; done)), H', ⟨by have := HK1.out; omega⟩, by repeat (first | exact Drawn0.refl _ | apply Drawn0.step)⟩
          ·rw [if_neg c11] at H
           have c11b0 : (Op.bytesLess ((rdOf ByteArray.empty l0 (ji8)).toList) ((rdOf ByteArray.empty l0 x7_1).toList)) = false := by simpa using c11
           clear c11
           obtain rfl := Option.some.inj H
           have p170 : 0 <= (x7_1 : Int) := of_decide_eq_true as_
           have q170 : x7_1 < (l0.length : Int) := of_decide_eq_true as_
           obtain ⟨ad170, e170, hx170_0⟩ := Kd.at_string HR0.out x7_1 p170 q170
           cases e170
           replace p170 := eq_true p170
           replace q170 := eq_true q170
           go_wp2_with (first | ((with_reducible refine gate_callee (f := 78) rfl ?_); refine goesL_ (some 13) rfl rfl Try.func78 (by kernel_rfl) rfl #[.string (rdOf ByteArray.empty l0 x7_1)] rfl (ag_) ?_; (with_reducible refine (impl_isKey.calls (rdOf ByteArray.empty l0 x7_1) true _ A5.out).mono ?_); rintro e w' ⟨rfl, ⟨nd, rfl⟩⟩; refine ⟨_, rfl, ?_⟩; have p172 : 0 <= ((ji8) : Int) := of_decide_eq_true as_; have q172 : (ji8) < (l0.length : Int) := of_decide_eq_true as_; obtain ⟨ad172, e172, hx172_0⟩ := Kd.at_string HR0.out (ji8) p172 q172; obtain rfl : ad170 = ad172 := (by injection e172); replace p172 := eq_true p172; replace q172 := eq_true q172))
           go_ret
           exact ⟨by first | rfl | (simp only [Go.Proofs.Ytoddejmlcnbdmaa.Gen.nil_str, Go.Proofs.Ytoddejmlcnbdmaa.Gen.gt_str]; first | done | rfl | (simp; done)) | (simp; done) | (simp only [<- hji8] <;> (first | rfl | simp)) | (simp [*]; done), by repeat (first | exact Drawn0.refl _ | apply Drawn0.step)⟩
         ·rw [if_neg c10] at H
          exact absurd H (by simp)
        ·rw [if_neg c9] at H
         exact absurd H (by simp)
       ·rw [if_neg c7] at H
        have c7b0 : decide (0 < x7_1) = false := decide_eq_false c7
        clear c7
        have H' := A_ H
        clear H
        have p170 : 0 <= (x7_1 : Int) := of_decide_eq_true as_
        have q170 : x7_1 < (l0.length : Int) := of_decide_eq_true as_
        obtain ⟨ad170, e170, hx170_0⟩ := Kd.at_string HR0.out x7_1 p170 q170
        cases e170
        replace p170 := eq_true p170
        replace q170 := eq_true q170
        go_wp2_with (first | ((with_reducible refine gate_callee (f := 78) rfl ?_); refine goesL_ (some 13) rfl rfl Try.func78 (by kernel_rfl) rfl #[.string (rdOf ByteArray.empty l0 x7_1)] rfl (ag_) ?_; (with_reducible refine (impl_isKey.calls (rdOf ByteArray.empty l0 x7_1) true _ A5.out).mono ?_); rintro e w' ⟨rfl, ⟨nd, rfl⟩⟩; refine ⟨_, rfl, ?_⟩))
        go_roundg k1
        case measure => have := HK1.out; omega
        case rel => exact ⟨(wrap64 (x7_1 + 1)), (by first | rfl | (simp; done) | (simp [*]; done)), H', ⟨by have := HK1.out; omega⟩, by repeat (first | exact Drawn0.refl _ | apply Drawn0.step)⟩
      ·replace c6 := Bool.eq_false_iff.mpr c6
       subst c6
       have H1 : (some false) = some r := by rw [if_neg (show ¬ (false = true) by decide)] at H; exact H
       clear H
       have H := H1
       clear H1
       obtain rfl := Option.some.inj H
       have p170 : 0 <= (x7_1 : Int) := of_decide_eq_true as_
       have q170 : x7_1 < (l0.length : Int) := of_decide_eq_true as_
       obtain ⟨ad170, e170, hx170_0⟩ := Kd.at_string HR0.out x7_1 p170 q170
       cases e170
       replace p170 := eq_true p170
       replace q170 := eq_true q170
       go_wp2_with (first | ((with_reducible refine gate_callee (f := 78) rfl ?_); refine goesL_ (some 13) rfl rfl Try.func78 (by kernel_rfl) rfl #[.string (rdOf ByteArray.empty l0 x7_1)] rfl (ag_) ?_; (with_reducible refine (impl_isKey.calls (rdOf ByteArray.empty l0 x7_1) false _ A5.out).mono ?_); rintro e w' ⟨rfl, ⟨nd, rfl⟩⟩; refine ⟨_, rfl, ?_⟩))
       go_ret
       exact ⟨by first | rfl | (simp only [Go.Proofs.Ytoddejmlcnbdmaa.Gen.nil_str, Go.Proofs.Ytoddejmlcnbdmaa.Gen.gt_str]; first | done | rfl | (simp; done)) | (simp; done) | (simp [*]; done), by repeat (first | exact Drawn0.refl _ | apply Drawn0.step)⟩
     ·rw [if_neg c4] at H
      exact absurd H (by simp)
    ·rw [if_neg c3] at H
     exact absurd H (by simp)
   ·rw [if_neg c2] at H
    have c2b0 : decide (x7_1 < (l0.length : Int)) = false := decide_eq_false c2
    clear c2
    obtain rfl := Option.some.inj H
    go_wp2
    go_ret
    exact ⟨by first | rfl | (simp only [Go.Proofs.Ytoddejmlcnbdmaa.Gen.nil_str, Go.Proofs.Ytoddejmlcnbdmaa.Gen.gt_str]; first | done | rfl | (simp; done)) | (simp; done) | (simp [*]; done), by repeat (first | exact Drawn0.refl _ | apply Drawn0.step)⟩
def impl_isVal.f (a0 : ByteArray) : Option (Bool) := some (decide ((a0.size : Int) <= 12))
theorem impl_isVal.calls (a0 : ByteArray) (r : Bool) (w : World) (h : impl_isVal.f a0 = some r) :
  Calls Try.prog 79 #[.string a0] w fun e w' => e = .returned (.bool r) /\ Drawn0 w w' := by
 have H : (some (decide ((a0.size : Int) <= 12))) = some r := h
 clear h
 obtain rfl := Option.some.inj H
 go_enter Try.func79, Try.ntmps79
 go_wp2
 go_ret
 exact ⟨by first | rfl | (simp; done) | (simp [*]; done), by repeat (first | exact Drawn0.refl _ | apply Drawn0.step)⟩
def impl_arePairs_1.f (a0 : ByteArray) : Option (Bool) := (impl_isVal.f a0).bind fun t173 => (some (!t173))
theorem impl_arePairs_1.calls (a0 : ByteArray) (r : Bool) (w : World) (h : impl_arePairs_1.f a0 = some r) :
  Calls Try.prog 117 #[.string a0] w fun e w' => e = .returned (.bool r) /\ Drawn0 w w' := by
 have H : ((impl_isVal.f a0).bind fun t173 => (some (!t173))) = some r := h
 clear h
 replace H := Option.bind_eq_some_iff.mp H
 obtain ⟨t173, A20, H⟩ := H
 replace H : (some (!t173)) = some r := H
 have A2 := A_ A20
 clear A20
 obtain rfl := Option.some.inj H
 go_enter Try.func117, Try.ntmps117
 go_wp2_with (first | ((with_reducible refine gate_callee (f := 79) rfl ?_); refine goesL_ (some 4) rfl rfl Try.func79 (by kernel_rfl) rfl #[.string a0] rfl (ag_) ?_; (with_reducible refine (impl_isVal.calls a0 t173 _ A2.out).mono ?_); rintro e w' ⟨rfl, ⟨nd, rfl⟩⟩; refine ⟨_, rfl, ?_⟩))
 go_ret
 exact ⟨by first | rfl | (simp; done) | (simp [*]; done), by repeat (first | exact Drawn0.refl _ | apply Drawn0.step)⟩
def slices_IndexFunc_at117.l0 : Nat -> List ByteArray -> Int -> Int -> Option (Int)
 | 0, _, _, _ => none
 | k + 1, x0, x7, x8 => if x8 < x7 then (if 0 <= x8 then (if x8 < (x0.length : Int) then ((impl_arePairs_1.f (rdOf ByteArray.empty x0 x8)).bind fun t175 => (if t175 = true then (some x8) else (slices_IndexFunc_at117.l0 k x0 x7 (wrap64 (x8 + 1))))) else (none)) else (none)) else (some (-1))
def slices_IndexFunc_at117.f (k : Nat) (l0 : List ByteArray)  : Option (Int) := slices_IndexFunc_at117.l0 k l0 (l0.length : Int) 0
theorem slices_IndexFunc_at117.mono_l : ∀ k, (∀ y0 y1 y2, LeO (slices_IndexFunc_at117.l0 k y0 y1 y2) (slices_IndexFunc_at117.l0 (k + 1) y0 y1 y2))
 | 0 => fun _ _ _ r h => by simp [slices_IndexFunc_at117.l0] at h
 | k + 1 => by
  have ih0 := slices_IndexFunc_at117.mono_l k
  ·intro y0 y1 y2
   unfold slices_IndexFunc_at117.l0
   repeat' (with_reducible first | exact ih0 _ _ _ | exact LeO.refl _ | exact LeO.none _ | refine LeO.ite ?_ ?_ | refine LeO.bind ?_ (fun _ => ?_))
theorem slices_IndexFunc_at117.mono : ∀ a0 k, LeO (slices_IndexFunc_at117.f k a0) (slices_IndexFunc_at117.f (k + 1) a0) := by
 intro a0 k
 have ih0 := slices_IndexFunc_at117.mono_l k
 unfold slices_IndexFunc_at117.f
 repeat' (with_reducible first | exact ih0 _ _ _ | exact LeO.refl _ | exact LeO.none _ | refine LeO.ite ?_ ?_ | refine LeO.bind ?_ (fun _ => ?_))
theorem slices_IndexFunc_at117.calls (k : Nat) (A0 : Option Addr) (c0 : Nat) (l0 : List ByteArray)  (r : Int) (w : World) (hr0 : Kd.C Kd.string w A0 l0.length l0) (hc0 : l0.length <= c0) (h : slices_IndexFunc_at117.f k l0 = some r) :
  Calls Try.prog 134 #[.slice A0 l0.length c0, .func (.func 117) #[] #[]] w fun e w' => e = .returned (.int .i64 r) /\ Drawn0 w w' := by
 have HR0 := A_ hr0
 have HC0 := A_ hc0
 clear hr0 hc0
 have H : (slices_IndexFunc_at117.l0 k l0 (l0.length : Int) 0) = some r := h
 clear h
 have H' := A_ H
 clear H
 go_enter Try.func134, Try.ntmps134
 go_wp2
 go_loopg [8] k (fun kq v8 w' => ∃ (x8_1 : Int), v8 = .int .i64 x8_1 /\ Aside0 (slices_IndexFunc_at117.l0 kq l0 (l0.length : Int) x8_1 = some r) /\ Aside0 (kq <= k) /\ Drawn0 w w')
 case atStart => exact ⟨(0), (by first | rfl | (simp; done) | (simp [*]; done)), H', ⟨Nat.le_refl _⟩, by repeat (first | exact Drawn0.refl _ | apply Drawn0.step)⟩
 case round =>
  clear H'
  (try clear c1); (try clear p2)
  obtain ⟨x8_1, rfl, HA, HK1, ⟨m1, rfl⟩⟩ := hrel
  cases gk with
  | zero => exact absurd HA.out (by simp [slices_IndexFunc_at117.l0])
  | succ k1 =>
   have H := HA.out
   clear HA
   simp only [slices_IndexFunc_at117.l0] at H
   by_cases c3 : x8_1 < (l0.length : Int)
   ·rw [if_pos c3] at H
    have c3b0 : decide (x8_1 < (l0.length : Int)) = true := decide_eq_true c3
    clear c3
    by_cases c4 : 0 <= x8_1
    ·rw [if_pos c4] at H
     have c4b0 : decide (0 <= x8_1) = true := decide_eq_true c4
     clear c4
     by_cases c5 : x8_1 < (l0.length : Int)
     ·rw [if_pos c5] at H
      have c5b0 : decide (x8_1 < (l0.length : Int)) = true := decide_eq_true c5
      clear c5
      replace H := Option.bind_eq_some_iff.mp H
      obtain ⟨t175, A60, H⟩ := H
      replace H : (if t175 = true then (some x8_1) else (slices_IndexFunc_at117.l0 k1 l0 (l0.length : Int) (wrap64 (x8_1 + 1)))) = some r := H
      have A6 := A_ A60
      clear A60
      by_cases c7 : t175 = true
      ·subst c7
       have H1 : (some x8_1) = some r := by rw [if_pos rfl] at H; exact H
       clear H
       have H := H1
       clear H1
       obtain rfl := Option.some.inj H
       have p174 : 0 <= (x8_1 : Int) := of_decide_eq_true as_
       have q174 : x8_1 < (l0.length : Int) := of_decide_eq_true as_
       obtain ⟨ad174, e174, hx174_0⟩ := Kd.at_string HR0.out x8_1 p174 q174
       cases e174
       replace p174 := eq_true p174
       replace q174 := eq_true q174
       go_wp2_with (first | ((with_reducible refine Go.Proofs.Ytoddejmlcnbdmaa.Gen.gateV rfl ?_); refine Go.Proofs.Ytoddejmlcnbdmaa.Gen.goesV_ (some 16) rfl rfl Try.func117 (by kernel_rfl) rfl #[.string (rdOf ByteArray.empty l0 x8_1)] rfl (ag_) ?_; (with_reducible refine (impl_arePairs_1.calls (rdOf ByteArray.empty l0 x8_1) true _ A6.out).mono ?_); rintro e w' ⟨rfl, ⟨nd, rfl⟩⟩; refine ⟨_, rfl, ?_⟩))
       go_ret
       exact ⟨by first | rfl | (simp; done) | (simp [*]; done), by repeat (first | exact Drawn0.refl _ | apply Drawn0.step)⟩
      ·replace c7 := Bool.eq_false_iff.mpr c7
       subst c7
       have H1 : (slices_IndexFunc_at117.l0 k1 l0 (l0.length : Int) (wrap64 (x8_1 + 1))) = some r := by rw [if_neg (show ¬ (false = true) by decide)] at H; exact H
       clear H
       have H := H1
       clear H1
       have H' := A_ H
       clear H
       have p174 : 0 <= (x8_1 : Int) := of_decide_eq_true as_
       have q174 : x8_1 < (l0.length : Int) := of_decide_eq_true as_
       obtain ⟨ad174, e174, hx174_0⟩ := Kd.at_string HR0.out x8_1 p174 q174
       cases e174
       replace p174 := eq_true p174
       replace q174 := eq_true q174
       go_wp2_with (first | ((with_reducible refine Go.Proofs.Ytoddejmlcnbdmaa.Gen.gateV rfl ?_); refine Go.Proofs.Ytoddejmlcnbdmaa.Gen.goesV_ (some 16) rfl rfl Try.func117 (by kernel_rfl) rfl #[.string (rdOf ByteArray.empty l0 x8_1)] rfl (ag_) ?_; (with_reducible refine (impl_arePairs_1.calls (rdOf ByteArray.empty l0 x8_1) false _ A6.out).mono ?_); rintro e w' ⟨rfl, ⟨nd, rfl⟩⟩; refine ⟨_, rfl, ?_⟩))
       go_roundg k1
       case measure => have := HK1.out; omega
       case rel => exact ⟨(wrap64 (x8_1 + 1)), (by first | rfl | (simp; done) | (simp [*]; done)), H', ⟨by have := HK1.out; omega⟩, by repeat (first | exact Drawn0.refl _ | apply Drawn0.step)⟩
     ·rw [if_neg c5] at H
      exact absurd H (by simp)
    ·rw [if_neg c4] at H
     exact absurd H (by simp)
   ·rw [if_neg c3] at H
    have c3b0 : decide (x8_1 < (l0.length : Int)) = false := decide_eq_false c3
    clear c3
    obtain rfl := Option.some.inj H
    go_wp2
    go_ret
    exact ⟨by first | rfl | (simp; done) | (simp [*]; done), by repeat (first | exact Drawn0.refl _ | apply Drawn0.step)⟩
def slices_ContainsFunc_at117.f (k : Nat) (l0 : List ByteArray)  : Option (Bool) := (slices_IndexFunc_at117.f k l0).bind fun t176 => (some (decide (t176 ≥ 0)))
theorem slices_ContainsFunc_at117.mono : ∀ a0 k, LeO (slices_ContainsFunc_at117.f k a0) (slices_ContainsFunc_at117.f (k + 1) a0) := by
 intro a0 k
 unfold slices_ContainsFunc_at117.f
 repeat' (with_reducible first | exact slices_IndexFunc_at117.mono _ _ | exact LeO.refl _ | exact LeO.none _ | refine LeO.ite ?_ ?_ | refine LeO.bind ?_ (fun _ => ?_))
theorem slices_ContainsFunc_at117.calls (k : Nat) (A0 : Option Addr) (c0 : Nat) (l0 : List ByteArray)  (r : Bool) (w : World) (hr0 : Kd.C Kd.string w A0 l0.length l0) (hc0 : l0.length <= c0) (h : slices_ContainsFunc_at117.f k l0 = some r) :
  Calls Try.prog 116 #[.slice A0 l0.length c0, .func (.func 117) #[] #[]] w fun e w' => e = .returned (.bool r) /\ Drawn0 w w' := by
 have HR0 := A_ hr0
 have HC0 := A_ hc0
 clear hr0 hc0
 have H : ((slices_IndexFunc_at117.f k l0).bind fun t176 => (some (decide (t176 ≥ 0)))) = some r := h
 clear h
 replace H := Option.bind_eq_some_iff.mp H
 obtain ⟨t176, A30, H⟩ := H
 replace H : (some (decide (t176 ≥ 0))) = some r := H
 have A3 := A_ A30
 clear A30
 obtain rfl := Option.some.inj H
 go_enter Try.func116, Try.ntmps116
 go_wp2_with (first | ((with_reducible refine gate_callee (f := 134) rfl ?_); refine goesL_ (some 7) rfl rfl Try.func134 (by kernel_rfl) rfl #[.slice A0 l0.length c0, .func (.func 117) #[] #[]] rfl (ag_) ?_; (with_reducible refine (slices_IndexFunc_at117.calls k _ _ l0  t176 _ ?side1 ?side2 A3.out).mono ?_); (case side1 => refine cd_ ?_; exact HR0.out); (case side2 => exact HC0.out); rintro e w' ⟨rfl, ⟨nd, rfl⟩⟩; refine ⟨_, rfl, ?_⟩))
 go_ret
 exact ⟨by first | rfl | (simp; done) | (simp [*]; done), by repeat (first | exact Drawn0.refl _ | apply Drawn0.step)⟩
def impl_arePairs.f (k : Nat) (l0 : List ByteArray) (l1 : List ByteArray) : Option (Bool) := if (l0.length : Int) <= 40 then (if (l0.length : Int) = (l1.length : Int) then ((impl_areRising.f k l0).bind fun t177 => (if t177 = true then ((slices_ContainsFunc_at117.f k l1).bind fun t178 => (some (!t178))) else (some false))) else (some false)) else (some false)
theorem impl_arePairs.mono : ∀ a0 a1 k, LeO (impl_arePairs.f k a0 a1) (impl_arePairs.f (k + 1) a0 a1) := by
 intro a0 a1 k
 unfold impl_arePairs.f
 repeat' (with_reducible first | exact impl_areRising.mono _ _ | exact slices_ContainsFunc_at117.mono _ _ | exact LeO.refl _ | exact LeO.none _ | refine LeO.ite ?_ ?_ | refine LeO.bind ?_ (fun _ => ?_))
theorem impl_arePairs.calls (k : Nat) (A0 : Option Addr) (c0 : Nat) (l0 : List ByteArray) (A1 : Option Addr) (c1 : Nat) (l1 : List ByteArray) (r : Bool) (w : World) (hr0 : Kd.C Kd.string w A0 l0.length l0) (hc0 : l0.length <= c0) (hr1 : Kd.C Kd.string w A1 l1.length l1) (hc1 : l1.length <= c1) (h : impl_arePairs.f k l0 l1 = some r) :
  Calls Try.prog 86 #[.slice A0 l0.length c0, .slice A1 l1.length c1] w fun e w' => e = .returned (.bool r) /\ Drawn0 w w' := by
 have HR0 := A_ hr0
 have HC0 := A_ hc0
 clear hr0 hc0
 have HR1 := A_ hr1
 have HC1 := A_ hc1
 clear hr1 hc1
 have H : (if (l0.length : Int) <= 40 then (if (l0.length : Int) = (l1.length : Int) then ((impl_areRising.f k l0).bind fun t177 => (if t177 = true then ((slices_ContainsFunc_at117.f k l1).bind fun t178 => (some (!t178))) else (some false))) else (some false)) else (some false)) = some r := h
 clear h
 by_cases c3 : (l0.length : Int) <= 40
 ·rw [if_pos c3] at H
  have c3b0 : decide ((l0.length : Int) <= 40) = true := decide_eq_true c3
  have c3b1 : decide (l0.length <= 40) = true := decide_eq_true (by omega)
  clear c3
  by_cases c4 : (l0.length : Int) = (l1.length : Int)
  ·rw [if_pos c4] at H
   have c4b0 : ((l0.length : Int) == (l1.length : Int)) = true := beq_iff_eq.mpr c4
   have c4b1 : ((l0.length : Int) != (l1.length : Int)) = false := bne_eq_false_iff_eq.mpr c4
   have c4b2 : (l0.length == l1.length) = true := by first | simpa using c4 | (simp at c4 ⊢; omega)
   clear c4
   replace H := Option.bind_eq_some_iff.mp H
   obtain ⟨t177, A50, H⟩ := H
   replace H : (if t177 = true then ((slices_ContainsFunc_at117.f k l1).bind fun t178 => (some (!t178))) else (some false)) = some r := H
   have A5 := A_ A50
   clear A50
   by_cases c6 : t177 = true
   ·subst c6
    have H1 : ((slices_ContainsFunc_at117.f k l1).bind fun t178 => (some (!t178))) = some r := by rw [if_pos rfl] at H; exact H
    clear H
    have H := H1
    clear H1
    replace H := Option.bind_eq_some_iff.mp H
    obtain ⟨t178, A70, H⟩ := H
    replace H : (some (!t178)) = some r := H
    have A7 := A_ A70
    clear A70
    obtain rfl := Option.some.inj H
    go_enter Try.func86, Try.ntmps86
    go_wp2_with (first | (go_at_call 115; (with_reducible refine (impl_areRising.calls k _ _ l0 true _ ?side1 ?side2 A5.out).mono ?_); (case side1 => refine cd_ ?_; exact HR0.out); (case side2 => exact HC0.out); rintro e w' ⟨rfl, ⟨nd, rfl⟩⟩) | (go_at_call 116; (with_reducible refine (slices_ContainsFunc_at117.calls k _ _ l1  t178 _ ?side1 ?side2 A7.out).mono ?_); (case side1 => refine cd_ ?_; exact HR1.out); (case side2 => exact HC1.out); rintro e w' ⟨rfl, ⟨nd, rfl⟩⟩))
    go_ret
    exact ⟨by first | rfl | (simp; done) | (simp [*]; done), by repeat (first | exact Drawn0.refl _ | apply Drawn0.step)⟩
   ·replace c6 := Bool.eq_false_iff.mpr c6
    subst c6
    have H1 : (some false) = some r := by rw [if_neg (show ¬ (false = true) by decide)] at H; exact H
    clear H
    have H := H1
    clear H1
    obtain rfl := Option.some.inj H
    go_enter Try.func86, Try.ntmps86
    go_wp2_with (first | (go_at_call 115; (with_reducible refine (impl_areRising.calls k _ _ l0 false _ ?side1 ?side2 A5.out).mono ?_); (case side1 => refine cd_ ?_; exact HR0.out); (case side2 => exact HC0.out); rintro e w' ⟨rfl, ⟨nd, rfl⟩⟩))
    go_ret
    exact ⟨by first | rfl | (simp; done) | (simp [*]; done), by repeat (first | exact Drawn0.refl _ | apply Drawn0.step)⟩
  ·rw [if_neg c4] at H
   have c4b0 : ((l0.length : Int) == (l1.length : Int)) = false := beq_eq_false_iff_ne.mpr c4
   have c4b1 : ((l0.length : Int) != (l1.length : Int)) = true := bne_iff_ne.mpr c4
   have c4b2 : (l0.length == l1.length) = false := by first | simpa using c4 | (simp at c4 ⊢; omega)
   obtain rfl := Option.some.inj H
   go_enter Try.func86, Try.ntmps86
   go_wp2
   go_ret
   exact ⟨by first | rfl | (simp; done) | (simp [*]; done), by repeat (first | exact Drawn0.refl _ | apply Drawn0.step)⟩
 ·rw [if_neg c3] at H
  have c3b0 : decide ((l0.length : Int) <= 40) = false := decide_eq_false c3
  have c3b1 : decide (l0.length <= 40) = false := decide_eq_false (by omega)
  clear c3
  obtain rfl := Option.some.inj H
  go_enter Try.func86, Try.ntmps86
  go_wp2
  go_ret
  exact ⟨by first | rfl | (simp; done) | (simp [*]; done), by repeat (first | exact Drawn0.refl _ | apply Drawn0.step)⟩
end Go.Proofs.Ytoddejmlcnbdmaa.Fn
namespace Go.Proofs.Ytoddejmlcnbdmaa.Tree
open Go.Proofs.Ytoddejmlcnbdmaa.Fn
def pairS (k v : ByteArray) : Bool := (spec_l5Pair.f k v).getD false
theorem pairS_f (k v : ByteArray) : spec_l5Pair.f k v = some (pairS k v) := by
 unfold pairS spec_l5Pair.f spec_l5Text.f
 simp only [Option.bind_some]
 split
 ·split <;> rfl
 ·rfl
def prevOk : Option ByteArray -> ByteArray -> Bool
 | none, _ => true
 | some p, k => ltB p k
def chkS : List ByteArray -> List ByteArray -> Option ByteArray -> Bool
 | [], _, _ => true
 | k :: ks, vs, prev => pairS k (vs.headD ByteArray.empty) && prevOk prev k && chkS ks (vs.drop 1) (some k)
def prevAt (keys : List ByteArray) : Nat -> Option ByteArray
 | 0 => none
 | j + 1 => keys[j]?
theorem chk_on {keys vals : List ByteArray} {i : Nat} {k v : ByteArray} {B : Bool} (h : B = chkS (keys.drop i) (vals.drop i) (prevAt keys i)) (hk : keys[i]? = some k) (hv : vals[i]? = some v) (hp : pairS k v = true) (ho : ∀ p, prevAt keys i = some p -> ltB p k = true) :
  B = chkS (keys.drop (i + 1)) (vals.drop (i + 1)) (prevAt keys (i + 1)) := by
 rw [drop_of hk, drop_of hv, chkS, List.headD_cons, hp, List.drop_succ_cons, List.drop_zero, Bool.true_and] at h
 rw [h]
 show _ = chkS _ _ (keys[i]?)
 rw [hk]
 cases hpr : prevAt keys i with
 | none => rfl
 | some p => simp only [prevOk, ho p hpr, Bool.true_and]
theorem chk_off1 {keys vals : List ByteArray} {i : Nat} {k v : ByteArray} {B : Bool} (h : B = chkS (keys.drop i) (vals.drop i) (prevAt keys i)) (hk : keys[i]? = some k) (hv : vals[i]? = some v) (hp : pairS k v = false) : B = false := by
 rw [drop_of hk, drop_of hv, chkS, List.headD_cons, hp, Bool.false_and, Bool.false_and] at h
 exact h
theorem chk_off2 {keys vals : List ByteArray} {i : Nat} {k p : ByteArray} {B : Bool} (h : B = chkS (keys.drop i) (vals.drop i) (prevAt keys i)) (hk : keys[i]? = some k) (hpr : prevAt keys i = some p) (ho : ltB p k = false) : B = false := by
 rw [drop_of hk, chkS, hpr] at h
 rw [h]
 simp only [prevOk, ho, Bool.and_false, Bool.false_and]
theorem chk_end {keys vals : List ByteArray} {i : Nat} {B : Bool} (h : B = chkS (keys.drop i) (vals.drop i) (prevAt keys i)) (hi : keys.length <= i) : B = true := by
 rw [List.drop_eq_nil_of_le hi, chkS] at h
 exact h
def ofS (P : List S110) : Option PT := match readS P 10 0 with
 | none => none
 | some r => if r.2 ≠ P.length then none else if chkS (allK r.1) (allV r.1) none = false then none else if evenS r.1 < 0 ∨ (r.1.kids.length ≠ 0 /\ r.1.keys.length = 0) ∨ 40 < (allK r.1).length then none else some r.1
theorem weave_le {α : Type} : ∀ (cs : List (List α)) (ks : List α), (weave cs ks).length <= (cs.map List.length).sum + ks.length
 | [], ks => by simp [weave]
 | c :: cs, [] => by simp [weave]
 | c :: cs, k :: ks => by
  have := weave_le cs ks
  simp only [weave, List.length_append, List.length_cons, List.map_cons, List.sum_cons]
  omega
structure Fits (t : PT) (m : Nat) : Prop where
 shp : Shp t
 four : t.keys.length <= 4
 k : (allK t).length <= 4 * m
 v : (allV t).length <= 4 * m
theorem readK_fits {rd : Nat -> Option (PT × Nat)} (hrd : ∀ a t n, rd a = some (t, n) -> a < n /\ Fits t (n - a)) : ∀ (l : List Int) (next : Nat) (acc ts : List PT) (n s : Nat),
  (∀ t ∈ acc, Shp t) -> ((acc.map allK).map List.length).sum <= 4 * s -> ((acc.map allV).map List.length).sum <= 4 * s -> readK rd l next acc = some (ts, n) ->
  next <= n /\ ts.length = acc.length + l.length /\ (∀ t ∈ ts, Shp t) /\ ((ts.map allK).map List.length).sum <= 4 * (s + (n - next)) /\ ((ts.map allV).map List.length).sum <= 4 * (s + (n - next))
 | [], next, acc, ts, n, s, h1, h2, h3, h => by
  rw [readK] at h
  injection h with h
  injection h with e1 e2
  subst e1; subst e2
  refine ⟨Nat.le_refl _, by simp, h1, by omega, by omega⟩
 | k :: ks, next, acc, ts, n, s, h1, h2, h3, h => by
  rw [readK] at h
  split at h
  ·cases h
  ·cases hr : rd next with
   | none => rw [hr] at h; cases h
   | some r =>
    rw [hr] at h
    obtain ⟨t, m⟩ := r
    obtain ⟨hlt, hf⟩ := hrd next t m hr
    have hk := hf.k
    have hv := hf.v
    have := readK_fits hrd ks m (acc ++ [t]) ts n (s + (m - next)) (fun x hx => by
     rcases List.mem_append.1 hx with hx | hx
     ·exact h1 x hx
     ·rw [List.mem_singleton.1 hx]; exact hf.shp) (by simp only [List.map_append, List.map_cons, List.map_nil, List.sum_append, List.sum_cons, List.sum_nil]; omega) (by simp only [List.map_append, List.map_cons, List.map_nil, List.sum_append, List.sum_cons, List.sum_nil]; omega) h
    obtain ⟨g1, g2, g3, g4, g5⟩ := this
    rw [List.length_append] at g2
    simp only [List.length_cons, List.length_nil] at g2 ⊢
    exact ⟨by omega, by omega, g3, by omega, by omega⟩
theorem readS_fits {P : List S110} : ∀ (f a : Nat) (t : PT) (n : Nat), readS P f a = some (t, n) -> a < n /\ Fits t (n - a)
 | 0, a, t, n, h => by cases h
 | f + 1, a, t, n, h => by
  rw [readS] at h
  split at h
  ·cases h
  ·split at h
   ·cases h
   ·rename_i hl hb
    generalize P.getD a z110 = p at h hb
    unfold fin at h
    obtain ⟨r, hr, e⟩ := Option.map_eq_some_iff.1 h
    obtain ⟨ts, m⟩ := r
    injection e with e1 e2
    have e2 : m = n := e2
    subst e2
    have := readK_fits (fun a t n h => readS_fits f a t n h) p.f2 (a + 1) [] ts m 0 (fun t h => by cases h) (by simp) (by simp) hr
    obtain ⟨g1, g2, g3, g4, g5⟩ := this
    have hb' : badP p = false := by cases hbb : badP p <;> simp_all
    unfold badP at hb'
    simp only [Bool.or_eq_false_iff, Bool.and_eq_false_iff, decide_eq_false_iff_not, bne_eq_false_iff_eq] at hb'
    have e1 : PT.mk p.f0 p.f1 ts = t := e1
    subst e1
    simp only [List.length_nil] at g2
    have s1 : Shp1 (.mk p.f0 p.f1 ts) := by
     unfold Shp1
     simp only [PT.keys, PT.vals, PT.kids]
     omega
    refine ⟨by omega, Shp.mk' s1 (fun i s hs => g3 s (List.mem_of_getElem? hs)), by show p.f0.length <= 4; omega, ?_, ?_⟩
    ·rw [allK_eq]
     have := weave_le (ts.map allK) p.f0
     show (weave (ts.map allK) p.f0).length <= _
     omega
    ·rw [allV_eq]
     have := weave_le (ts.map allV) p.f1
     show (weave (ts.map allV) p.f1).length <= _
     omega
theorem weave_len {α β : Type} : ∀ (cs : List (List α)) (ds : List (List β)) (ks : List α) (vs : List β), cs.map List.length = ds.map List.length -> ks.length = vs.length -> (weave cs ks).length = (weave ds vs).length
 | [], [], ks, vs, _, h => by simpa [weave] using h
 | [], d :: ds, ks, vs, h, _ => by simp at h
 | c :: cs, [], ks, vs, h, _ => by simp at h
 | c :: cs, d :: ds, [], [], h, _ => by simp at h; simp [weave, h.1]
 | c :: cs, d :: ds, [], v :: vs, _, h => by simp at h
 | c :: cs, d :: ds, k :: ks, [], _, h => by simp at h
 | c :: cs, d :: ds, k :: ks, v :: vs, h1, h2 => by
  simp only [List.map_cons, List.cons.injEq] at h1
  have := weave_len cs ds ks vs h1.2 (by simpa using h2)
  simp only [weave, List.length_append, List.length_cons]
  omega
theorem allV_len_ : ∀ (n : Nat) {t : PT}, SizeOf.sizeOf t <= n -> Shp t -> (allV t).length = (allK t).length
 | 0, t, h, _ => by cases t; simp at h
 | n + 1, t, h, hs => by
  have h1 := hs.one
  unfold Shp1 at h1
  rw [allV_eq, allK_eq]
  refine weave_len _ _ _ _ ?_ h1.1.symm
  rw [List.map_map, List.map_map]
  refine List.map_congr_left fun s hm => ?_
  obtain ⟨i, hi⟩ := List.getElem?_of_mem hm
  have := PT.size_kid hi
  exact allV_len_ n (by omega) (hs.kid hi)
theorem allV_len {t : PT} (h : Shp t) : (allV t).length = (allK t).length := allV_len_ _ (Nat.le_refl _) h
open Go.Proofs.Ytoddejmlcnbdmaa.Fn
set_option maxHeartbeats 8000000
set_option maxRecDepth 100000
open Go.Proofs.Ytoddejmlcnbdmaa.Fn
set_option maxHeartbeats 8000000
set_option maxRecDepth 100000
open Go.Proofs.Ytoddejmlcnbdmaa.Fn
set_option maxHeartbeats 8000000
set_option maxRecDepth 100000
theorem spec_at.calls (t : PT) (hm : t.keys.length <= 1000000000000) (key : ByteArray) (i0 : Nat) (b : Bool) (hi0 : atI key t.keys = i0) (hb : hasS t.keys i0 key = b) {p : Nat} (w : World) (h : Rd 96 w p t) :
  Calls Try.prog 100 #[ptrv p, .string key] w fun e w' => e = .returned (.tuple #[.int .i64 (i0 : Int), .bool b]) /\ Drawn0 w w' := by
 obtain ⟨Ak, ck, Av, cv, Ac, cc, ps, HN0⟩ := h.open
 have HN := A_ HN0
 have hz0 := HN0.z0
 have HE := A_ (show i0 = 0 + atI key (t.keys.drop 0) by rw [List.drop_zero, Nat.zero_add]; exact hi0.symm)
 have HBB := A_ hb
 clear h HN0 hi0 hb
 go_enter Try.func100, Try.ntmps100
 go_wp2
 go_loopg [6] t.keys.length (fun kq u6 w' => ∃ (i m : Nat), u6 = .int .i64 (i : Int) /\ Aside0 (i <= t.keys.length /\ kq + i = t.keys.length) /\ Aside0 (i0 = i + atI key (t.keys.drop i)) /\ w' = w.drewN m)
 case atStart => exact ⟨0, 0, by first | rfl | (simp; done), ⟨by omega⟩, HE, rfl⟩
 case round =>
  clear HE
  obtain ⟨i, m, rfl, HK, HE, rfl⟩ := hrel
  have ci : (0 <= (i : Int)) = True := eq_true (by omega)
  by_cases hi : i < t.keys.length
  ·have ce : decide ((i : Int) < (t.keys.length : Int)) = true := decide_eq_true (by omega)
   have ceb : (i < t.keys.length) = True := eq_true hi
   have hil : i < 1000000000000 := by omega
   have HI := A_ hi
   obtain ⟨adk, rfl, hk0⟩ := HN.out.key i (by omega) (by omega)
   rw [Int.toNat_natCast] at hk0
   have hks : t.keys[i]? = some (rdOf ByteArray.empty t.keys (i : Int)) := by unfold rdOf; rw [Int.toNat_natCast, List.getD_eq_getElem?_getD, List.getElem?_eq_getElem hi]; rfl
   generalize rdOf ByteArray.empty t.keys (i : Int) = k at hk0 hks
   have HKS := A_ hks
   clear hks hi
   cases hlt : ltB k key with
   | true =>
    have HE1 := A_ (atI_on HKS.out HE.out hlt)
    have hlt' : Op.bytesLess k.toList key.toList = true := hlt
    clear hlt
    go_wp2
    go_roundg (t.keys.length - (i + 1))
    case measure => have := HK.out; have := HI.out; omega
    case rel => exact ⟨i + 1, _, by first | rfl | go_num | (simp; done), ⟨by have := HK.out; have := HI.out; omega⟩, HE1, rfl⟩
   | false =>
    have he := atI_off HKS.out HE.out hlt
    subst he
    have hlt' : Op.bytesLess k.toList key.toList = false := hlt
    have hbb : (k.toList == key.toList) = b := by have := HBB.out; unfold hasS at this; rw [HKS.out] at this; exact this
    clear hlt
    go_wp2
    go_quiet (fail)
    go_wp2
    go_ret2
    exact ⟨rfl, by repeat (first | exact Drawn0.refl _ | apply Drawn0.step | exact ⟨_, rfl⟩)⟩
  ·have ce : decide ((i : Int) < (t.keys.length : Int)) = false := decide_eq_false (by omega)
   have ceb : (i < t.keys.length) = False := eq_false hi
   have he := atI_end (by omega) HE.out
   subst he
   obtain rfl : b = false := by
    cases b with
    | false => rfl
    | true => exact absurd (hasS_lt HBB.out) hi
   clear hi
   go_wp2
   go_quiet (fail)
   go_wp2
   go_ret2
   exact ⟨rfl, by repeat (first | exact Drawn0.refl _ | apply Drawn0.step | exact ⟨_, rfl⟩)⟩
end Go.Proofs.Ytoddejmlcnbdmaa.Tree
namespace Go.Proofs.Ytoddejmlcnbdmaa.Fn
open Go.Proofs.Ytoddejmlcnbdmaa.Tree
set_option maxHeartbeats 8000000
set_option maxRecDepth 100000
open Go.Proofs.Ytoddejmlcnbdmaa.Tree
set_option maxHeartbeats 8000000
set_option maxRecDepth 100000
end Go.Proofs.Ytoddejmlcnbdmaa.Fn
namespace Go.Proofs.Ytoddejmlcnbdmaa.Tree
open Go.Proofs.Ytoddejmlcnbdmaa.Fn
def NT.head (T E : Nat) (t : NT) : List Ck := [.box T t.p #[t.kv, t.vv, t.cv], txt t.kv t.keys, txt t.vv t.vals, .que E t.cv (ptrs t.kids)]
theorem NT.cks_eq (T E : Nat) (t : NT) : t.cks T E = t.head T E ++ NT.cksL T E t.kids := by
 cases t
 rw [NT.cks]
 rfl
def NT.hole (T E : Nat) (t : NT) (i : Nat) (L : List Ck) : List Ck := t.head T E ++ (NT.cksL T E (t.kids.take i) ++ (NT.cksL T E (t.kids.drop (i + 1)) ++ L))
def NT.setKid (t : NT) (i : Nat) (s : NT) : NT := .mk t.p t.kv t.vv t.cv t.keys t.vals (t.kids.set i s)
theorem take_kid {l : List NT} {i : Nat} {s : NT} (h : l[i]? = some s) : l = l.take i ++ s :: l.drop (i + 1) := by
 rw [<- drop_of h, List.take_append_drop]
theorem cksL_kid (T E : Nat) {l : List NT} {i : Nat} {s : NT} (h : l[i]? = some s) : NT.cksL T E l = NT.cksL T E (l.take i) ++ (s.cks T E ++ NT.cksL T E (l.drop (i + 1))) := by
 conv => lhs; rw [take_kid h]
 rw [cksL_append, NT.cksL]
theorem kid_out {T E : Nat} {t s : NT} {i : Nat} (L : List Ck) (h : t.kids[i]? = some s) : (t.cks T E ++ L).Perm (s.cks T E ++ t.hole T E i L) := by
 rw [NT.cks_eq, cksL_kid T E h]
 unfold NT.hole
 simp only [List.append_assoc]
 refine (List.Perm.append_left _ (List.perm_append_comm_assoc _ _ _)).trans ?_
 exact List.perm_append_comm_assoc _ _ _
theorem set_kid {l : List NT} {i : Nat} {s s' : NT} (h : l[i]? = some s) : (l.set i s')[i]? = some s' /\ (l.set i s').take i = l.take i /\ (l.set i s').drop (i + 1) = l.drop (i + 1) := by
 have hl : i < l.length := (List.getElem?_eq_some_iff.1 h).1
 refine ⟨by rw [List.getElem?_set_self hl], ?_, ?_⟩
 ·rw [List.take_set_of_le (Nat.le_refl _)]
 ·rw [List.drop_set_of_lt (Nat.lt_succ_self _)]
theorem ptrs_set {l : List NT} {i : Nat} {s s' : NT} (h : l[i]? = some s) (hp : s'.p = s.p) : ptrs (l.set i s') = ptrs l := by
 unfold ptrs
 rw [List.map_set]
 refine List.ext_getElem? fun j => ?_
 rw [List.getElem?_set]
 by_cases hj : i = j
 ·subst hj
  have hl : i < l.length := (List.getElem?_eq_some_iff.1 h).1
  rw [if_pos rfl, if_pos (by rw [List.length_map]; exact hl), List.getElem?_map, h, hp]
  rfl
 ·rw [if_neg hj]
theorem kid_in {T E : Nat} {t s s' : NT} {i : Nat} (L : List Ck) (h : t.kids[i]? = some s) (hp : s'.p = s.p) : (s'.cks T E ++ t.hole T E i L).Perm ((t.setKid i s').cks T E ++ L) := by
 obtain ⟨h1, h2, h3⟩ := set_kid (s' := s') h
 have hh : (t.setKid i s').hole T E i L = t.hole T E i L := by
  unfold NT.hole NT.head NT.setKid NT.p NT.kv NT.vv NT.cv NT.keys NT.vals NT.kids
  cases t with | mk p kv vv cv keys vals kids =>
  simp only [NT.kids] at h h1 h2 h3
  simp only
  rw [ptrs_set h hp, h2, h3]
 rw [<- hh]
 refine (kid_out L ?_).symm
 cases t
 exact h1
theorem erase_setKid {t s' : NT} {i : Nat} : (t.setKid i s').erase = .mk t.keys t.vals (t.erase.kids.set i s'.erase) := by
 cases t with | mk p kv vv cv keys vals kids =>
 show PT.mk keys vals (NT.eraseL (kids.set i s')) = PT.mk keys vals ((NT.eraseL kids).set i s'.erase)
 rw [eraseL_map, eraseL_map, List.map_set]
section
variable {w w1 W : World} {base : Nat} {L : List Ck}
theorem Sat.setTxt {g c : Nat} {l : List ByteArray} (h : Sat w base (txt (.slice (some ⟨g, 0, none⟩) l.length c) l :: L)) (i : Nat) (x : ByteArray) :
  Sat (w.setCell ⟨g, i, none⟩ (.string x)) base (txt (.slice (some ⟨g, 0, none⟩) (l.set i x).length c) (l.set i x) :: L) := by
 have h1 := ok_sr (h.ok _ List.mem_cons_self)
 obtain ⟨h2, hg⟩ := Kd.R_put (enc := Value.string) (h1 := fun _ => rfl) h1 (i : Int) x
 rw [Int.toNat_natCast] at h2 hg
 have hl : (l.set i x).length = l.length := List.length_set
 rw [hl]
 refine Sat.frame (A := [txt (.slice (some ⟨g, 0, none⟩) l.length c) l]) (A' := [txt (.slice (some ⟨g, 0, none⟩) l.length c) (l.set i x)]) (R := L) (w := w) h (Sat.one (sr_ok h2)) ⟨hg.size, fun k hk hnot => hg.block k hk fun he => hnot ⟨_, List.mem_singleton_self _, ?_⟩⟩ ?_
 ·exact he.symm
 ·rintro k ⟨c', hc, hb⟩
  rw [List.mem_singleton.1 hc] at hb
  exact .inl ⟨_, List.mem_singleton_self _, hb⟩
end
open Go.Proofs.Ytoddejmlcnbdmaa.Fn
def SatG (w : World) (base : Nat) (gs : List (List Ck)) : Prop := Sat w base gs.flatten
section
variable {w w1 W : World} {base : Nat} {gs gs' : List (List Ck)} {A B : List Ck} {c c' : Ck}
theorem SatG.drew (h : SatG w base gs) : SatG w.drew base gs := Sat.drew h
theorem SatG.drewN (h : SatG w base gs) (m : Nat) : SatG (w.drewN m) base gs := Sat.drewN h m
theorem grp_perm {i : Nat} (hi : gs[i]? = some A) (B : List Ck) : gs.flatten.Perm (A ++ (gs.eraseIdx i).flatten) /\ (gs.set i B).flatten.Perm (B ++ (gs.eraseIdx i).flatten) := by
 obtain ⟨h1, h2⟩ := set_perm (y := B) hi
 exact ⟨h1.flatten, h2.flatten⟩
theorem SatG.at (h : SatG w base gs) (i : Nat) (hi : gs[i]? = some A) : Sat w base A :=
 Sat.left (Sat.perm h (grp_perm hi A).1)
theorem SatG.z (h : SatG w base gs) (i : Nat) {T p : Nat} {cs : Array Value} (hi : gs[i]? = some [.box T p cs]) (j : Nat) : w.cell? ⟨p, j, none⟩ = cs[j]? := (h.at i hi).z 0 rfl j
theorem SatG.f (h : SatG w base gs) (i : Nat) {T p : Nat} {cs : Array Value} (hi : gs[i]? = some [.box T p cs]) (j : Nat) : w.frozen? ⟨p, j, none⟩ = false := (h.at i hi).f 0 rfl j
theorem SatG.ge (h : SatG w base gs) (i : Nat) {T p : Nat} {cs : Array Value} (hi : gs[i]? = some [.box T p cs]) : base <= p := ((h.at i hi).ok _ List.mem_cons_self).1
theorem SatG.sr (h : SatG w base gs) (i : Nat) {v : Value} {l : List ByteArray} (hi : gs[i]? = some [txt v l]) : SR w base v l := (h.at i hi).sr 0 rfl
theorem SatG.row (h : SatG w base gs) (i : Nat) {Ad : Option Addr} {n c : Nat} {l : List ByteArray} (hi : gs[i]? = some [txt (.slice Ad n c) l]) : n = l.length /\ n <= c /\ Kd.C Kd.string w Ad l.length l := Kd.R_reads' (h.sr i hi)
theorem SatG.q (h : SatG w base gs) (i : Nat) {E : Nat} {v : Value} {l : List NT} (hi : gs[i]? = some [.que E v (ptrs l)]) : PQ E w base v (l.map NT.p) := by
 have := (h.at i hi).ok _ List.mem_cons_self
 rw [ptrs_encs] at this
 exact ok_pq this
theorem SatG.rowQ (h : SatG w base gs) (i : Nat) {E : Nat} {Ad : Option Addr} {n c : Nat} {l : List NT} (hi : gs[i]? = some [.que E (.slice Ad n c) (ptrs l)]) : n = l.length /\ n <= c /\ kptr.C w Ad n (l.map NT.p) := by
 obtain ⟨h1, h2, h3⟩ := Kd.Q_reads' (h.q i hi)
 rw [List.length_map] at h1 h3
 subst h1
 exact ⟨rfl, h2, h3⟩
theorem SatG.turn (h : SatG w base gs) (i : Nat) (hi : gs[i]? = some A) (ha : Sat w1 base B) (hk : Kept w w1 (blks A)) (hb : ∀ k, blks B k -> blks A k ∨ w.heap.size <= k) : SatG w1 base (gs.set i B) :=
 Sat.perm (Sat.frame (Sat.perm h (grp_perm hi B).1) ha hk hb) (grp_perm hi B).2.symm
theorem SatG.put (h : SatG w base gs) (i : Nat) {T p : Nat} {cs cs' : Array Value} (hi : gs[i]? = some [.box T p cs]) (j : Nat) (u : Value) (e : cs.setIfInBounds j u = cs') : SatG (w.setCell ⟨p, j, none⟩ u) base (gs.set i [.box T p cs']) := by
 obtain ⟨h1, h2⟩ := grp_perm hi [.box T p cs']
 exact Sat.perm (Sat.put (Sat.perm h h1) j u e) h2.symm
theorem SatG.setTxt (h : SatG w base gs) (i : Nat) {g c : Nat} {l : List ByteArray} (hi : gs[i]? = some [txt (.slice (some ⟨g, 0, none⟩) l.length c) l]) (j : Nat) (x : ByteArray) :
  SatG (w.setCell ⟨g, j, none⟩ (.string x)) base (gs.set i [txt (.slice (some ⟨g, 0, none⟩) (l.set j x).length c) (l.set j x)]) := by
 obtain ⟨h1, h2⟩ := grp_perm hi [txt (.slice (some ⟨g, 0, none⟩) (l.set j x).length c) (l.set j x)]
 exact Sat.perm (Sat.setTxt (Sat.perm h h1) j x) h2.symm
theorem SatG.new (h : SatG w base gs) (hb : Below w.heap.size w w1) (hbase : base <= w.heap.size) (hn : Sat w1 w.heap.size A) : SatG w1 base (gs ++ [A]) := by
 have := Sat.behind h hb hbase hn
 unfold SatG
 rw [List.flatten_append, List.flatten_singleton]
 exact this
theorem SatG.newTxt {v : Value} {l : List ByteArray} (h : SatG w base gs) (hb : Below w.heap.size w w1) (hbase : base <= w.heap.size) (ho : Kd.string.R 9 w1 w.heap.size (fun _ => True) v l) : SatG w1 base (gs ++ [[txt v l]]) :=
 h.new hb hbase (Sat.one (sr_ok ho))
theorem SatG.newBox {T g : Nat} {cs : Array Value} (h : SatG W base gs) (hg : g = W.heap.size) (hbox : w1.heap[g]? = some (.cells cs T (0, 0))) (hb : Below W.heap.size W w1) (hbase : base <= W.heap.size) : SatG w1 base (gs ++ [[.box T g cs]]) :=
 h.new hb hbase (Sat.one ⟨by omega, hbox⟩)
theorem SatG.takeTxt {Ad : Option Addr} {c : Nat} {l : List ByteArray} (h : SatG w base gs) (i : Nat) (hi : gs[i]? = some [txt (.slice Ad l.length c) l]) (m : Nat) (hm : m <= l.length) : SatG w base (gs.set i [txt (.slice Ad m c) (l.take m)]) := by
 have h1 := h.sr i hi
 have h2 : SR w base (.slice Ad m c) (l.take m) := Kd.R_take h1 hm
 refine h.turn i hi (Sat.one (sr_ok h2)) (Kept.refl _ _) ?_
 rintro k ⟨d, hd, hb⟩
 rw [List.mem_singleton.1 hd] at hb
 exact .inl ⟨_, List.mem_singleton_self _, by cases Ad <;> exact hb⟩
theorem SatG.lit {xs : List ByteArray} {vb : Value} (h : SatG W base gs) (ho : Kd.string.R 9 w1 base (fun _ => True) vb xs) (hg : W.grownBy w1 none) (hn : ∃ b, vb.ownBlock = some b /\ W.heap.size <= b) : SatG w1 base (gs ++ [[txt vb xs]]) := by
 have := Sat.lit h ho hg hn
 unfold SatG
 rw [List.flatten_append, List.flatten_singleton]
 exact this
theorem one_blk {c c' : Ck} (hat : c'.blk = c.blk ∨ ∃ b, c'.blk = some b /\ W.heap.size <= b) : ∀ k, blks [c'] k -> blks [c] k ∨ W.heap.size <= k := by
 rintro k ⟨d, hd, hb⟩
 rw [List.mem_singleton.1 hd] at hb
 rcases hat with h | ⟨b, h1, h2⟩
 ·exact .inl ⟨_, List.mem_singleton_self _, by rw [<- h]; exact hb⟩
 ·rw [h1] at hb
  injection hb with hb
  exact .inr (by omega)
theorem SatG.app {x y : List ByteArray} {u u1 : Value} (i : Nat) (h : SatG W base gs) (hi : gs[i]? = some [txt u x]) (ho : Kd.string.R 9 w1 base (fun _ => True) u1 y) (hg : W.grownBy w1 u.ownBlock) (hat : u1.ownBlock = u.ownBlock ∨ ∃ b, u1.ownBlock = some b /\ W.heap.size <= b) : SatG w1 base (gs.set i [txt u1 y]) :=
 h.turn i hi (Sat.one (sr_ok ho)) ⟨hg.size, fun k hk hnot => hg.block k hk fun he => hnot ⟨_, List.mem_singleton_self _, he.symm⟩⟩ (one_blk hat)
theorem SatG.takeQ {E : Nat} {Ad : Option Addr} {n c : Nat} {l : List NT} (h : SatG w base gs) (i : Nat) (hi : gs[i]? = some [.que E (.slice Ad n c) (ptrs l)]) (m : Nat) (hm : m <= l.length) : SatG w base (gs.set i [.que E (.slice Ad m c) (ptrs (l.take m))]) := by
 have h1 := h.q i hi
 have h2 : PQ E w base (.slice Ad m c) ((l.map NT.p).take m) := Kd.Q_take h1 (by rw [List.length_map]; exact hm)
 rw [<- List.map_take] at h2
 have h3 := pq_ok h2
 rw [<- ptrs_encs] at h3
 refine h.turn i hi (Sat.one h3) (Kept.refl _ _) ?_
 rintro k ⟨d, hd, hb⟩
 rw [List.mem_singleton.1 hd] at hb
 exact .inl ⟨_, List.mem_singleton_self _, by cases Ad <;> exact hb⟩
theorem SatG.newPtr {E : Nat} {v : Value} {l : List NT} (h : SatG w base gs) (hb : Below w.heap.size w w1) (hbase : base <= w.heap.size) (ho : kptr.R E w1 w.heap.size (fun _ => True) v (l.map NT.p)) : SatG w1 base (gs ++ [[.que E v (ptrs l)]]) := by
 have h2 : PQ E w1 w.heap.size v (l.map NT.p) := Kd.Q_of_R ho
 have h3 := pq_ok h2
 rw [<- ptrs_encs] at h3
 exact h.new hb hbase (Sat.one h3)
theorem SatG.litC {c : Ck} (h : SatG W base gs) (hc : c.ok w1 base) (hg : W.grownBy w1 none) (hn : ∃ b, c.blk = some b /\ W.heap.size <= b) : SatG w1 base (gs ++ [[c]]) := by
 have hk : Kept W w1 (fun _ => False) := ⟨hg.size, fun i hi _ => hg.block i hi (by simp)⟩
 have h2 := Sat.perm (Sat.add h hk (Sat.one hc) (by
  rintro k ⟨d, hd, hb⟩
  rw [List.mem_singleton.1 hd] at hb
  obtain ⟨b, h1, h2⟩ := hn
  rw [h1] at hb
  injection hb with hb
  omega)) List.perm_append_comm
 unfold SatG
 rw [List.flatten_append, List.flatten_singleton]
 exact h2
theorem own_ptr {E : Nat} {v : Value} {l : List Nat} (h : kptr.R E w base (fun _ => True) v l) : Ck.ok w base (.own E v (encs ptrv l)) := by
 have h2 := Kd.own_of_R (enc := ptrv) (h1 := fun _ => rfl) h
 show w.ownsRow base E 1 v (encs ptrv l).length (encs ptrv l)
 rw [encs_length]
 exact h2
theorem ptr_own {E : Nat} {v : Value} {l : List Nat} (h : Ck.ok w base (.own E v (encs ptrv l))) : kptr.R E w base (fun _ => True) v l :=
 Kd.R_of_own (enc := ptrv) (h1 := fun _ => rfl) (by have h2 : w.ownsRow base E 1 v (encs ptrv l).length (encs ptrv l) := h; rw [encs_length] at h2; exact h2) (fun _ _ => trivial)
theorem SatG.ptrR (h : SatG w base gs) (i : Nat) {E : Nat} {v : Value} {l : List Nat} (hi : gs[i]? = some [.own E v (encs ptrv l)]) : kptr.R E w base (fun _ => True) v l := ptr_own ((h.at i hi).ok _ List.mem_cons_self)
theorem SatG.appOwn {E : Nat} {x : List Nat} {y : List NT} {u u1 : Value} (i : Nat) (h : SatG W base gs) (hi : gs[i]? = some [.own E u (encs ptrv x)]) (ho : kptr.R E w1 base (fun _ => True) u1 (y.map NT.p)) (hg : W.grownBy w1 u.ownBlock) (hat : u1.ownBlock = u.ownBlock ∨ ∃ b, u1.ownBlock = some b /\ W.heap.size <= b) : SatG w1 base (gs.set i [.que E u1 (ptrs y)]) := by
 have h3 := pq_ok (Kd.Q_of_R ho : PQ E w1 base u1 (y.map NT.p))
 rw [<- ptrs_encs] at h3
 exact h.turn i hi (Sat.one h3) ⟨hg.size, fun k hk hnot => hg.block k hk fun he => hnot ⟨_, List.mem_singleton_self _, he.symm⟩⟩ (one_blk hat)
theorem SatG.cut (h : SatG w base gs) (i : Nat) (hi : gs[i]? = some (A ++ B)) : SatG w base (gs.set i A ++ [B]) := by
 obtain ⟨h1, h2⟩ := grp_perm hi A
 unfold SatG
 rw [List.flatten_append, List.flatten_singleton]
 have h3 := Sat.perm h h1
 rw [List.append_assoc] at h3
 refine Sat.perm h3 ?_
 refine (List.Perm.append_left A List.perm_append_comm).trans ?_
 rw [<- List.append_assoc]
 exact h2.symm.append_right B
theorem SatG.addNil (h : SatG w base gs) (E : Nat) : SatG w base (gs ++ [[.que E (.slice none 0 0) []]]) := by
 unfold SatG
 rw [List.flatten_append, List.flatten_singleton]
 exact (Sat.addNil h E).perm (List.perm_append_comm (l₁ := [Ck.que E (.slice none 0 0) []]))
theorem SatG.addNo (h : SatG w base gs) : SatG w base (gs ++ [[]]) := by
 unfold SatG
 rw [List.flatten_append, List.flatten_singleton, List.append_nil]
 exact h
theorem SatG.rd5 {T E p : Nat} {kv vv cv : Value} {keys vals : List ByteArray} {kids : List NT} (h : SatG w base [[.box T p #[kv, vv, cv]], [txt kv keys], [txt vv vals], [.que E cv (ptrs kids)], NT.cksL T E kids]) : Rd T w p (NT.mk p kv vv cv keys vals kids).erase := by
 refine rd_of (base := base) (E := E) (t := NT.mk p kv vv cv keys vals kids) ?_
 rw [NT.cks]
 unfold SatG at h
 simp only [List.flatten_cons, List.flatten_nil, List.cons_append, List.nil_append, List.append_nil] at h
 exact h
def sel (gs : List (List Ck)) (is : List Nat) : List (List Ck) := is.map fun i => gs.getD i []
theorem SatG.apart2 (h : SatG w base gs) {i j : Nat} (hij : i ≠ j) (hi : gs[i]? = some A) (hj : gs[j]? = some B) : ∀ a ∈ A, ∀ b ∈ B, Apart a b := by
 intro a ha b hb
 have key : ∀ {i j : Nat} {A B : List Ck}, i < j -> gs[i]? = some A -> gs[j]? = some B -> ∀ a ∈ A, ∀ b ∈ B, Apart a b := by
  intro i j A B hij hi hj a ha b hb
  have hp : gs.Pairwise fun l m => ∀ x ∈ l, ∀ y ∈ m, Apart x y := (List.pairwise_flatten.1 h.ap).2
  obtain ⟨h1, h2⟩ := List.getElem?_eq_some_iff.1 hi
  obtain ⟨h3, h4⟩ := List.getElem?_eq_some_iff.1 hj
  subst h2
  subst h4
  exact List.pairwise_iff_getElem.1 hp i j h1 h3 hij a ha b hb
 rcases Nat.lt_or_gt_of_ne hij with hlt | hlt
 ·exact key hlt hi hj a ha b hb
 ·exact Apart.symm (key hlt hj hi b hb a ha)
theorem getD_at {i : Nat} {c : Ck} (h : c ∈ gs.getD i []) : ∃ g, gs[i]? = some g /\ c ∈ g := by
 rw [List.getD_eq_getElem?_getD] at h
 cases hg : gs[i]? with
 | none => rw [hg] at h; cases h
 | some g => rw [hg] at h; exact ⟨g, rfl, h⟩
theorem SatG.sel (h : SatG w base gs) (is : List Nat) (hn : is.Nodup) : SatG w base (sel gs is) := by
 refine ⟨fun c hc => ?_, List.pairwise_flatten.2 ⟨fun g hg => ?_, ?_⟩⟩
 ·obtain ⟨g, hg, hcg⟩ := List.mem_flatten.1 hc
  obtain ⟨i, _, rfl⟩ := List.mem_map.1 hg
  obtain ⟨g, hi, hcg⟩ := getD_at hcg
  exact (h.at i hi).ok c hcg
 ·obtain ⟨i, _, rfl⟩ := List.mem_map.1 hg
  cases hi : gs[i]? with
  | none =>
   rw [List.getD_eq_getElem?_getD, hi]
   exact .nil
  | some g =>
   rw [List.getD_eq_getElem?_getD, hi]
   exact (h.at i hi).ap
 ·unfold Tree.sel
  rw [List.pairwise_map]
  refine hn.imp fun {i j} hij a ha b hb => ?_
  obtain ⟨g, hi, hag⟩ := getD_at ha
  obtain ⟨g', hj, hbg⟩ := getD_at hb
  exact h.apart2 hij hi hj a hag b hbg
end
abbrev a0_ (g : Nat) : Option Addr := some ⟨g, 0, none⟩
abbrev tz_ (A : Option Addr) (c : Nat) (l : List ByteArray) : List Ck := [txt (.slice A l.length c) l]
abbrev ty_ (A : Option Addr) (n c : Nat) (l : List ByteArray) : List Ck := [txt (.slice A n c) l]
abbrev qz_ (t : Nat) (A : Option Addr) (c : Nat) (l : List NT) : List Ck := [.que t (.slice A l.length c) (ptrs l)]
abbrev qy_ (t : Nat) (A : Option Addr) (n c : Nat) (l : List NT) : List Ck := [.que t (.slice A n c) (ptrs l)]
abbrev bx_ (t p : Nat) (A : Option Addr) (a c : Nat) (B : Option Addr) (b d : Nat) (C : Option Addr) (e f : Nat) : List Ck := [.box t p #[.slice A a c, .slice B b d, .slice C e f]]
theorem ns_ {w : World} {base : Nat} {gs gs' : List (List Ck)} (h : SatG w base gs) (e : gs = gs' := by (try simp only [sel, List.map_cons, List.map_nil, List.getElem?_cons_succ, List.getElem?_cons_zero, List.getD_cons_succ, List.getD_cons_zero, Option.getD_some, List.set_cons_zero, List.set_cons_succ, List.cons_append, List.nil_append]); rfl) : SatG w base gs' := e ▸ h
theorem nm_ {w : World} {base : Nat} {gs gs' : List (List Ck)} (h : SatG w base gs) (e : gs = gs' := by (try simp only [sel, List.map_cons, List.map_nil, List.getElem?_cons_succ, List.getElem?_cons_zero, List.getD_cons_succ, List.getD_cons_zero, Option.getD_some, List.set_cons_zero, List.set_cons_succ, List.cons_append, List.nil_append]); rfl) : Aside0 (SatG w base gs') := ⟨e ▸ h⟩
end Go.Proofs.Ytoddejmlcnbdmaa.Tree
namespace Go.Proofs.Ytoddejmlcnbdmaa.Fn
def spec_l5Insert.f (l0 : List ByteArray) (a1 : Int) (a2 : ByteArray) : Option (List ByteArray) := (some (([] : List ByteArray) : List ByteArray)).bind fun y223 => (if 0 <= a1 then (if a1 <= (l0.length : Int) then (if y223.length + (l0.take (a1 : Int).toNat).length < 8796093022208 then ((some (y223 ++ (l0.take (a1 : Int).toNat) : List ByteArray)).bind fun y227 => (if y227.length < 8796093022208 then ((some (y227 ++ [a2] : List ByteArray)).bind fun y230 => (if y230.length + (l0.drop (a1 : Int).toNat).length < 8796093022208 then (some (y230 ++ (l0.drop (a1 : Int).toNat))) else (none))) else (none))) else (none)) else (none)) else (none))
theorem spec_l5Insert.calls (A0 : Option Addr) (c0 : Nat) (l0 : List ByteArray) (a1 : Int) (a2 : ByteArray) (r : List ByteArray) (w : World) (hr0 : Kd.C Kd.string w A0 l0.length l0) (hc0 : l0.length <= c0) (h : spec_l5Insert.f l0 a1 a2 = some r) :
  Calls Try.prog 124 #[.slice A0 l0.length c0, .int .i64 a1, .string a2] w fun e w' => ∃ v0_ : Value, e = .returned (v0_) /\ Kd.R Kd.string 9 w' w.heap.size (fun _ => True) v0_ r /\ Below w.heap.size w w' := by
 have HR0 := A_ hr0
 have HC0 := A_ hc0
 clear hr0 hc0
 have HB := A_ (Below.refl w.heap.size w)
 have H : ((some (([] : List ByteArray) : List ByteArray)).bind fun y223 => (if 0 <= a1 then (if a1 <= (l0.length : Int) then (if y223.length + (l0.take (a1 : Int).toNat).length < 8796093022208 then ((some (y223 ++ (l0.take (a1 : Int).toNat) : List ByteArray)).bind fun y227 => (if y227.length < 8796093022208 then ((some (y227 ++ [a2] : List ByteArray)).bind fun y230 => (if y230.length + (l0.drop (a1 : Int).toNat).length < 8796093022208 then (some (y230 ++ (l0.drop (a1 : Int).toNat))) else (none))) else (none))) else (none)) else (none)) else (none))) = some r := h
 clear h
 obtain ⟨y223, hy223⟩ : ∃ y_ : List ByteArray, y_ = (([] : List ByteArray)) := ⟨_, rfl⟩
 replace H : (if 0 <= a1 then (if a1 <= (l0.length : Int) then (if y223.length + (l0.take (a1 : Int).toNat).length < 8796093022208 then ((some (y223 ++ (l0.take (a1 : Int).toNat) : List ByteArray)).bind fun y227 => (if y227.length < 8796093022208 then ((some (y227 ++ [a2] : List ByteArray)).bind fun y230 => (if y230.length + (l0.drop (a1 : Int).toNat).length < 8796093022208 then (some (y230 ++ (l0.drop (a1 : Int).toNat))) else (none))) else (none))) else (none)) else (none)) else (none)) = some r := by first | (rw [hy223]; with_reducible exact H) | (have H2_ := (Option.bind_some _ _).symm.trans H; rw [hy223]; with_reducible exact H2_) | (have H2_ := (Option.bind_some _ _).symm.trans H; with_reducible exact H2_) | with_reducible exact H | (rw [hy223]; exact H) | exact H
 have Ny223 := A_ hy223
 clear hy223
 by_cases c4 : 0 <= a1
 ·rw [if_pos c4] at H
  have c4b0 := eq_true c4
  have c4b1 : decide (0 <= a1) = true := decide_eq_true c4
  clear c4
  by_cases c5 : a1 <= (l0.length : Int)
  ·rw [if_pos c5] at H
   have c5b0 := eq_true c5
   have c5b1 : decide (a1 <= (l0.length : Int)) = true := decide_eq_true c5
   clear c5
   by_cases c6 : y223.length + (l0.take (a1 : Int).toNat).length < 8796093022208
   ·rw [if_pos c6] at H
    have LMc6 := A_ c6
    clear c6
    obtain ⟨y227, hy227⟩ : ∃ y_ : List ByteArray, y_ = (y223 ++ (l0.take (a1 : Int).toNat)) := ⟨_, rfl⟩
    replace H : (if y227.length < 8796093022208 then ((some (y227 ++ [a2] : List ByteArray)).bind fun y230 => (if y230.length + (l0.drop (a1 : Int).toNat).length < 8796093022208 then (some (y230 ++ (l0.drop (a1 : Int).toNat))) else (none))) else (none)) = some r := by first | (rw [hy227]; with_reducible exact H) | (have H2_ := (Option.bind_some _ _).symm.trans H; rw [hy227]; with_reducible exact H2_) | (have H2_ := (Option.bind_some _ _).symm.trans H; with_reducible exact H2_) | with_reducible exact H | (rw [hy227]; exact H) | exact H
    have Ny227 := A_ hy227
    clear hy227
    by_cases c7 : y227.length < 8796093022208
    ·rw [if_pos c7] at H
     have LMc7 := A_ c7
     clear c7
     obtain ⟨y230, hy230⟩ : ∃ y_ : List ByteArray, y_ = (y227 ++ [a2]) := ⟨_, rfl⟩
     replace H : (if y230.length + (l0.drop (a1 : Int).toNat).length < 8796093022208 then (some (y230 ++ (l0.drop (a1 : Int).toNat))) else (none)) = some r := by first | (rw [hy230]; with_reducible exact H) | (have H2_ := (Option.bind_some _ _).symm.trans H; rw [hy230]; with_reducible exact H2_) | (have H2_ := (Option.bind_some _ _).symm.trans H; with_reducible exact H2_) | with_reducible exact H | (rw [hy230]; exact H) | exact H
     have Ny230 := A_ hy230
     clear hy230
     have c8b0 := eq_true (of_decide_eq_true as_ : 0 <= a1)
     have c9b0 := eq_true (of_decide_eq_true as_ : a1 <= (l0.length : Int))
     by_cases c10 : y230.length + (l0.drop (a1 : Int).toNat).length < 8796093022208
     ·rw [if_pos c10] at H
      have LMc10 := A_ c10
      clear c10
      obtain ⟨y234, hy234⟩ : ∃ y_ : List ByteArray, y_ = (y230 ++ (l0.drop (a1 : Int).toNat)) := ⟨_, rfl⟩
      replace H : (some y234) = some r := by first | (rw [hy234]; with_reducible exact H) | (have H2_ := (Option.bind_some _ _).symm.trans H; rw [hy234]; with_reducible exact H2_) | (have H2_ := (Option.bind_some _ _).symm.trans H; with_reducible exact H2_) | with_reducible exact H | (rw [hy234]; exact H) | exact H
      have Ny234 := A_ hy234
      clear hy234
      obtain rfl := Option.some.inj H
      go_enter Try.func124, Try.ntmps124
      go_wp2_with (first | ((with_reducible refine gate_dst (N := 8) rfl ?_); refine Kd.R_lit Kd.string _ 9 ?hg (N := 8) ?hd (xs := ([] : List ByteArray)) (inner := []) (ok := fun _ => True) (okp := fun _ => True) ?hr ?hp (fun _ hk => hk) trivial (Below.refl _ _) (Nat.le_refl _) (by simp) ?_; (case hd => rfl); (case hg => rfl); (case hr => first | (go_simp; done) | (go_simp; rfl)); (case hp => exact (Reps.none _ _)); intro v224 w11 ho12 hb hg_ hnew_; clear hg_ hnew_; (first | rw [<- Ny223.out] at ho12 | (simp only [Int.reduceToNat] at ho12; rw [<- Ny223.out] at ho12)); have n0_ := A_ (Kd.R_lower ho12 (bw_ HB.out)); have n1_ := A_ (bs_ HB.out hb); clear HB; have HO225 := n0_; have HB := n1_; clear n0_ n1_; clear hb ho12; obtain ⟨i013, hi013, _, hsz13, _⟩ := info_parts info9; obtain ⟨hcut13, hA13, hC13⟩ := print_take_of (P := Try.prog) Value.string (⟨#[]⟩ : ByteArray) 38 9 .i64 Try.underlying38 hi013 hsz13 A0 c0 l0 a1 (of_decide_eq_true as_) (of_decide_eq_true as_) HC0.out; have HR226 := A_ (Kd.C_of_reads (h1 := fun _ => rfl) (hA13 _ (Kd.reads_of_C HR0.out))); have HC226 := A_ hC13; clear hA13 hC13 hi013 hsz13) | ((with_reducible refine gate_builtin (b := .append) (xs := #[.tmp 8, .tmp 11]) rfl ?_); at_builtin; refine Kd.R_append_rows Kd.string (w0 := w) w.heap.size rfl (.tmp 8) (.tmp 11) 38 9 (.string ⟨#[]⟩) 16 rfl Try.underlying38 info9 rfl (by decide) (by omega) v224 y223 (l0.take (a1 : Int).toNat) _ _ _ (fun _ => True) (fun _ => False) rfl rfl ?aO ?aR (fun _ _ h => h) (fun _ h => h.elim) ?aF ?aB ?aS ?aL ?_; (case aR => first | (have h9_ := (show (l0.take (a1 : Int).toNat).length = a1.toNat from (by rw [List.length_take]; have h_ : (a1 : Int) <= (l0.length : Int) := of_decide_eq_true as_; omega)); have h8_ := (Kd.C_below HR226.out HB.out); rw [h9_] at h8_; exact h8_) | (rw [<- show (l0.take (a1 : Int).toNat).length = a1.toNat from (by rw [List.length_take]; have h_ : (a1 : Int) <= (l0.length : Int) := of_decide_eq_true as_; omega)]; repeat (first | exact (Kd.C_below HR226.out HB.out) | (with_reducible refine Kd.C_alloc ?_ _) | (with_reducible refine Kd.C_drewN ?_ _) | (with_reducible refine Kd.C_drew ?_))) | (repeat (first | exact (Kd.C_below HR226.out HB.out) | (with_reducible refine Kd.C_alloc ?_ _) | (with_reducible refine Kd.C_drewN ?_ _) | (with_reducible refine Kd.C_drew ?_)))); (case aB => exact (be_ HB.out)); (case aF => exact (fun _ _ => trivial)); (case aO => exact (rk_ HO225.out)); (case aS => exact (bw_ HB.out)); (case aL => have := LMc6.out; have hlx_ := (show (l0.take (a1 : Int).toNat).length = a1.toNat from (by rw [List.length_take]; have h_ : (a1 : Int) <= (l0.length : Int) := of_decide_eq_true as_; omega)); omega); intro v228 w14 ho hb hg hat; rw [<- Ny227.out] at ho; have n0_ := A_ (hb); have n1_ := A_ (ho); clear HB; clear HO225; have HB := n0_; have HO229 := n1_; clear n0_ n1_; clear ho hb hg hat) | ((with_reducible refine gate_builtin (b := .append) (xs := #[.tmp 13, .tmp 15]) rfl ?_); at_builtin; refine Kd.R_append Kd.string (w0 := w) w.heap.size rfl (.tmp 13) (.tmp 15) 38 9 (.string ⟨#[]⟩) 16 rfl Try.underlying38 info9 rfl (by decide) (by omega) v228 y227 a2 [.string a2] (fun _ => True) (fun _ => False) rfl rfl ?aP (fun _ hk => hk.elim) ?aF ?aO ?aB ?aS ?aL ?_; (case aP => exact rfl); (case aB => exact (be_ HB.out)); (case aF => exact (fun _ _ => trivial)); (case aO => exact (rk_ HO229.out)); (case aS => exact (bw_ HB.out)); (case aL => have := LMc7.out; omega); intro v231 w15 ho hb hg hat; rw [<- Ny230.out] at ho; have n0_ := A_ (hb); have n1_ := A_ (ho); clear HB; clear HO229; have HB := n0_; have HO232 := n1_; clear n0_ n1_; clear ho hb hg hat; obtain ⟨i016, hi016, _, hsz16, _⟩ := info_parts info9; obtain ⟨A16, hcut16, hA16, hC16⟩ := print_drop_of (P := Try.prog) Value.string (⟨#[]⟩ : ByteArray) 38 9 .i64 Try.underlying38 hi016 hsz16 A0 c0 l0 a1 (of_decide_eq_true as_) (of_decide_eq_true as_) HC0.out; have HR233 := A_ (Kd.C_of_reads (h1 := fun _ => rfl) (hA16 _ (Kd.reads_of_C HR0.out))); have HC233 := A_ hC16; clear hA16 hC16 hi016 hsz16) | ((with_reducible refine gate_builtin (b := .append) (xs := #[.tmp 17, .tmp 20]) rfl ?_); at_builtin; refine Kd.R_append_rows Kd.string (w0 := w) w.heap.size rfl (.tmp 17) (.tmp 20) 38 9 (.string ⟨#[]⟩) 16 rfl Try.underlying38 info9 rfl (by decide) (by omega) v231 y230 (l0.drop (a1 : Int).toNat) _ _ _ (fun _ => True) (fun _ => False) rfl rfl ?aO ?aR (fun _ _ h => h) (fun _ h => h.elim) ?aF ?aB ?aS ?aL ?_; (case aR => first | (rw [<- show (l0.drop (a1 : Int).toNat).length = (l0.length - a1.toNat) from List.length_drop]; repeat (first | exact (Kd.C_below HR233.out HB.out) | (with_reducible refine Kd.C_alloc ?_ _) | (with_reducible refine Kd.C_drewN ?_ _) | (with_reducible refine Kd.C_drew ?_))) | (repeat (first | exact (Kd.C_below HR233.out HB.out) | (with_reducible refine Kd.C_alloc ?_ _) | (with_reducible refine Kd.C_drewN ?_ _) | (with_reducible refine Kd.C_drew ?_)))); (case aB => exact (be_ HB.out)); (case aF => exact (fun _ _ => trivial)); (case aO => exact (rk_ HO232.out)); (case aS => exact (bw_ HB.out)); (case aL => have := LMc10.out; have hlx_ := (show (l0.drop (a1 : Int).toNat).length = (l0.length - a1.toNat) from List.length_drop); omega); intro v235 w17 ho hb hg hat; rw [<- Ny234.out] at ho; have n0_ := A_ (hb); have n1_ := A_ (ho); clear HB; clear HO232; have HB := n0_; have HO236 := n1_; clear n0_ n1_; clear ho hb hg hat))
      go_ret
      exact ⟨_, ew_, by (with_reducible repeat (first | apply Kd.R_alloc | apply Kd.R_drewN | apply Kd.R_drew)); exact HO236.out, by repeat (first | (with_reducible first | exact HB.out | apply below_alloc | apply pw_below_drewN | apply below_drew1) | exact HB.out)⟩
     ·rw [if_neg c10] at H
      exact absurd H (by simp)
    ·rw [if_neg c7] at H
     exact absurd H (by simp)
   ·rw [if_neg c6] at H
    exact absurd H (by simp)
  ·rw [if_neg c5] at H
   exact absurd H (by simp)
 ·rw [if_neg c4] at H
  exact absurd H (by simp)
end Go.Proofs.Ytoddejmlcnbdmaa.Fn
namespace Go.Proofs.Ytoddejmlcnbdmaa.Tree
open Go.Proofs.Ytoddejmlcnbdmaa.Fn
def spec_l5InsertKid.f (l0 : List Nat) (a1 : Int) (a2 : Nat) : Option (List Nat) := (some (([] : List Nat) : List Nat)).bind fun y223 => (if 0 <= a1 then (if a1 <= (l0.length : Int) then (if y223.length + (l0.take (a1 : Int).toNat).length < 8796093022208 then ((some (y223 ++ (l0.take (a1 : Int).toNat) : List Nat)).bind fun y227 => (if y227.length < 8796093022208 then ((some (y227 ++ [a2] : List Nat)).bind fun y230 => (if y230.length + (l0.drop (a1 : Int).toNat).length < 8796093022208 then (some (y230 ++ (l0.drop (a1 : Int).toNat))) else (none))) else (none))) else (none)) else (none)) else (none))
theorem spec_l5InsertKid.calls (A0 : Option Addr) (c0 : Nat) (l0 : List Nat) (a1 : Int) (a2 : Nat) (r : List Nat) (w : World) (hr0 : Kd.C kptr w A0 l0.length l0) (hc0 : l0.length <= c0) (h : spec_l5InsertKid.f l0 a1 a2 = some r) :
  Calls Try.prog 125 #[.slice A0 l0.length c0, .int .i64 a1, ptrv a2] w fun e w' => ∃ v0_ : Value, e = .returned (v0_) /\ Kd.R kptr 70 w' w.heap.size (fun _ => True) v0_ r /\ Below w.heap.size w w' := by
 have HR0 := A_ hr0
 have HC0 := A_ hc0
 clear hr0 hc0
 have HB := A_ (Below.refl w.heap.size w)
 have H : ((some (([] : List Nat) : List Nat)).bind fun y223 => (if 0 <= a1 then (if a1 <= (l0.length : Int) then (if y223.length + (l0.take (a1 : Int).toNat).length < 8796093022208 then ((some (y223 ++ (l0.take (a1 : Int).toNat) : List Nat)).bind fun y227 => (if y227.length < 8796093022208 then ((some (y227 ++ [a2] : List Nat)).bind fun y230 => (if y230.length + (l0.drop (a1 : Int).toNat).length < 8796093022208 then (some (y230 ++ (l0.drop (a1 : Int).toNat))) else (none))) else (none))) else (none)) else (none)) else (none))) = some r := h
 clear h
 obtain ⟨y223, hy223⟩ : ∃ y_ : List Nat, y_ = (([] : List Nat)) := ⟨_, rfl⟩
 replace H : (if 0 <= a1 then (if a1 <= (l0.length : Int) then (if y223.length + (l0.take (a1 : Int).toNat).length < 8796093022208 then ((some (y223 ++ (l0.take (a1 : Int).toNat) : List Nat)).bind fun y227 => (if y227.length < 8796093022208 then ((some (y227 ++ [a2] : List Nat)).bind fun y230 => (if y230.length + (l0.drop (a1 : Int).toNat).length < 8796093022208 then (some (y230 ++ (l0.drop (a1 : Int).toNat))) else (none))) else (none))) else (none)) else (none)) else (none)) = some r := by first | (rw [hy223]; with_reducible exact H) | (have H2_ := (Option.bind_some _ _).symm.trans H; rw [hy223]; with_reducible exact H2_) | (have H2_ := (Option.bind_some _ _).symm.trans H; with_reducible exact H2_) | with_reducible exact H | (rw [hy223]; exact H) | exact H
 have Ny223 := A_ hy223
 clear hy223
 by_cases c4 : 0 <= a1
 ·rw [if_pos c4] at H
  have c4b0 := eq_true c4
  have c4b1 : decide (0 <= a1) = true := decide_eq_true c4
  clear c4
  by_cases c5 : a1 <= (l0.length : Int)
  ·rw [if_pos c5] at H
   have c5b0 := eq_true c5
   have c5b1 : decide (a1 <= (l0.length : Int)) = true := decide_eq_true c5
   clear c5
   by_cases c6 : y223.length + (l0.take (a1 : Int).toNat).length < 8796093022208
   ·rw [if_pos c6] at H
    have LMc6 := A_ c6
    clear c6
    obtain ⟨y227, hy227⟩ : ∃ y_ : List Nat, y_ = (y223 ++ (l0.take (a1 : Int).toNat)) := ⟨_, rfl⟩
    replace H : (if y227.length < 8796093022208 then ((some (y227 ++ [a2] : List Nat)).bind fun y230 => (if y230.length + (l0.drop (a1 : Int).toNat).length < 8796093022208 then (some (y230 ++ (l0.drop (a1 : Int).toNat))) else (none))) else (none)) = some r := by first | (rw [hy227]; with_reducible exact H) | (have H2_ := (Option.bind_some _ _).symm.trans H; rw [hy227]; with_reducible exact H2_) | (have H2_ := (Option.bind_some _ _).symm.trans H; with_reducible exact H2_) | with_reducible exact H | (rw [hy227]; exact H) | exact H
    have Ny227 := A_ hy227
    clear hy227
    by_cases c7 : y227.length < 8796093022208
    ·rw [if_pos c7] at H
     have LMc7 := A_ c7
     clear c7
     obtain ⟨y230, hy230⟩ : ∃ y_ : List Nat, y_ = (y227 ++ [a2]) := ⟨_, rfl⟩
     replace H : (if y230.length + (l0.drop (a1 : Int).toNat).length < 8796093022208 then (some (y230 ++ (l0.drop (a1 : Int).toNat))) else (none)) = some r := by first | (rw [hy230]; with_reducible exact H) | (have H2_ := (Option.bind_some _ _).symm.trans H; rw [hy230]; with_reducible exact H2_) | (have H2_ := (Option.bind_some _ _).symm.trans H; with_reducible exact H2_) | with_reducible exact H | (rw [hy230]; exact H) | exact H
     have Ny230 := A_ hy230
     clear hy230
     have c8b0 := eq_true (of_decide_eq_true as_ : 0 <= a1)
     have c9b0 := eq_true (of_decide_eq_true as_ : a1 <= (l0.length : Int))
     by_cases c10 : y230.length + (l0.drop (a1 : Int).toNat).length < 8796093022208
     ·rw [if_pos c10] at H
      have LMc10 := A_ c10
      clear c10
      obtain ⟨y234, hy234⟩ : ∃ y_ : List Nat, y_ = (y230 ++ (l0.drop (a1 : Int).toNat)) := ⟨_, rfl⟩
      replace H : (some y234) = some r := by first | (rw [hy234]; with_reducible exact H) | (have H2_ := (Option.bind_some _ _).symm.trans H; rw [hy234]; with_reducible exact H2_) | (have H2_ := (Option.bind_some _ _).symm.trans H; with_reducible exact H2_) | with_reducible exact H | (rw [hy234]; exact H) | exact H
      have Ny234 := A_ hy234
      clear hy234
      obtain rfl := Option.some.inj H
      go_enter Try.func125, Try.ntmps125
      go_wp2_with (first | ((with_reducible refine gate_dst (N := 8) rfl ?_); refine Kd.R_lit kptr _ 70 ?hg (N := 8) ?hd (xs := ([] : List Nat)) (inner := []) (ok := fun _ => True) (okp := fun _ => True) ?hr ?hp (fun _ hk => hk) trivial (Below.refl _ _) (Nat.le_refl _) (by simp) ?_; (case hd => rfl); (case hg => rfl); (case hr => first | (go_simp; done) | (go_simp; rfl)); (case hp => exact (Reps.none _ _)); intro v224 w11 ho12 hb hg_ hnew_; clear hg_ hnew_; (first | rw [<- Ny223.out] at ho12 | (simp only [Int.reduceToNat] at ho12; rw [<- Ny223.out] at ho12)); have n0_ := A_ (Kd.R_lower ho12 (bw_ HB.out)); have n1_ := A_ (bs_ HB.out hb); clear HB; have HO225 := n0_; have HB := n1_; clear n0_ n1_; clear hb ho12; obtain ⟨i013, hi013, _, hsz13, _⟩ := info_parts info70; obtain ⟨hcut13, hA13, hC13⟩ := print_take_of (P := Try.prog) ptrv (0 : Nat) 94 70 .i64 under94 hi013 hsz13 A0 c0 l0 a1 (of_decide_eq_true as_) (of_decide_eq_true as_) HC0.out; have HR226 := A_ (Kd.C_of_reads (h1 := fun _ => rfl) (hA13 _ (Kd.reads_of_C HR0.out))); have HC226 := A_ hC13; clear hA13 hC13 hi013 hsz13) | ((with_reducible refine gate_builtin (b := .append) (xs := #[.tmp 8, .tmp 11]) rfl ?_); at_builtin; refine Kd.R_append_rows kptr (w0 := w) w.heap.size rfl (.tmp 8) (.tmp 11) 94 70 (.pointer none) 8 rfl under94 info70 rfl (by decide) (by omega) v224 y223 (l0.take (a1 : Int).toNat) _ _ _ (fun _ => True) (fun _ => False) rfl rfl ?aO ?aR (fun _ _ h => h) (fun _ h => h.elim) ?aF ?aB ?aS ?aL ?_; (case aR => first | (have h9_ := (show (l0.take (a1 : Int).toNat).length = a1.toNat from (by rw [List.length_take]; have h_ : (a1 : Int) <= (l0.length : Int) := of_decide_eq_true as_; omega)); have h8_ := (Kd.C_below HR226.out HB.out); rw [h9_] at h8_; exact h8_) | (rw [<- show (l0.take (a1 : Int).toNat).length = a1.toNat from (by rw [List.length_take]; have h_ : (a1 : Int) <= (l0.length : Int) := of_decide_eq_true as_; omega)]; repeat (first | exact (Kd.C_below HR226.out HB.out) | (with_reducible refine Kd.C_alloc ?_ _) | (with_reducible refine Kd.C_drewN ?_ _) | (with_reducible refine Kd.C_drew ?_))) | (repeat (first | exact (Kd.C_below HR226.out HB.out) | (with_reducible refine Kd.C_alloc ?_ _) | (with_reducible refine Kd.C_drewN ?_ _) | (with_reducible refine Kd.C_drew ?_)))); (case aB => exact (be_ HB.out)); (case aF => exact (fun _ _ => trivial)); (case aO => exact (rk_ HO225.out)); (case aS => exact (bw_ HB.out)); (case aL => have := LMc6.out; have hlx_ := (show (l0.take (a1 : Int).toNat).length = a1.toNat from (by rw [List.length_take]; have h_ : (a1 : Int) <= (l0.length : Int) := of_decide_eq_true as_; omega)); omega); intro v228 w14 ho hb hg hat; rw [<- Ny227.out] at ho; have n0_ := A_ (hb); have n1_ := A_ (ho); clear HB; clear HO225; have HB := n0_; have HO229 := n1_; clear n0_ n1_; clear ho hb hg hat) | ((with_reducible refine gate_builtin (b := .append) (xs := #[.tmp 13, .tmp 15]) rfl ?_); at_builtin; refine Kd.R_append kptr (w0 := w) w.heap.size rfl (.tmp 13) (.tmp 15) 94 70 (.pointer none) 8 rfl under94 info70 rfl (by decide) (by omega) v228 y227 a2 [ptrv a2] (fun _ => True) (fun _ => False) rfl rfl ?aP (fun _ hk => hk.elim) ?aF ?aO ?aB ?aS ?aL ?_; (case aP => exact rfl); (case aB => exact (be_ HB.out)); (case aF => exact (fun _ _ => trivial)); (case aO => exact (rk_ HO229.out)); (case aS => exact (bw_ HB.out)); (case aL => have := LMc7.out; omega); intro v231 w15 ho hb hg hat; rw [<- Ny230.out] at ho; have n0_ := A_ (hb); have n1_ := A_ (ho); clear HB; clear HO229; have HB := n0_; have HO232 := n1_; clear n0_ n1_; clear ho hb hg hat; obtain ⟨i016, hi016, _, hsz16, _⟩ := info_parts info70; obtain ⟨A16, hcut16, hA16, hC16⟩ := print_drop_of (P := Try.prog) ptrv (0 : Nat) 94 70 .i64 under94 hi016 hsz16 A0 c0 l0 a1 (of_decide_eq_true as_) (of_decide_eq_true as_) HC0.out; have HR233 := A_ (Kd.C_of_reads (h1 := fun _ => rfl) (hA16 _ (Kd.reads_of_C HR0.out))); have HC233 := A_ hC16; clear hA16 hC16 hi016 hsz16) | ((with_reducible refine gate_builtin (b := .append) (xs := #[.tmp 17, .tmp 20]) rfl ?_); at_builtin; refine Kd.R_append_rows kptr (w0 := w) w.heap.size rfl (.tmp 17) (.tmp 20) 94 70 (.pointer none) 8 rfl under94 info70 rfl (by decide) (by omega) v231 y230 (l0.drop (a1 : Int).toNat) _ _ _ (fun _ => True) (fun _ => False) rfl rfl ?aO ?aR (fun _ _ h => h) (fun _ h => h.elim) ?aF ?aB ?aS ?aL ?_; (case aR => first | (rw [<- show (l0.drop (a1 : Int).toNat).length = (l0.length - a1.toNat) from List.length_drop]; repeat (first | exact (Kd.C_below HR233.out HB.out) | (with_reducible refine Kd.C_alloc ?_ _) | (with_reducible refine Kd.C_drewN ?_ _) | (with_reducible refine Kd.C_drew ?_))) | (repeat (first | exact (Kd.C_below HR233.out HB.out) | (with_reducible refine Kd.C_alloc ?_ _) | (with_reducible refine Kd.C_drewN ?_ _) | (with_reducible refine Kd.C_drew ?_)))); (case aB => exact (be_ HB.out)); (case aF => exact (fun _ _ => trivial)); (case aO => exact (rk_ HO232.out)); (case aS => exact (bw_ HB.out)); (case aL => have := LMc10.out; have hlx_ := (show (l0.drop (a1 : Int).toNat).length = (l0.length - a1.toNat) from List.length_drop); omega); intro v235 w17 ho hb hg hat; rw [<- Ny234.out] at ho; have n0_ := A_ (hb); have n1_ := A_ (ho); clear HB; clear HO232; have HB := n0_; have HO236 := n1_; clear n0_ n1_; clear ho hb hg hat))
      go_ret
      exact ⟨_, ew_, by (with_reducible repeat (first | apply Kd.R_alloc | apply Kd.R_drewN | apply Kd.R_drew)); exact HO236.out, by repeat (first | (with_reducible first | exact HB.out | apply below_alloc | apply pw_below_drewN | apply below_drew1) | exact HB.out)⟩
     ·rw [if_neg c10] at H
      exact absurd H (by simp)
    ·rw [if_neg c7] at H
     exact absurd H (by simp)
   ·rw [if_neg c6] at H
    exact absurd H (by simp)
  ·rw [if_neg c5] at H
   exact absurd H (by simp)
 ·rw [if_neg c4] at H
  exact absurd H (by simp)
open Go.Proofs.Ytoddejmlcnbdmaa.Fn
def insAt {α : Type} (l : List α) (i : Nat) (x : α) : List α := l.take i ++ x :: l.drop i
theorem insAt_len {α : Type} {l : List α} {i : Nat} (x : α) (h : i <= l.length) : (insAt l i x).length = l.length + 1 := by
 unfold insAt
 rw [List.length_append, List.length_cons, List.length_take, List.length_drop]
 omega
theorem insAt_map {α β : Type} (f : α -> β) (l : List α) (i : Nat) (x : α) : (insAt l i x).map f = insAt (l.map f) i (f x) := by
 unfold insAt
 rw [List.map_append, List.map_cons, List.map_take, List.map_drop]
theorem l5Insert_f {l : List ByteArray} {i : Nat} (x : ByteArray) (h : i <= l.length) (hl : l.length <= 1000000000000) : spec_l5Insert.f l (i : Int) x = some (insAt l i x) := by
 unfold spec_l5Insert.f insAt
 simp only [Option.bind_some, Int.toNat_natCast, List.length_nil, List.nil_append, List.length_take, List.length_drop, List.length_append, List.length_singleton, List.length_cons]
 rw [if_pos (by omega), if_pos (by omega), if_pos (by omega), if_pos (by omega), if_pos (by omega)]
 simp
theorem l5InsertKid_f {l : List Nat} {i : Nat} (x : Nat) (h : i <= l.length) (hl : l.length <= 1000000000000) : spec_l5InsertKid.f l (i : Int) x = some (insAt l i x) := by
 unfold spec_l5InsertKid.f insAt
 simp only [Option.bind_some, Int.toNat_natCast, List.length_nil, List.nil_append, List.length_take, List.length_drop, List.length_append, List.length_singleton, List.length_cons]
 rw [if_pos (by omega), if_pos (by omega), if_pos (by omega), if_pos (by omega), if_pos (by omega)]
 simp
theorem insKid_n (A : Option Addr) (c : Nat) (l : List Nat) (i x n : Nat) (w : World) (hn : n = l.length) (hr : kptr.C w A n l) (hc : n <= c) (hi : i + 1 <= l.length) (hl : l.length <= 1000000000000) :
  Calls Try.prog 125 #[.slice A n c, .int .i64 ((i : Int) + 1), ptrv x] w fun e w' => ∃ v0_ : Value, e = .returned (v0_) /\ kptr.R 70 w' w.heap.size (fun _ => True) v0_ (insAt l (i + 1) x) /\ Below w.heap.size w w' := by
 subst hn
 exact spec_l5InsertKid.calls A c l ((i + 1 : Nat) : Int) x _ w hr hc (l5InsertKid_f x hi hl)
def splitK (t k : PT) (i : Nat) : PT :=
 .mk (insAt t.keys i (k.keys.getD 2 ByteArray.empty)) (insAt t.vals i (k.vals.getD 2 ByteArray.empty)) (insAt (t.kids.set i (.mk (k.keys.take 2) (k.vals.take 2) (k.kids.take 3))) (i + 1) (.mk (k.keys.drop 3) (k.vals.drop 3) (k.kids.drop 3)))
theorem ins_set {α : Type} {l : List α} {i : Nat} {x x' y : α} (h : l[i]? = some x) : insAt (l.set i x') (i + 1) y = l.take i ++ (x' :: (y :: l.drop (i + 1))) := by
 have hl : i < l.length := (List.getElem?_eq_some_iff.1 h).1
 unfold insAt
 rw [List.take_add_one, List.getElem?_set_self hl, List.take_set_of_le (Nat.le_refl _), List.drop_set_of_lt (Nat.lt_succ_self _)]
 simp
theorem cksL_ins {T E : Nat} {l : List NT} {i : Nat} {k k' r' : NT} (h : l[i]? = some k) : NT.cksL T E (insAt (l.set i k') (i + 1) r') = NT.cksL T E (l.take i) ++ (k'.cks T E ++ (r'.cks T E ++ NT.cksL T E (l.drop (i + 1)))) := by
 rw [ins_set h, cksL_append, NT.cksL, NT.cksL]
theorem eraseL_ins {l : List NT} {i : Nat} {k' r' : NT} : NT.eraseL (insAt (l.set i k') (i + 1) r') = insAt ((NT.eraseL l).set i k'.erase) (i + 1) r'.erase := by
 rw [eraseL_map, insAt_map, List.map_set, <- eraseL_map]
section
variable {w : World} {base T E : Nat} {L : List Ck}
def kidGs (T E : Nat) (t k : NT) (i : Nat) (L : List Ck) : List (List Ck) :=
 [[.box T t.p #[t.kv, t.vv, t.cv]], [txt t.kv t.keys], [txt t.vv t.vals], [.que E t.cv (ptrs t.kids)], NT.cksL T E (t.kids.take i),
   [.box T k.p #[k.kv, k.vv, k.cv]], [txt k.kv k.keys], [txt k.vv k.vals], [.que E k.cv (ptrs k.kids)], NT.cksL T E k.kids, NT.cksL T E (t.kids.drop (i + 1)), L]
theorem kidGs_flat {t k : NT} {i : Nat} (h : t.kids[i]? = some k) : (kidGs T E t k i L).flatten = t.cks T E ++ L := by
 rw [NT.cks_eq, cksL_kid T E h, NT.cks_eq T E k]
 unfold kidGs NT.head
 simp only [List.flatten_cons, List.flatten_nil, List.append_assoc, List.cons_append, List.nil_append, List.append_nil]
theorem open_kid {t k : NT} {i : Nat} (h : t.kids[i]? = some k) (hs : Sat w base (t.cks T E ++ L)) : SatG w base (kidGs T E t k i L) := by
 unfold SatG
 rw [kidGs_flat h]
 exact hs
end
end Go.Proofs.Ytoddejmlcnbdmaa.Tree

