/- The law FnPhrases holds of the given program: at every input it answers true and leaves its arguments as they were; no condition. This text: part 1 of what its proof reaches. -/
import Derived.Test.YtcopakljdenolaaProg
import Derived.Below
import Derived.Deep.Draws
import Derived.Deep.AppendLies
import Derived.Maps.AppendAt
import Derived.OwnWalk
import Derived.Laws.BytesArg
import Derived.Laws.MakeOwn
import Derived.Laws.OwnMore
import Derived.Deep.OwnRows
import Derived.Tactics
import Derived.Lib.ConvBytes
import Derived.Laws.Slices
import Derived.WalkKit
import Derived.KernelRfl
import Derived.RowKit3
import Derived.Deep.LoopGhost
import Derived.Deep.QuietTactic
import Derived.BigQuiet
import Derived.WideLaws
import Derived.Deep.DeepCutAuto
import Derived.Deep.CutBlock
import Derived.Deep.RegionHeld3
import Derived.Laws.Rows
import Derived.Lib.AppendStr
import Derived.ArgAppend
import Derived.Laws.IdiomCopy
import Derived.OrdersHeld
import Derived.Laws.BitsLemmas
import Derived.Laws.Cover1
import Derived.Laws.Strings
import Derived.RowKit
import Derived.Test.YtcopakljdenolaaQWWords
import Derived.Test.YtcopakljdenolaaQWLast
import Derived.Test.YtcopakljdenolaaQWTab
import Derived.Test.YtcopakljdenolaaQWFour
import Derived.Test.YtcopakljdenolaaQWQPut
import Derived.Test.YtcopakljdenolaaQWApart
import Derived.Test.YtcopakljdenolaaQWArr
import Derived.Test.YtcopakljdenolaaQWZeros
import Derived.Test.YtcopakljdenolaaQWFoot
import Derived.Test.YtcopakljdenolaaQWKept
import Derived.Test.YtcopakljdenolaaQWShare
import Derived.Test.YtcopakljdenolaaQWN
import Derived.Test.YtcopakljdenolaaQWFootNe
import Derived.Test.YtcopakljdenolaaQWAt
import Derived.Test.YtcopakljdenolaaQWEqStruct
import Derived.Test.YtcopakljdenolaaQWRepsOne
import Derived.Test.YtcopakljdenolaaQWInv
import Derived.Test.YtcopakljdenolaaQWInvWords
import Derived.Test.YtcopakljdenolaaQWGuard
import Derived.Test.YtcopakljdenolaaQWNEv
import Derived.Test.YtcopakljdenolaaQWMore
import Derived.Lib.SliceRun
set_option maxHeartbeats 8000000
set_option maxRecDepth 100000
set_option linter.unusedVariables false
set_option linter.unusedSimpArgs false
open Go.RowKit Go.Proofs.YtcopakljdenolaaW.PrintWords Go.Proofs.YtcopakljdenolaaW.PrintLast Go.Proofs.YtcopakljdenolaaW.PrintMore
attribute [local go_sem] max2_int min2_int max_two min_two max_three min_three max_four min_four   -- for this text's walks alone
namespace Go.Proofs.Ytcopakljdenolaa.Fn
def errW : Option Int -> Value
  | none => .nilIface
  | some c => .iface 0 (.int .i64 c)
theorem errW_none : errW none = .nilIface := rfl
theorem errW_some (c : Int) : errW (some c) = .iface 0 (.int .i64 c) := rfl
theorem ew_ {p : Prop} (h : p := by first | rfl | (simp [errW_none, errW_some] <;> rfl) | (simp [*, errW_none, errW_some] <;> rfl)) : p := h
theorem info3 : (Try.prog.info? 3).map (fun i => (i.zero, i.size, i.bytes)) = some (some (.int .i64 0), 1, 8) := by kernel_rfl
theorem info5 : (Try.prog.info? 5).map (fun i => (i.zero, i.size, i.bytes)) = some (some (.int .u8 0), 1, 1) := by kernel_rfl
theorem info9 : (Try.prog.info? 9).map (fun i => (i.zero, i.size, i.bytes)) = some (some (.string ⟨#[]⟩), 1, 16) := by kernel_rfl
theorem info57 : (Try.prog.info? 57).map (fun i => (i.zero, i.size, i.bytes)) = some (some (.agg #[(.int .i64 0), (.slice none 0 0)]), 2, 32) := by kernel_rfl
def rd_L3 (xs : List (List Int)) (i : Int) : (List Int) := xs.getD i.toNat ([] : List Int)
structure S57 where
  f0 : Int
  f1 : (List Int)
def z57 : S57 := ⟨(0 : Int), ([] : List Int)⟩
def k57 : Kd S57 := Kd.iso (Kd.pair (Kd.int .i64) (Kd.slice 3 (Kd.int .i64))) (fun x : S57 => (x.f0, x.f1))
theorem k57_open {w : World} {x : S57} {cs : List Value} (h : k57.K w x cs) : ∃ A1 c1, cs = [.int .i64 x.f0, .slice A1 x.f1.length c1] /\ x.f1.length <= c1 /\ (Kd.int .i64).C w A1 x.f1.length x.f1 := by
  obtain ⟨_, _, rfl, rfl, ⟨A1, c1, rfl, l1, g1⟩⟩ := h
  exact ⟨A1, c1, rfl, l1, g1⟩
theorem k57_openM {w : World} {base : Nat} {ok : Nat -> Prop} {x : S57} {cs : List Value} (h : k57.M w base ok x cs) : ∃ v1, cs = [.int .i64 x.f0, v1] /\ (Kd.int .i64).R 3 w base ok v1 x.f1 := by
  obtain ⟨_, _, rfl, rfl, ⟨v1, rfl, g1⟩⟩ := h
  exact ⟨v1, rfl, g1⟩
theorem k57_mkM (w : World) (base : Nat) (ok : Nat -> Prop) (x : S57) {v1 : Value} (g1 : (Kd.int .i64).R 3 w base ok v1 x.f1) : k57.M w base ok x [.int .i64 x.f0, v1] := ⟨[.int .i64 x.f0], [v1], rfl, rfl, ⟨v1, rfl, g1⟩⟩
def rd_T57 (xs : List S57) (i : Int) : S57 := xs.getD i.toNat z57
theorem at_T57 {w : World} {A : Option Addr} {n : Nat} {xs : List S57} (h : Kd.C k57 w A n xs) (i : Int) (h0 : 0 <= i) (h1 : i < n) : ∃ ad A1 c1, A = some ad /\ w.cell? (ad.add (i.toNat * 2)) = some (.int .i64 (rd_T57 xs i).f0) /\ w.cell? ⟨(ad.add (i.toNat * 2)).block, (ad.add (i.toNat * 2)).off + 1, none⟩ = some (.slice A1 (rd_T57 xs i).f1.length c1) /\ (rd_T57 xs i).f1.length <= c1 /\ (Kd.int .i64).C w A1 (rd_T57 xs i).f1.length (rd_T57 xs i).f1 := by
  obtain ⟨ad, c, e, _, hK, hc0⟩ := Kd.C_get h z57 i h0 h1
  have hc : ∀ j u, c[j]? = some u -> w.cell? (ad.add (i.toNat * 2 + j)) = some u := hc0
  obtain ⟨A1, c1, rfl, l1, g1⟩ := k57_open hK
  exact ⟨ad, A1, c1, e, hc 0 _ rfl, by rw [<- add_field _ _ 1 (by omega)]; exact hc 1 _ rfl, l1, g1⟩
structure S75 where
  f0 : Int
  f1 : (List Int)
def z75 : S75 := ⟨(0 : Int), ([] : List Int)⟩
def k75 : Kd S75 := Kd.iso (Kd.pair (Kd.int .i64) (Kd.slice 3 (Kd.int .i64))) (fun x : S75 => (x.f0, x.f1))
theorem k75_open {w : World} {x : S75} {cs : List Value} (h : k75.K w x cs) : ∃ A1 c1, cs = [.int .i64 x.f0, .slice A1 x.f1.length c1] /\ x.f1.length <= c1 /\ (Kd.int .i64).C w A1 x.f1.length x.f1 := by
  obtain ⟨_, _, rfl, rfl, ⟨A1, c1, rfl, l1, g1⟩⟩ := h
  exact ⟨A1, c1, rfl, l1, g1⟩
def rd_T75 (xs : List S75) (i : Int) : S75 := xs.getD i.toNat z75
theorem at_T75 {w : World} {A : Option Addr} {n : Nat} {xs : List S75} (h : Kd.C k75 w A n xs) (i : Int) (h0 : 0 <= i) (h1 : i < n) : ∃ ad A1 c1, A = some ad /\ w.cell? (ad.add (i.toNat * 2)) = some (.int .i64 (rd_T75 xs i).f0) /\ w.cell? ⟨(ad.add (i.toNat * 2)).block, (ad.add (i.toNat * 2)).off + 1, none⟩ = some (.slice A1 (rd_T75 xs i).f1.length c1) /\ (rd_T75 xs i).f1.length <= c1 /\ (Kd.int .i64).C w A1 (rd_T75 xs i).f1.length (rd_T75 xs i).f1 := by
  obtain ⟨ad, c, e, _, hK, hc0⟩ := Kd.C_get h z75 i h0 h1
  have hc : ∀ j u, c[j]? = some u -> w.cell? (ad.add (i.toNat * 2 + j)) = some u := hc0
  obtain ⟨A1, c1, rfl, l1, g1⟩ := k75_open hK
  exact ⟨ad, A1, c1, e, hc 0 _ rfl, by rw [<- add_field _ _ 1 (by omega)]; exact hc 1 _ rfl, l1, g1⟩
def rd_L6 (xs : List (List S57)) (i : Int) : (List S57) := xs.getD i.toNat ([] : List S57)
def rd_L7 (xs : List (List S75)) (i : Int) : (List S75) := xs.getD i.toNat ([] : List S75)
def rd_L9 (xs : List (List ByteArray)) (i : Int) : (List ByteArray) := xs.getD i.toNat ([] : List ByteArray)
end Go.Proofs.Ytcopakljdenolaa.Fn
namespace Go.Proofs.Ytcopakljdenolaa.Gen
open Go.RowKit Go.Proofs.YtcopakljdenolaaW.PrintLast Go.Proofs.YtcopakljdenolaaW.PrintWords
theorem no_true {o : Option Bool} {r : Bool} (h : o = some r) (hf : o = none ∨ o = some false) (ht : r = true) : False := by
  subst ht
  rcases hf with hf | hf <;> rw [hf] at h <;> simp at h
theorem pk_ {p q : Prop} (h0 : p) (h : p -> q := by intro hh_; (with_reducible repeat (first | refine blk_drewN ?_ _ | refine blk_drew ?_ | refine blk_alloc ?_ _)); exact hh_) : q := h h0
theorem rk_ {p q : Prop} (h0 : p) (h : p -> q := by intro hh_; (with_reducible repeat (first | apply Kd.R_alloc | apply Kd.R_drewN | apply Kd.R_drew)); exact hh_) : q := h h0
theorem sk_ {p q : Prop} (h0 : p) (h : p -> q := by intro hh_; (with_reducible repeat (first | apply Kd.S_alloc | apply Kd.S_drewN | apply Kd.S_drew)); exact hh_) : q := h h0
theorem be_ {p q : Prop} (h0 : p) (h : p -> q := by intro hh_; repeat (first | (with_reducible first | exact hh_ | apply below_alloc | apply pw_below_drewN | apply below_drew1 | (refine below_set ?_ (Aside0.out ?_); rotate_left; assumption)) | exact hh_)) : q := h h0
theorem sx_ {α : Type} : (∀ (l : List α) (i : Nat) (a : α), l.toArray.setIfInBounds i a = (l.set i a).toArray) /\ (∀ (x a : α) (l : List α), (x :: l).set 0 a = a :: l) /\ (∀ (x a : α) (l : List α) (i : Nat), (x :: l).set (i + 1) a = x :: l.set i a) :=
  ⟨fun _ _ _ => by simp, fun _ _ _ => rfl, fun _ _ _ _ => rfl⟩
theorem wx_ : (∀ n : Int, IntKind.i64.wrap n = Go.RowKit.wrap64 n) /\ (∀ n : Int, IntKind.i32.wrap n = Go.RowKit.wrap32 n) := ⟨i64_w, i32_w⟩
theorem as_ {p : Prop} (h : p := by first | (with_reducible assumption) | assumption) : p := h
theorem cd_ {p q : Prop} (h0 : p) (h : p -> q := by intro hh_; repeat (first | exact hh_ | (with_reducible refine Kd.C_alloc ?_ _) | (with_reducible refine Kd.C_drewN ?_ _) | (with_reducible refine Kd.C_drew ?_))) : q := h h0
theorem ag_ {p : Prop} (h : p := by (try simp only [List.map_toArray, List.map_cons, List.map_nil]); first | done | rfl | (simp only [List.length_drop, List.length_take]; rfl)) : p := h
theorem bs_ {w w1 W W2 : World} (h0 : Below w.heap.size w w1) (hb : Below W.heap.size W W2) (h : Below w.heap.size w w1 -> Below w.heap.size w W := by intro hh_; repeat (first | (with_reducible first | exact hh_ | apply below_alloc | apply pw_below_drewN | apply below_drew1 | (refine below_set ?_ (Aside0.out ?_); rotate_left; assumption)) | exact hh_)) : Below w.heap.size w W2 := below_step (h h0) hb
theorem bw_ {w w1 W : World} (h0 : Below w.heap.size w w1) (h : Below w.heap.size w w1 -> Below w.heap.size w W := by intro hh_; repeat (first | (with_reducible first | exact hh_ | apply below_alloc | apply pw_below_drewN | apply below_drew1 | (refine below_set ?_ (Aside0.out ?_); rotate_left; assumption)) | exact hh_)) : w.heap.size <= W.heap.size := below_size (h h0)
theorem nil_str (l : List UInt8) : (!l.isEmpty) = (l != []) := by cases l <;> rfl
theorem gt_str (a b : List UInt8) : ((!Op.bytesLess a b) && (!(a == b))) = Op.bytesLess b a := by
  induction a generalizing b with
  | nil => cases b <;> rfl
  | cons x s ih =>
    cases b with
    | nil => rfl
    | cons y t =>
      have ih := ih t
      have e : ((x :: s) == (y :: t)) = ((x == y) && (s == t)) := rfl
      simp only [Op.bytesLess, e]
      rcases Nat.lt_trichotomy x.toNat y.toNat with h | h | h
      · have h1 : x < y := UInt8.lt_iff_toNat_lt.2 h
        have h2 : ¬ y < x := fun z => by have := UInt8.lt_iff_toNat_lt.1 z; omega
        have h3 : (y == x) = false := by
          rw [beq_eq_false_iff_ne]
          intro z
          rw [z] at h
          omega
        simp only [h1, h2, h3, decide_true, decide_false, Bool.true_or, Bool.not_true, Bool.false_and, Bool.false_or]
      · have h0 : x = y := UInt8.toNat_inj.1 h
        subst h0
        have h2 : ¬ x < x := fun z => by have := UInt8.lt_iff_toNat_lt.1 z; omega
        simp only [h2, decide_false, beq_self_eq_true, Bool.true_and, Bool.false_or]
        exact ih
      · have h1 : y < x := UInt8.lt_iff_toNat_lt.2 h
        have h2 : ¬ x < y := fun z => by have := UInt8.lt_iff_toNat_lt.1 z; omega
        have h3 : (x == y) = false := by
          rw [beq_eq_false_iff_ne]
          intro z
          rw [z] at h
          omega
        simp only [h1, h2, h3, decide_true, decide_false, Bool.true_or, Bool.not_false, Bool.false_and, Bool.false_or, Bool.true_and]
section
variable {P : Program} {ops : Array Oper} {Q : Exit -> Act -> World -> Prop}
theorem gateV {rest : List Oper} {o : Oper} {a : Act} {W : World} {t : Tmp} {xa : Array Operand} {ts : Array TypeId} (_ho : o.op = .call { callee := .value (.tmp t), args := xa, argTypes := ts }) (h : wpList P ops Q (o :: rest) a W) : wpList P ops Q (o :: rest) a W := h
theorem goesV_ {rest : List Oper} {oi : Oper} {a : Act} {w : World} (N : Option Tmp) (hd : oi.dst = N) (hg : oi.guard = none) {f : FuncId} {fn : Func} {t : Tmp} {xa : Array Operand} {ts : Array TypeId} (hf : P.funcs[f]? = some fn) (hname : (fn.name == "runtime.NumGoroutine") = false) (hb : fn.body.isSome = true) (args : Array Value)
    (hop : oi.op = .call { callee := .value (.tmp t), args := xa, argTypes := ts }) (hargs : xa.map a.eval = args) 
    (h : Calls P f args w fun e w' => ∃ v, e = .returned v /\ wpList P ops Q rest (a.put N v) w') (hv : a.eval (.tmp t) = .func (.func f) #[] #[] := by rfl) : wpList P ops Q (oi :: rest) a w := by
  refine wpList_plain hg fun K hK => ?_
  have he := enters_ hf hname hb args w
  have hrun : (execOp a.eval oi).run P w = .ok (.enter f args) w := by
    unfold execOp
    simp [hop, resolve, Deferred.ofValue, invoke, hv, hargs, he]
  unfold Oper.wp
  rw [hrun, Oper.upon_enter]
  refine h.mono fun e w'' hh => ?_
  obtain ⟨v, rfl, hk⟩ := hh
  subst hd
  exact hK _ _ hk
end
end Go.Proofs.Ytcopakljdenolaa.Gen
namespace Go.Proofs.Ytcopakljdenolaa.Fn
open Go.Proofs.Ytcopakljdenolaa.Gen   -- compacted234
def impl_isLetter.f (a0 : Int) : Option (Bool) := if a0 ≥ 97 then (some (decide (a0 <= 122))) else (some false)
theorem impl_isLetter.calls (a0 : Int) (r : Bool) (w : World) (h : impl_isLetter.f a0 = some r) :
  Calls Try.prog 88 #[.int .u8 a0] w fun e w' => e = .returned (.bool r) /\ Drawn0 w w' := by
 have H : (if a0 ≥ 97 then (some (decide (a0 <= 122))) else (some false)) = some r := h
 clear h
 by_cases c2 : a0 ≥ 97
 ·rw [if_pos c2] at H
  have c2b0 : decide (97 <= a0) = true := decide_eq_true c2
  clear c2
  obtain rfl := Option.some.inj H
  go_enter Try.func88, Try.ntmps88
  go_wp2
  go_ret
  exact ⟨by first | rfl | (simp; done) | (simp [*]; done), by repeat (first | exact Drawn0.refl _ | apply Drawn0.step)⟩
 ·rw [if_neg c2] at H
  have c2b0 : decide (97 <= a0) = false := decide_eq_false c2
  clear c2
  obtain rfl := Option.some.inj H
  go_enter Try.func88, Try.ntmps88
  go_wp2
  go_ret
  exact ⟨by first | rfl | (simp; done) | (simp [*]; done), by repeat (first | exact Drawn0.refl _ | apply Drawn0.step)⟩
open Go.Proofs.Ytcopakljdenolaa.Gen   -- compacted234
mutual
def impl_words.l0 : Nat -> ByteArray -> List ByteArray -> ByteArray -> Int -> Int -> Option (List ByteArray)
 | 0, _, _, _, _, _ => none
 | k + 1, x0, x3, x4, x9, x10 => if x10 < x9 then (if x10 < (x0.size : Int) then (if 0 <= x10 then (impl_words.j1 k x0 x3 x4 (bt x0 x10) x9 x10) else (none)) else (impl_words.j1 k x0 x3 x4 0 x9 x10)) else (some x3)
def impl_words.j1 : Nat -> ByteArray -> List ByteArray -> ByteArray -> Int -> Int -> Int -> Option (List ByteArray)
 | 0, _, _, _, _, _, _ => none
 | k + 1, x0, x3, x4, x6, x9, x10 => if x6 ≥ 65 then (impl_words.j2 k x0 x3 x4 x6 x9 x10 (decide (x6 <= 90))) else (impl_words.j2 k x0 x3 x4 x6 x9 x10 false)
def impl_words.j2 : Nat -> ByteArray -> List ByteArray -> ByteArray -> Int -> Int -> Int -> Bool -> Option (List ByteArray)
 | 0, _, _, _, _, _, _, _ => none
 | k + 1, x0, x3, x4, x6, x9, x10, x25 => if x25 = true then (impl_words.j3 k x0 x3 x4 ((x6 + 32) % 256) x9 x10) else (impl_words.j3 k x0 x3 x4 x6 x9 x10)
def impl_words.j3 : Nat -> ByteArray -> List ByteArray -> ByteArray -> Int -> Int -> Int -> Option (List ByteArray)
 | 0, _, _, _, _, _, _ => none
 | k + 1, x0, x3, x4, x6, x9, x10 => (impl_isLetter.f x6).bind fun t147 => (if t147 = true then ((some (([x6] : List Int) : List Int)).bind fun y148 => (if x4.size + (strOfNums y148).size <= 9223372036854775807 then (impl_words.l0 k x0 x3 (x4 ++ (strOfNums y148)) x9 (wrap64 (x10 + 1))) else (none))) else (if x4.toList = ([] : List UInt8) then (impl_words.l0 k x0 x3 x4 x9 (wrap64 (x10 + 1))) else (if x3.length < 8796093022208 then (impl_words.l0 k x0 (x3 ++ [x4]) (⟨#[]⟩ : ByteArray) x9 (wrap64 (x10 + 1))) else (none))))
end
def impl_words.f (k : Nat) (a0 : ByteArray) : Option (List ByteArray) := impl_words.l0 k a0 ([] : List ByteArray) (⟨#[]⟩ : ByteArray) (wrap64 ((a0.size : Int) + 1)) 0
theorem impl_words.mono_l : ∀ k, (∀ y0 y1 y2 y3 y4, LeO (impl_words.l0 k y0 y1 y2 y3 y4) (impl_words.l0 (k + 1) y0 y1 y2 y3 y4)) /\ (∀ y0 y1 y2 y3 y4 y5, LeO (impl_words.j1 k y0 y1 y2 y3 y4 y5) (impl_words.j1 (k + 1) y0 y1 y2 y3 y4 y5)) /\ (∀ y0 y1 y2 y3 y4 y5 y6, LeO (impl_words.j2 k y0 y1 y2 y3 y4 y5 y6) (impl_words.j2 (k + 1) y0 y1 y2 y3 y4 y5 y6)) /\ (∀ y0 y1 y2 y3 y4 y5, LeO (impl_words.j3 k y0 y1 y2 y3 y4 y5) (impl_words.j3 (k + 1) y0 y1 y2 y3 y4 y5))
 | 0 => ⟨fun _ _ _ _ _ r h => by simp [impl_words.l0] at h, fun _ _ _ _ _ _ r h => by simp [impl_words.j1] at h, fun _ _ _ _ _ _ _ r h => by simp [impl_words.j2] at h, fun _ _ _ _ _ _ r h => by simp [impl_words.j3] at h⟩
 | k + 1 => by
  obtain ⟨ih0, ih1, ih2, ih3⟩ := impl_words.mono_l k
  refine ⟨?_, ?_, ?_, ?_⟩
  ·intro y0 y1 y2 y3 y4
   unfold impl_words.l0
   repeat' (with_reducible first | exact ih0 _ _ _ _ _ | exact ih1 _ _ _ _ _ _ | exact ih2 _ _ _ _ _ _ _ | exact ih3 _ _ _ _ _ _ | exact LeO.refl _ | exact LeO.none _ | refine LeO.ite ?_ ?_ | refine LeO.bind ?_ (fun _ => ?_))
  ·intro y0 y1 y2 y3 y4 y5
   unfold impl_words.j1
   repeat' (with_reducible first | exact ih0 _ _ _ _ _ | exact ih1 _ _ _ _ _ _ | exact ih2 _ _ _ _ _ _ _ | exact ih3 _ _ _ _ _ _ | exact LeO.refl _ | exact LeO.none _ | refine LeO.ite ?_ ?_ | refine LeO.bind ?_ (fun _ => ?_))
  ·intro y0 y1 y2 y3 y4 y5 y6
   unfold impl_words.j2
   repeat' (with_reducible first | exact ih0 _ _ _ _ _ | exact ih1 _ _ _ _ _ _ | exact ih2 _ _ _ _ _ _ _ | exact ih3 _ _ _ _ _ _ | exact LeO.refl _ | exact LeO.none _ | refine LeO.ite ?_ ?_ | refine LeO.bind ?_ (fun _ => ?_))
  ·intro y0 y1 y2 y3 y4 y5
   unfold impl_words.j3
   repeat' (with_reducible first | exact ih0 _ _ _ _ _ | exact ih1 _ _ _ _ _ _ | exact ih2 _ _ _ _ _ _ _ | exact ih3 _ _ _ _ _ _ | exact LeO.refl _ | exact LeO.none _ | refine LeO.ite ?_ ?_ | refine LeO.bind ?_ (fun _ => ?_))
theorem impl_words.mono : ∀ a0 k, LeO (impl_words.f k a0) (impl_words.f (k + 1) a0) := by
 intro a0 k
 obtain ⟨ih0, ih1, ih2, ih3⟩ := impl_words.mono_l k
 unfold impl_words.f
 repeat' (with_reducible first | exact ih0 _ _ _ _ _ | exact ih1 _ _ _ _ _ _ | exact ih2 _ _ _ _ _ _ _ | exact ih3 _ _ _ _ _ _ | exact LeO.refl _ | exact LeO.none _ | refine LeO.ite ?_ ?_ | refine LeO.bind ?_ (fun _ => ?_))
theorem impl_words.calls (k : Nat) (a0 : ByteArray) (r : List ByteArray) (w : World) (h : impl_words.f k a0 = some r) :
  Calls Try.prog 53 #[.string a0] w fun e w' => ∃ v0_ : Value, e = .returned (v0_) /\ Kd.R Kd.string 9 w' w.heap.size (fun _ => True) v0_ r /\ Below w.heap.size w w' := by
 have HB := Aside0.mk (Below.refl w.heap.size w)
 have H : (impl_words.l0 k a0 ([] : List ByteArray) (⟨#[]⟩ : ByteArray) (wrap64 ((a0.size : Int) + 1)) 0) = some r := h
 clear h
 have H' := Aside0.mk H
 clear H
 go_enter Try.func53, Try.ntmps53
 go_wp2
 go_loopg [3, 4, 10] k (fun kq v3 v4 v10 w' => ∃ (x3_1 : List ByteArray) (x4_1 : ByteArray) (x10_1 : Int), v4 = .string x4_1 /\ v10 = .int .i64 x10_1 /\ Aside0 (impl_words.l0 kq a0 x3_1 x4_1 (wrap64 ((a0.size : Int) + 1)) x10_1 = some r) /\ Aside0 (kq <= k) /\ Aside0 (Kd.R Kd.string 9 w' w.heap.size (fun _ => True) v3 x3_1) /\ Aside0 (Below w.heap.size w w'))
 case atStart => exact ⟨(([] : List ByteArray)), ((⟨#[]⟩ : ByteArray)), (0), (by first | rfl | (simp; done) | (simp [*]; done)), (by first | rfl | (simp; done) | (simp [*]; done)), H', ⟨Nat.le_refl _⟩, ⟨by first | exact Kd.R_nil _ _ _ _ _ | exact Kd.N_nil _ _ _ _ _ | exact Kd.V_nil _ _ _ _ _ | exact Kd.Q_nil _ _ _ _ _ | exact Kd.S_nil _ _ _ _ _⟩, ⟨be_ HB.out⟩⟩
 case round =>
  clear H'
  obtain ⟨x3_1, x4_1, x10_1, rfl, rfl, HA, HK1, HO_3, HB⟩ := hrel
  cases gk with
  | zero => exact absurd HA.out (by simp [impl_words.l0])
  | succ k1 =>
   have H := HA.out
   clear HA
   simp only [impl_words.l0] at H
   by_cases c2 : x10_1 < (wrap64 ((a0.size : Int) + 1))
   ·rw [if_pos c2] at H
    have c2b0 : decide (x10_1 < (wrap64 ((a0.size : Int) + 1))) = true := decide_eq_true c2
    clear c2
    have HC3 := Aside0.mk H
    clear H
    go_upto_if 16 with (fail)
    go_cut [6] (fun v6 wc => ∃ (kq : Nat) (x6_2 : Int), v6 = .int .u8 x6_2 /\ Aside0 (impl_words.j1 kq a0 x3_1 x4_1 x6_2 (wrap64 ((a0.size : Int) + 1)) x10_1 = some r) /\ Aside0 (kq <= k1) /\ Aside0 (Kd.R Kd.string 9 wc w.heap.size (fun _ => True) u3 x3_1) /\ Aside0 (Below w.heap.size w wc))
    case first =>
     have H := HC3.out
     clear HC3
     by_cases c4 : x10_1 < (a0.size : Int)
     ·rw [if_pos c4] at H
      have c4b0 : decide (x10_1 < (a0.size : Int)) = true := decide_eq_true c4
      clear c4
      (first | rw [c4b0] | (simp only [i64_w, i32_w]; rw [c4b0]) | rw [c4b1] | skip)
      by_cases c5 : 0 <= x10_1
      ·rw [if_pos c5] at H
       have c5b0 : decide (0 <= x10_1) = true := decide_eq_true c5
       clear c5
       have H' := Aside0.mk H
       clear H
       have p6 : 0 <= (x10_1 : Int) := of_decide_eq_true as_
       have q6 : x10_1 < (a0.size : Int) := of_decide_eq_true as_
       have hx6 := bt_at a0 x10_1
       replace p6 := eq_true p6
       replace q6 := eq_true q6
       go_wp2
       go_meet
       case rel => exact ⟨_, (bt a0 x10_1), (by first | rfl | (simp; done) | (simp [*]; done)), H', ⟨by have := HK1.out; first | omega | exact Nat.le_refl _⟩, ⟨rk_ HO_3.out⟩, ⟨be_ HB.out⟩⟩
      ·rw [if_neg c5] at H
       exact absurd H (by simp)
     ·rw [if_neg c4] at H
      have c4b0 : decide (x10_1 < (a0.size : Int)) = false := decide_eq_false c4
      clear c4
      (first | rw [c4b0] | (simp only [i64_w, i32_w]; rw [c4b0]) | rw [c4b1] | skip)
      have H' := Aside0.mk H
      clear H
      go_wp2
      go_meet
      case rel => exact ⟨_, (0), (by first | rfl | (simp; done) | (simp [*]; done)), H', ⟨by have := HK1.out; first | omega | exact Nat.le_refl _⟩, ⟨rk_ HO_3.out⟩, ⟨be_ HB.out⟩⟩
    case rest =>
     clear HC3
     (try clear c2); (try clear c2b0); (try clear p2); (try clear c4); (try clear c4b0); (try clear c4b1); (try clear c5); (try clear c5b0); (try clear p6); (try clear q6); (try clear hx6); (try clear p6); (try clear q6)
     obtain ⟨kq, x6_2, rfl, HA, HJ2, HO_3, HB⟩ := hcut
     cases kq with
     | zero => exact absurd HA.out (by simp [impl_words.j1])
     | succ kj2 =>
      have H := HA.out
      clear HA
      simp only [impl_words.j1] at H
      have HC7 := Aside0.mk H
      clear H
      go_upto_region 9 with (fail)
      go_cut [25] (fun v25 wc => ∃ (kq : Nat) (x25_6 : Bool), v25 = .bool x25_6 /\ Aside0 (impl_words.j2 kq a0 x3_1 x4_1 x6_2 (wrap64 ((a0.size : Int) + 1)) x10_1 x25_6 = some r) /\ Aside0 (kq <= kj2) /\ Aside0 (Kd.R Kd.string 9 wc w.heap.size (fun _ => True) u3 x3_1) /\ Aside0 (Below w.heap.size w wc))
      case first =>
       have H := HC7.out
       clear HC7
       by_cases c8 : x6_2 ≥ 65
       ·rw [if_pos c8] at H
        have c8b0 : decide (65 <= x6_2) = true := decide_eq_true c8
        clear c8
        (first | rw [c8b0] | (simp only [i64_w, i32_w]; rw [c8b0]) | rw [c8b1] | skip)
        have H' := Aside0.mk H
        clear H
        go_wp2
        go_meet
        case rel => exact ⟨_, (decide (x6_2 <= 90)), (by first | rfl | (simp; done) | (simp [*]; done)), H', ⟨by have := HK1.out; have := HJ2.out; first | omega | exact Nat.le_refl _⟩, ⟨rk_ HO_3.out⟩, ⟨be_ HB.out⟩⟩
       ·rw [if_neg c8] at H
        have c8b0 : decide (65 <= x6_2) = false := decide_eq_false c8
        clear c8
        (first | rw [c8b0] | (simp only [i64_w, i32_w]; rw [c8b0]) | rw [c8b1] | skip)
        have H' := Aside0.mk H
        clear H
        go_wp2
        go_meet
        case rel => exact ⟨_, (false), (by first | rfl | (simp; done) | (simp [*]; done)), H', ⟨by have := HK1.out; have := HJ2.out; first | omega | exact Nat.le_refl _⟩, ⟨rk_ HO_3.out⟩, ⟨be_ HB.out⟩⟩
      case rest =>
       clear HC7
       (try clear c2); (try clear c2b0); (try clear p2); (try clear c4); (try clear c4b0); (try clear c4b1); (try clear c5); (try clear c5b0); (try clear p6); (try clear q6); (try clear hx6); (try clear c8); (try clear c8b0); (try clear c8b1); (try clear p2); (try clear p6); (try clear q6)
       obtain ⟨kq, x25_6, rfl, HA, HJ6, HO_3, HB⟩ := hcut
       cases kq with
       | zero => exact absurd HA.out (by simp [impl_words.j2])
       | succ kj6 =>
        have H := HA.out
        clear HA
        simp only [impl_words.j2] at H
        have HC9 := Aside0.mk H
        clear H
        go_upto_if 25 with (fail)
        go_cut [6] (fun v6 wc => ∃ (kq : Nat) (x6_8 : Int), v6 = .int .u8 x6_8 /\ Aside0 (impl_words.j3 kq a0 x3_1 x4_1 x6_8 (wrap64 ((a0.size : Int) + 1)) x10_1 = some r) /\ Aside0 (kq <= kj6) /\ Aside0 (Kd.R Kd.string 9 wc w.heap.size (fun _ => True) u3 x3_1) /\ Aside0 (Below w.heap.size w wc))
        case first =>
         have H := HC9.out
         clear HC9
         by_cases c10 : x25_6 = true
         ·subst c10
          have H1 : (impl_words.j3 kj6 a0 x3_1 x4_1 ((x6_2 + 32) % 256) (wrap64 ((a0.size : Int) + 1)) x10_1) = some r := by rw [if_pos rfl] at H; exact H
          clear H
          have H := H1
          clear H1
          have H' := Aside0.mk H
          clear H
          go_wp2
          go_meet
          case rel => exact ⟨_, ((x6_2 + 32) % 256), (by first | rfl | (simp; done) | (simp [*]; done)), H', ⟨by have := HK1.out; have := HJ2.out; have := HJ6.out; first | omega | exact Nat.le_refl _⟩, ⟨rk_ HO_3.out⟩, ⟨be_ HB.out⟩⟩
         ·replace c10 := Bool.eq_false_iff.mpr c10
          subst c10
          have H1 : (impl_words.j3 kj6 a0 x3_1 x4_1 x6_2 (wrap64 ((a0.size : Int) + 1)) x10_1) = some r := by rw [if_neg (show ¬ (false = true) by decide)] at H; exact H
          clear H
          have H := H1
          clear H1
          have H' := Aside0.mk H
          clear H
          go_wp2
          go_meet
          case rel => exact ⟨_, (x6_2), (by first | rfl | (simp; done) | (simp [*]; done)), H', ⟨by have := HK1.out; have := HJ2.out; have := HJ6.out; first | omega | exact Nat.le_refl _⟩, ⟨rk_ HO_3.out⟩, ⟨be_ HB.out⟩⟩
        case rest =>
         clear HC9
         (try clear c1); (try clear c2); (try clear c2b0); (try clear p2); (try clear c4); (try clear c4b0); (try clear c4b1); (try clear c5); (try clear c5b0); (try clear p6); (try clear q6); (try clear hx6); (try clear c8); (try clear c8b0); (try clear c8b1); (try clear c10); (try clear p2); (try clear p6); (try clear q6)
         obtain ⟨kq, x6_8, rfl, HA, HJ8, HO_3, HB⟩ := hcut
         cases kq with
         | zero => exact absurd HA.out (by simp [impl_words.j3])
         | succ kj8 =>
          have H := HA.out
          clear HA
          simp only [impl_words.j3] at H
          replace H := Option.bind_eq_some_iff.mp H
          obtain ⟨t147, A110, H⟩ := H
          replace H : (if t147 = true then ((some (([x6_8] : List Int) : List Int)).bind fun y148 => (if x4_1.size + (strOfNums y148).size <= 9223372036854775807 then (impl_words.l0 kj8 a0 x3_1 (x4_1 ++ (strOfNums y148)) (wrap64 ((a0.size : Int) + 1)) (wrap64 (x10_1 + 1))) else (none))) else (if x4_1.toList = ([] : List UInt8) then (impl_words.l0 kj8 a0 x3_1 x4_1 (wrap64 ((a0.size : Int) + 1)) (wrap64 (x10_1 + 1))) else (if x3_1.length < 8796093022208 then (impl_words.l0 kj8 a0 (x3_1 ++ [x4_1]) (⟨#[]⟩ : ByteArray) (wrap64 ((a0.size : Int) + 1)) (wrap64 (x10_1 + 1))) else (none)))) = some r := H
          have A11 := Aside0.mk A110
          clear A110
          by_cases c12 : t147 = true
          ·subst c12
           have H1 : ((some (([x6_8] : List Int) : List Int)).bind fun y148 => (if x4_1.size + (strOfNums y148).size <= 9223372036854775807 then (impl_words.l0 kj8 a0 x3_1 (x4_1 ++ (strOfNums y148)) (wrap64 ((a0.size : Int) + 1)) (wrap64 (x10_1 + 1))) else (none))) = some r := by rw [if_pos rfl] at H; exact H
           clear H
           have H := H1
           clear H1
           obtain ⟨y148, hy148⟩ : ∃ y_ : List Int, y_ = (([x6_8] : List Int)) := ⟨_, rfl⟩
           replace H : (if x4_1.size + (strOfNums y148).size <= 9223372036854775807 then (impl_words.l0 kj8 a0 x3_1 (x4_1 ++ (strOfNums y148)) (wrap64 ((a0.size : Int) + 1)) (wrap64 (x10_1 + 1))) else (none)) = some r := by first | (rw [hy148]; with_reducible exact H) | (have H2_ := (Option.bind_some _ _).symm.trans H; rw [hy148]; with_reducible exact H2_) | (have H2_ := (Option.bind_some _ _).symm.trans H; with_reducible exact H2_) | with_reducible exact H | (rw [hy148]; exact H) | exact H
           have Ny148 := Aside0.mk hy148
           clear hy148
           by_cases c13 : x4_1.size + (strOfNums y148).size <= 9223372036854775807
           ·rw [if_pos c13] at H
            have c13b0 := eq_true c13
            have c13b1 : decide (x4_1.size + (strOfNums y148).size <= 9223372036854775807) = true := decide_eq_true c13
            try have c13b2 : (9223372036854775807 < x4_1.size + (strOfNums y148).size) = False := eq_false (Nat.not_lt.2 c13)
            have H' := Aside0.mk H
            clear H
            go_wp2_with (first | ((with_reducible refine gate_callee (f := 88) rfl ?_); refine goesL_ (some 30) rfl rfl Try.func88 (by kernel_rfl) rfl #[.int .u8 x6_8] rfl (ag_) ?_; (with_reducible refine (impl_isLetter.calls x6_8 true _ A11.out).mono ?_); rintro e w' ⟨rfl, ⟨nd, rfl⟩⟩; refine ⟨_, rfl, ?_⟩) | ((with_reducible refine gate_dst (N := 33) rfl ?_); refine Kd.R_lit (Kd.int .u8) _ 5 ?hg (N := 33) ?hd (xs := ([x6_8] : List Int)) (inner := [.int .u8 x6_8]) (ok := fun _ => True) (okp := fun _ => True) ?hr ?hp (fun _ hk => hk) trivial (Below.refl _ _) (Nat.le_refl _) (by simp) ?_; (case hd => rfl); (case hg => rfl); (case hr => first | (go_simp; done) | (go_simp; rfl)); (case hp => exact (Reps.one (show Kd.M (Kd.int .u8) _ _ _ x6_8 [.int .u8 x6_8] from rfl) (Reps.none _ _))); intro v149 w14 ho15 hb hg_ hnew_; clear hg_ hnew_; (first | rw [<- Ny148.out] at ho15 | (simp only [Int.reduceToNat] at ho15; rw [<- Ny148.out] at ho15)); have n0_ := Aside0.mk (Kd.R_below (rk_ HO_3.out) hb); have n1_ := Aside0.mk (Kd.R_lower ho15 (bw_ HB.out)); have n2_ := Aside0.mk (bs_ HB.out hb); clear HO_3; clear HB; have HO_3 := n0_; have HO150 := n1_; have HB := n2_; clear n0_ n1_ n2_; clear hb ho15; have hcv16 := own_string (P := Try.prog) Try.underlying53 Try.underlying5 Try.underlying9 (Kd.own_of_R HO150.out)))
            go_roundg kj8
            case measure => have := HK1.out; have := HJ2.out; have := HJ6.out; have := HJ8.out; omega
            case rel => exact ⟨(x3_1), (x4_1 ++ (strOfNums y148)), (wrap64 (x10_1 + 1)), (by first | rfl | (simp; done) | (simp [*]; done)), (by first | rfl | (simp; done) | (simp [*]; done)), H', ⟨by have := HK1.out; have := HJ2.out; have := HJ6.out; have := HJ8.out; omega⟩, ⟨rk_ HO_3.out⟩, ⟨be_ HB.out⟩⟩
           ·rw [if_neg c13] at H
            exact absurd H (by simp)
          ·replace c12 := Bool.eq_false_iff.mpr c12
           subst c12
           have H1 : (if x4_1.toList = ([] : List UInt8) then (impl_words.l0 kj8 a0 x3_1 x4_1 (wrap64 ((a0.size : Int) + 1)) (wrap64 (x10_1 + 1))) else (if x3_1.length < 8796093022208 then (impl_words.l0 kj8 a0 (x3_1 ++ [x4_1]) (⟨#[]⟩ : ByteArray) (wrap64 ((a0.size : Int) + 1)) (wrap64 (x10_1 + 1))) else (none))) = some r := by rw [if_neg (show ¬ (false = true) by decide)] at H; exact H
           clear H
           have H := H1
           clear H1
           by_cases c17 : x4_1.toList = ([] : List UInt8)
           ·rw [if_pos c17] at H
            have c17b0 : (x4_1.toList == ([] : List UInt8)) = true := beq_iff_eq.mpr c17
            have c17b1 : (x4_1.toList != ([] : List UInt8)) = false := bne_eq_false_iff_eq.mpr c17
            clear c17
            have H' := Aside0.mk H
            clear H
            go_wp2_with (first | ((with_reducible refine gate_callee (f := 88) rfl ?_); refine goesL_ (some 30) rfl rfl Try.func88 (by kernel_rfl) rfl #[.int .u8 x6_8] rfl (ag_) ?_; (with_reducible refine (impl_isLetter.calls x6_8 false _ A11.out).mono ?_); rintro e w' ⟨rfl, ⟨nd, rfl⟩⟩; refine ⟨_, rfl, ?_⟩))
            go_roundg kj8
            case measure => have := HK1.out; have := HJ2.out; have := HJ6.out; have := HJ8.out; omega
            case rel => exact ⟨(x3_1), (x4_1), (wrap64 (x10_1 + 1)), (by first | rfl | (simp; done) | (simp [*]; done)), (by first | rfl | (simp; done) | (simp [*]; done)), H', ⟨by have := HK1.out; have := HJ2.out; have := HJ6.out; have := HJ8.out; omega⟩, ⟨rk_ HO_3.out⟩, ⟨be_ HB.out⟩⟩
           ·rw [if_neg c17] at H
            have c17b0 : (x4_1.toList == ([] : List UInt8)) = false := beq_eq_false_iff_ne.mpr c17
            have c17b1 : (x4_1.toList != ([] : List UInt8)) = true := bne_iff_ne.mpr c17
            by_cases c18 : x3_1.length < 8796093022208
            ·rw [if_pos c18] at H
             have LMc18 := Aside0.mk c18
             clear c18
             obtain ⟨y151, hy151⟩ : ∃ y_ : List ByteArray, y_ = (x3_1 ++ [x4_1]) := ⟨_, rfl⟩
             replace H : (impl_words.l0 kj8 a0 y151 (⟨#[]⟩ : ByteArray) (wrap64 ((a0.size : Int) + 1)) (wrap64 (x10_1 + 1))) = some r := by first | (rw [hy151]; with_reducible exact H) | (have H2_ := (Option.bind_some _ _).symm.trans H; rw [hy151]; with_reducible exact H2_) | (have H2_ := (Option.bind_some _ _).symm.trans H; with_reducible exact H2_) | with_reducible exact H | (rw [hy151]; exact H) | exact H
             have Ny151 := Aside0.mk hy151
             clear hy151
             have H' := Aside0.mk H
             clear H
             go_wp2_with (first | ((with_reducible refine gate_callee (f := 88) rfl ?_); refine goesL_ (some 30) rfl rfl Try.func88 (by kernel_rfl) rfl #[.int .u8 x6_8] rfl (ag_) ?_; (with_reducible refine (impl_isLetter.calls x6_8 false _ A11.out).mono ?_); rintro e w' ⟨rfl, ⟨nd, rfl⟩⟩; refine ⟨_, rfl, ?_⟩) | ((with_reducible refine gate_builtin (b := .append) (xs := #[.tmp 39, .tmp 41]) rfl ?_); at_builtin; refine Kd.R_append Kd.string (w0 := w) w.heap.size rfl (.tmp 39) (.tmp 41) 22 9 (.string ⟨#[]⟩) 16 rfl Try.underlying22 info9 rfl (by decide) (by omega) u3 x3_1 x4_1 [.string x4_1] (fun _ => True) (fun _ => False) rfl rfl ?aP (fun _ hk => hk.elim) ?aF ?aO ?aB ?aS ?aL ?_; (case aP => exact rfl); (case aB => exact (be_ HB.out)); (case aF => exact (fun _ _ => trivial)); (case aO => exact (rk_ HO_3.out)); (case aS => exact (bw_ HB.out)); (case aL => have := LMc18.out; omega); intro v152 w19 ho hb hg hat; rw [<- Ny151.out] at ho; have n0_ := Aside0.mk (hb); have n1_ := Aside0.mk (ho); clear HB; clear HO_3; have HB := n0_; have HO153 := n1_; clear n0_ n1_; clear ho hb hg hat))
             go_roundg kj8
             case measure => have := HK1.out; have := HJ2.out; have := HJ6.out; have := HJ8.out; omega
             case rel => exact ⟨(y151), ((⟨#[]⟩ : ByteArray)), (wrap64 (x10_1 + 1)), (by first | rfl | (simp; done) | (simp [*]; done)), (by first | rfl | (simp; done) | (simp [*]; done)), H', ⟨by have := HK1.out; have := HJ2.out; have := HJ6.out; have := HJ8.out; omega⟩, ⟨rk_ HO153.out⟩, ⟨be_ HB.out⟩⟩
            ·rw [if_neg c18] at H
             exact absurd H (by simp)
   ·rw [if_neg c2] at H
    have c2b0 : decide (x10_1 < (wrap64 ((a0.size : Int) + 1))) = false := decide_eq_false c2
    clear c2
    obtain rfl := Option.some.inj H
    go_wp2
    go_ret
    exact ⟨_, by first | rfl | (simp only [Go.Proofs.Ytcopakljdenolaa.Gen.nil_str, Go.Proofs.Ytcopakljdenolaa.Gen.gt_str]; first | done | rfl | (simp; done)) | (simp [errW_none, errW_some] <;> rfl) | (simp [*, errW_none, errW_some] <;> rfl), by (with_reducible repeat (first | apply Kd.R_alloc | apply Kd.R_drewN | apply Kd.R_drew)); exact HO_3.out, by repeat (first | (with_reducible first | exact HB.out | apply below_alloc | apply pw_below_drewN | apply below_drew1) | exact HB.out)⟩
open Go.Proofs.Ytcopakljdenolaa.Gen   -- compacted234
def impl_WordsOf.f (k : Nat) (a0 : ByteArray) : Option (List ByteArray × Bool) := if (a0.size : Int) > 120 then (some (([] : List ByteArray), false)) else ((impl_words.f k a0).bind fun t154 => (if (t154.length : Int) > 20 then (some (([] : List ByteArray), false)) else (some (t154, true))))
theorem impl_WordsOf.mono : ∀ a0 k, LeO (impl_WordsOf.f k a0) (impl_WordsOf.f (k + 1) a0) := by
 intro a0 k
 unfold impl_WordsOf.f
 repeat' (with_reducible first | exact impl_words.mono _ _ | exact LeO.refl _ | exact LeO.none _ | refine LeO.ite ?_ ?_ | refine LeO.bind ?_ (fun _ => ?_))
theorem impl_WordsOf.calls (k : Nat) (a0 : ByteArray) (r1 : List ByteArray) (r2 : Bool) (w : World) (h : impl_WordsOf.f k a0 = some (r1, r2)) :
  Calls Try.prog 14 #[.string a0] w fun e w' => ∃ v0_ : Value, e = .returned (.tuple #[v0_, .bool r2]) /\ Kd.R Kd.string 9 w' w.heap.size (fun _ => True) v0_ r1 /\ Below w.heap.size w w' := by
 have HB := Aside0.mk (Below.refl w.heap.size w)
 have H : (if (a0.size : Int) > 120 then (some (([] : List ByteArray), false)) else ((impl_words.f k a0).bind fun t154 => (if (t154.length : Int) > 20 then (some (([] : List ByteArray), false)) else (some (t154, true))))) = some (r1, r2) := h
 clear h
 by_cases c2 : (a0.size : Int) > 120
 ·rw [if_pos c2] at H
  have c2b0 : decide (120 < (a0.size : Int)) = true := decide_eq_true c2
  have c2b1 : decide (120 < a0.size) = true := decide_eq_true (by omega)
  clear c2
  simp only [Option.some.injEq, Prod.mk.injEq] at H
  obtain ⟨rfl, rfl⟩ := H
  go_enter Try.func14, Try.ntmps14
  go_wp2
  go_ret2
  exact ⟨_, ew_, by first | exact Kd.R_nil _ _ _ _ _ | exact Kd.N_nil _ _ _ _ _ | exact Kd.V_nil _ _ _ _ _ | exact Kd.Q_nil _ _ _ _ _ | exact Kd.S_nil _ _ _ _ _, by repeat (first | (with_reducible first | exact HB.out | apply below_alloc | apply pw_below_drewN | apply below_drew1) | exact HB.out)⟩
 ·rw [if_neg c2] at H
  have c2b0 : decide (120 < (a0.size : Int)) = false := decide_eq_false c2
  have c2b1 : decide (120 < a0.size) = false := decide_eq_false (by omega)
  clear c2
  replace H := Option.bind_eq_some_iff.mp H
  obtain ⟨t154, A30, H⟩ := H
  replace H : (if (t154.length : Int) > 20 then (some (([] : List ByteArray), false)) else (some (t154, true))) = some (r1, r2) := H
  have A3 := Aside0.mk A30
  clear A30
  by_cases c4 : (t154.length : Int) > 20
  ·rw [if_pos c4] at H
   have c4b0 : decide (20 < (t154.length : Int)) = true := decide_eq_true c4
   have c4b1 : decide (20 < t154.length) = true := decide_eq_true (by omega)
   clear c4
   simp only [Option.some.injEq, Prod.mk.injEq] at H
   obtain ⟨rfl, rfl⟩ := H
   go_enter Try.func14, Try.ntmps14
   go_wp2_with (first | ((with_reducible refine gate_callee (f := 53) rfl ?_); refine goesL_ (some 9) rfl rfl Try.func53 (by kernel_rfl) rfl #[.string a0] rfl (ag_) ?_; (with_reducible refine (impl_words.calls k a0 t154 _ A3.out).mono ?_); rintro e w5 ⟨v155, rfl, ho0, hb⟩; refine ⟨_, rfl, ?_⟩; have n0_ := Aside0.mk (Kd.R_lower ho0 (bw_ HB.out)); have n1_ := Aside0.mk (bs_ HB.out hb); clear HB; have HO156 := n0_; have HB := n1_; clear n0_ n1_; (try clear hb); (try clear hb2); (try clear hk); (try clear hi); (try clear ho0); obtain ⟨Ao6, co6, eo6⟩ := Kd.R_slice HO156.out; subst eo6))
   go_ret2
   exact ⟨_, ew_, by first | exact Kd.R_nil _ _ _ _ _ | exact Kd.N_nil _ _ _ _ _ | exact Kd.V_nil _ _ _ _ _ | exact Kd.Q_nil _ _ _ _ _ | exact Kd.S_nil _ _ _ _ _, by repeat (first | (with_reducible first | exact HB.out | apply below_alloc | apply pw_below_drewN | apply below_drew1) | exact HB.out)⟩
  ·rw [if_neg c4] at H
   have c4b0 : decide (20 < (t154.length : Int)) = false := decide_eq_false c4
   have c4b1 : decide (20 < t154.length) = false := decide_eq_false (by omega)
   clear c4
   simp only [Option.some.injEq, Prod.mk.injEq] at H
   obtain ⟨rfl, rfl⟩ := H
   go_enter Try.func14, Try.ntmps14
   go_wp2_with (first | ((with_reducible refine gate_callee (f := 53) rfl ?_); refine goesL_ (some 9) rfl rfl Try.func53 (by kernel_rfl) rfl #[.string a0] rfl (ag_) ?_; (with_reducible refine (impl_words.calls k a0 t154 _ A3.out).mono ?_); rintro e w7 ⟨v155, rfl, ho0, hb⟩; refine ⟨_, rfl, ?_⟩; have n0_ := Aside0.mk (Kd.R_lower ho0 (bw_ HB.out)); have n1_ := Aside0.mk (bs_ HB.out hb); clear HB; have HO156 := n0_; have HB := n1_; clear n0_ n1_; (try clear hb); (try clear hb2); (try clear hk); (try clear hi); (try clear ho0); obtain ⟨Ao8, co8, eo8⟩ := Kd.R_slice HO156.out; subst eo8))
   go_ret2
   exact ⟨_, ew_, by (with_reducible repeat (first | apply Kd.R_alloc | apply Kd.R_drewN | apply Kd.R_drew)); exact HO156.out, by repeat (first | (with_reducible first | exact HB.out | apply below_alloc | apply pw_below_drewN | apply below_drew1) | exact HB.out)⟩
open Go.Proofs.Ytcopakljdenolaa.Gen   -- compacted234
def impl_areDocs_1.f (k : Nat) (a0 : ByteArray) : Option (Bool) := (impl_WordsOf.f k a0).bind fun bt157 => (some (!bt157.2))
theorem impl_areDocs_1.mono : ∀ a0 k, LeO (impl_areDocs_1.f k a0) (impl_areDocs_1.f (k + 1) a0) := by
 intro a0 k
 unfold impl_areDocs_1.f
 repeat' (with_reducible first | exact impl_WordsOf.mono _ _ | exact LeO.refl _ | exact LeO.none _ | refine LeO.ite ?_ ?_ | refine LeO.bind ?_ (fun _ => ?_))
theorem impl_areDocs_1.calls (k : Nat) (a0 : ByteArray) (r : Bool) (w : World) (h : impl_areDocs_1.f k a0 = some r) :
  Calls Try.prog 89 #[.string a0] w fun e w' => e = .returned (.bool r) /\ Below w.heap.size w w' := by
 have HB := Aside0.mk (Below.refl w.heap.size w)
 have H : ((impl_WordsOf.f k a0).bind fun bt157 => (some (!bt157.2))) = some r := h
 clear h
 replace H := Option.bind_eq_some_iff.mp H
 obtain ⟨⟨t157, t158⟩, A20, H⟩ := H
 replace H : (some (!t158)) = some r := H
 have A2 := Aside0.mk A20
 clear A20
 obtain rfl := Option.some.inj H
 go_enter Try.func89, Try.ntmps89
 go_wp2_with (first | ((with_reducible refine gate_callee (f := 14) rfl ?_); refine goesL_ (some 7) rfl rfl Try.func14 (by kernel_rfl) rfl #[.string a0] rfl (ag_) ?_; (with_reducible refine (impl_WordsOf.calls k a0 t157 t158 _ A2.out).mono ?_); rintro e w3 ⟨v159, rfl, ho0, hb⟩; refine ⟨_, rfl, ?_⟩; have n0_ := Aside0.mk (Kd.R_lower ho0 (bw_ HB.out)); have n1_ := Aside0.mk (bs_ HB.out hb); clear HB; have HO160 := n0_; have HB := n1_; clear n0_ n1_; (try clear hb); (try clear hb2); (try clear hk); (try clear hi); (try clear ho0)))
 go_ret
 exact ⟨ew_, by repeat (first | (with_reducible first | exact HB.out | apply below_alloc | apply pw_below_drewN | apply below_drew1) | exact HB.out)⟩
open Go.Proofs.Ytcopakljdenolaa.Gen   -- compacted234
def slices_IndexFunc_at89.l0 : Nat -> List ByteArray -> Int -> Int -> Option (Int)
 | 0, _, _, _ => none
 | k + 1, x0, x7, x8 => if x8 < x7 then (if 0 <= x8 then (if x8 < (x0.length : Int) then ((impl_areDocs_1.f k (rdOf ByteArray.empty x0 x8)).bind fun t162 => (if t162 = true then (some x8) else (slices_IndexFunc_at89.l0 k x0 x7 (wrap64 (x8 + 1))))) else (none)) else (none)) else (some (-1))
def slices_IndexFunc_at89.f (k : Nat) (l0 : List ByteArray)  : Option (Int) := slices_IndexFunc_at89.l0 k l0 (l0.length : Int) 0
theorem slices_IndexFunc_at89.mono_l : ∀ k, (∀ y0 y1 y2, LeO (slices_IndexFunc_at89.l0 k y0 y1 y2) (slices_IndexFunc_at89.l0 (k + 1) y0 y1 y2))
 | 0 => fun _ _ _ r h => by simp [slices_IndexFunc_at89.l0] at h
 | k + 1 => by
  have ih0 := slices_IndexFunc_at89.mono_l k
  ·intro y0 y1 y2
   unfold slices_IndexFunc_at89.l0
   repeat' (with_reducible first | exact ih0 _ _ _ | exact impl_areDocs_1.mono _ _ | exact LeO.refl _ | exact LeO.none _ | refine LeO.ite ?_ ?_ | refine LeO.bind ?_ (fun _ => ?_))
theorem slices_IndexFunc_at89.mono : ∀ a0 k, LeO (slices_IndexFunc_at89.f k a0) (slices_IndexFunc_at89.f (k + 1) a0) := by
 intro a0 k
 have ih0 := slices_IndexFunc_at89.mono_l k
 unfold slices_IndexFunc_at89.f
 repeat' (with_reducible first | exact ih0 _ _ _ | exact impl_areDocs_1.mono _ _ | exact LeO.refl _ | exact LeO.none _ | refine LeO.ite ?_ ?_ | refine LeO.bind ?_ (fun _ => ?_))
theorem slices_IndexFunc_at89.calls (k : Nat) (A0 : Option Addr) (c0 : Nat) (l0 : List ByteArray)  (r : Int) (w : World) (hr0 : Kd.C Kd.string w A0 l0.length l0) (hc0 : l0.length <= c0) (h : slices_IndexFunc_at89.f k l0 = some r) :
  Calls Try.prog 103 #[.slice A0 l0.length c0, .func (.func 89) #[] #[]] w fun e w' => e = .returned (.int .i64 r) /\ Below w.heap.size w w' := by
 have HR0 := Aside0.mk hr0
 have HC0 := Aside0.mk hc0
 clear hr0 hc0
 have HB := Aside0.mk (Below.refl w.heap.size w)
 have H : (slices_IndexFunc_at89.l0 k l0 (l0.length : Int) 0) = some r := h
 clear h
 have H' := Aside0.mk H
 clear H
 go_enter Try.func103, Try.ntmps103
 go_wp2
 go_loopg [8] k (fun kq v8 w' => ∃ (x8_1 : Int), v8 = .int .i64 x8_1 /\ Aside0 (slices_IndexFunc_at89.l0 kq l0 (l0.length : Int) x8_1 = some r) /\ Aside0 (kq <= k) /\ Aside0 (Below w.heap.size w w'))
 case atStart => exact ⟨(0), (by first | rfl | (simp; done) | (simp [*]; done)), H', ⟨Nat.le_refl _⟩, ⟨be_ HB.out⟩⟩
 case round =>
  clear H'
  (try clear c1); (try clear p2)
  obtain ⟨x8_1, rfl, HA, HK1, HB⟩ := hrel
  cases gk with
  | zero => exact absurd HA.out (by simp [slices_IndexFunc_at89.l0])
  | succ k1 =>
   have H := HA.out
   clear HA
   simp only [slices_IndexFunc_at89.l0] at H
   by_cases c3 : x8_1 < (l0.length : Int)
   ·rw [if_pos c3] at H
    have c3b0 : decide (x8_1 < (l0.length : Int)) = true := decide_eq_true c3
    clear c3
    by_cases c4 : 0 <= x8_1
    ·rw [if_pos c4] at H
     have c4b0 : decide (0 <= x8_1) = true := decide_eq_true c4
     clear c4
     by_cases c5 : x8_1 < (l0.length : Int)
     ·rw [if_pos c5] at H
      have c5b0 : decide (x8_1 < (l0.length : Int)) = true := decide_eq_true c5
      clear c5
      replace H := Option.bind_eq_some_iff.mp H
      obtain ⟨t162, A60, H⟩ := H
      replace H : (if t162 = true then (some x8_1) else (slices_IndexFunc_at89.l0 k1 l0 (l0.length : Int) (wrap64 (x8_1 + 1)))) = some r := H
      have A6 := Aside0.mk A60
      clear A60
      by_cases c7 : t162 = true
      ·subst c7
       have H1 : (some x8_1) = some r := by rw [if_pos rfl] at H; exact H
       clear H
       have H := H1
       clear H1
       obtain rfl := Option.some.inj H
       have p161 : 0 <= (x8_1 : Int) := of_decide_eq_true as_
       have q161 : x8_1 < (l0.length : Int) := of_decide_eq_true as_
       obtain ⟨ad161, e161, hx161_0⟩ := Kd.at_string HR0.out x8_1 p161 q161
       cases e161
       replace hx161_0 := (HB.out.cell (World.block_lt_of_cell? w _ hx161_0)).trans hx161_0
       replace p161 := eq_true p161
       replace q161 := eq_true q161
       go_wp2_with (first | ((with_reducible refine Go.Proofs.Ytcopakljdenolaa.Gen.gateV rfl ?_); refine Go.Proofs.Ytcopakljdenolaa.Gen.goesV_ (some 16) rfl rfl Try.func89 (by kernel_rfl) rfl #[.string (rdOf ByteArray.empty l0 x8_1)] rfl (ag_) ?_; (with_reducible refine (impl_areDocs_1.calls k1 (rdOf ByteArray.empty l0 x8_1) true _ A6.out).mono ?_); rintro e w8 ⟨rfl, hb⟩; refine ⟨_, rfl, ?_⟩; have n0_ := Aside0.mk (bs_ HB.out hb); clear HB; have HB := n0_; clear n0_; (try clear hb); (try clear hb2); (try clear hk); (try clear hi)))
       go_ret
       exact ⟨ew_, by repeat (first | (with_reducible first | exact HB.out | apply below_alloc | apply pw_below_drewN | apply below_drew1) | exact HB.out)⟩
      ·replace c7 := Bool.eq_false_iff.mpr c7
       subst c7
       have H1 : (slices_IndexFunc_at89.l0 k1 l0 (l0.length : Int) (wrap64 (x8_1 + 1))) = some r := by rw [if_neg (show ¬ (false = true) by decide)] at H; exact H
       clear H
       have H := H1
       clear H1
       have H' := Aside0.mk H
       clear H
       have p161 : 0 <= (x8_1 : Int) := of_decide_eq_true as_
       have q161 : x8_1 < (l0.length : Int) := of_decide_eq_true as_
       obtain ⟨ad161, e161, hx161_0⟩ := Kd.at_string HR0.out x8_1 p161 q161
       cases e161
       replace hx161_0 := (HB.out.cell (World.block_lt_of_cell? w _ hx161_0)).trans hx161_0
       replace p161 := eq_true p161
       replace q161 := eq_true q161
       go_wp2_with (first | ((with_reducible refine Go.Proofs.Ytcopakljdenolaa.Gen.gateV rfl ?_); refine Go.Proofs.Ytcopakljdenolaa.Gen.goesV_ (some 16) rfl rfl Try.func89 (by kernel_rfl) rfl #[.string (rdOf ByteArray.empty l0 x8_1)] rfl (ag_) ?_; (with_reducible refine (impl_areDocs_1.calls k1 (rdOf ByteArray.empty l0 x8_1) false _ A6.out).mono ?_); rintro e w9 ⟨rfl, hb⟩; refine ⟨_, rfl, ?_⟩; have n0_ := Aside0.mk (bs_ HB.out hb); clear HB; have HB := n0_; clear n0_; (try clear hb); (try clear hb2); (try clear hk); (try clear hi)))
       go_roundg k1
       case measure => have := HK1.out; omega
       case rel => exact ⟨(wrap64 (x8_1 + 1)), (by first | rfl | (simp; done) | (simp [*]; done)), H', ⟨by have := HK1.out; omega⟩, ⟨be_ HB.out⟩⟩
     ·rw [if_neg c5] at H
      exact absurd H (by simp)
    ·rw [if_neg c4] at H
     exact absurd H (by simp)
   ·rw [if_neg c3] at H
    have c3b0 : decide (x8_1 < (l0.length : Int)) = false := decide_eq_false c3
    clear c3
    obtain rfl := Option.some.inj H
    go_wp2
    go_ret
    exact ⟨ew_, by repeat (first | (with_reducible first | exact HB.out | apply below_alloc | apply pw_below_drewN | apply below_drew1) | exact HB.out)⟩
open Go.Proofs.Ytcopakljdenolaa.Gen   -- compacted234
def slices_ContainsFunc_at89.f (k : Nat) (l0 : List ByteArray)  : Option (Bool) := (slices_IndexFunc_at89.f k l0).bind fun t163 => (some (decide (t163 ≥ 0)))
theorem slices_ContainsFunc_at89.mono : ∀ a0 k, LeO (slices_ContainsFunc_at89.f k a0) (slices_ContainsFunc_at89.f (k + 1) a0) := by
 intro a0 k
 unfold slices_ContainsFunc_at89.f
 repeat' (with_reducible first | exact slices_IndexFunc_at89.mono _ _ | exact LeO.refl _ | exact LeO.none _ | refine LeO.ite ?_ ?_ | refine LeO.bind ?_ (fun _ => ?_))
theorem slices_ContainsFunc_at89.calls (k : Nat) (A0 : Option Addr) (c0 : Nat) (l0 : List ByteArray)  (r : Bool) (w : World) (hr0 : Kd.C Kd.string w A0 l0.length l0) (hc0 : l0.length <= c0) (h : slices_ContainsFunc_at89.f k l0 = some r) :
  Calls Try.prog 73 #[.slice A0 l0.length c0, .func (.func 89) #[] #[]] w fun e w' => e = .returned (.bool r) /\ Below w.heap.size w w' := by
 have HR0 := Aside0.mk hr0
 have HC0 := Aside0.mk hc0
 clear hr0 hc0
 have HB := Aside0.mk (Below.refl w.heap.size w)
 have H : ((slices_IndexFunc_at89.f k l0).bind fun t163 => (some (decide (t163 ≥ 0)))) = some r := h
 clear h
 replace H := Option.bind_eq_some_iff.mp H
 obtain ⟨t163, A30, H⟩ := H
 replace H : (some (decide (t163 ≥ 0))) = some r := H
 have A3 := Aside0.mk A30
 clear A30
 obtain rfl := Option.some.inj H
 go_enter Try.func73, Try.ntmps73
 go_wp2_with (first | ((with_reducible refine gate_callee (f := 103) rfl ?_); refine goesL_ (some 7) rfl rfl Try.func103 (by kernel_rfl) rfl #[.slice A0 l0.length c0, .func (.func 89) #[] #[]] rfl (ag_) ?_; (with_reducible refine (slices_IndexFunc_at89.calls k _ _ l0  t163 _ ?side1 ?side2 A3.out).mono ?_); (case side1 => refine cd_ ?_; exact HR0.out); (case side2 => exact HC0.out); rintro e w4 ⟨rfl, hb⟩; refine ⟨_, rfl, ?_⟩; have n0_ := Aside0.mk (bs_ HB.out hb); clear HB; have HB := n0_; clear n0_; (try clear hb); (try clear hb2); (try clear hk); (try clear hi)))
 go_ret
 exact ⟨ew_, by repeat (first | (with_reducible first | exact HB.out | apply below_alloc | apply pw_below_drewN | apply below_drew1) | exact HB.out)⟩
open Go.Proofs.Ytcopakljdenolaa.Gen   -- compacted234
def impl_areDocs.f (k : Nat) (l0 : List ByteArray) : Option (Bool) := if (l0.length : Int) <= 12 then ((slices_ContainsFunc_at89.f k l0).bind fun t164 => (some (!t164))) else (some false)
theorem impl_areDocs.mono : ∀ a0 k, LeO (impl_areDocs.f k a0) (impl_areDocs.f (k + 1) a0) := by
 intro a0 k
 unfold impl_areDocs.f
 repeat' (with_reducible first | exact slices_ContainsFunc_at89.mono _ _ | exact LeO.refl _ | exact LeO.none _ | refine LeO.ite ?_ ?_ | refine LeO.bind ?_ (fun _ => ?_))
theorem impl_areDocs.calls (k : Nat) (A0 : Option Addr) (c0 : Nat) (l0 : List ByteArray) (r : Bool) (w : World) (hr0 : Kd.C Kd.string w A0 l0.length l0) (hc0 : l0.length <= c0) (h : impl_areDocs.f k l0 = some r) :
  Calls Try.prog 58 #[.slice A0 l0.length c0] w fun e w' => e = .returned (.bool r) /\ Below w.heap.size w w' := by
 have HR0 := Aside0.mk hr0
 have HC0 := Aside0.mk hc0
 clear hr0 hc0
 have HB := Aside0.mk (Below.refl w.heap.size w)
 have H : (if (l0.length : Int) <= 12 then ((slices_ContainsFunc_at89.f k l0).bind fun t164 => (some (!t164))) else (some false)) = some r := h
 clear h
 by_cases c2 : (l0.length : Int) <= 12
 ·rw [if_pos c2] at H
  have c2b0 : decide ((l0.length : Int) <= 12) = true := decide_eq_true c2
  have c2b1 : decide (l0.length <= 12) = true := decide_eq_true (by omega)
  clear c2
  replace H := Option.bind_eq_some_iff.mp H
  obtain ⟨t164, A30, H⟩ := H
  replace H : (some (!t164)) = some r := H
  have A3 := Aside0.mk A30
  clear A30
  obtain rfl := Option.some.inj H
  go_enter Try.func58, Try.ntmps58
  go_wp2_with (first | (go_at_call 73; (with_reducible refine (slices_ContainsFunc_at89.calls k _ _ l0  t164 _ ?side1 ?side2 A3.out).mono ?_); (case side1 => refine cd_ ?_; exact HR0.out); (case side2 => exact HC0.out); rintro e w4 ⟨rfl, hb⟩; have n0_ := Aside0.mk (bs_ HB.out hb); clear HB; have HB := n0_; clear n0_; (try clear hb); (try clear hb2); (try clear hk); (try clear hi)))
  go_ret
  exact ⟨ew_, by repeat (first | (with_reducible first | exact HB.out | apply below_alloc | apply pw_below_drewN | apply below_drew1) | exact HB.out)⟩
 ·rw [if_neg c2] at H
  have c2b0 : decide ((l0.length : Int) <= 12) = false := decide_eq_false c2
  have c2b1 : decide (l0.length <= 12) = false := decide_eq_false (by omega)
  clear c2
  obtain rfl := Option.some.inj H
  go_enter Try.func58, Try.ntmps58
  go_wp2
  go_ret
  exact ⟨ew_, by repeat (first | (with_reducible first | exact HB.out | apply below_alloc | apply pw_below_drewN | apply below_drew1) | exact HB.out)⟩
open Go.Proofs.Ytcopakljdenolaa.Gen   -- compacted234
def impl_areLetters.l0 : Nat -> ByteArray -> Int -> Int -> Option (Bool)
 | 0, _, _, _ => none
 | k + 1, x0, x5, x6 => if x6 < x5 then (if 0 <= x6 then (if x6 < (x0.size : Int) then ((impl_isLetter.f (bt x0 x6)).bind fun t165 => (if t165 = true then (impl_areLetters.l0 k x0 x5 (wrap64 (x6 + 1))) else (some false))) else (none)) else (none)) else (some (decide ((x0.size : Int) <= 12)))
def impl_areLetters.f (k : Nat) (a0 : ByteArray) : Option (Bool) := impl_areLetters.l0 k a0 (a0.size : Int) 0
theorem impl_areLetters.mono_l : ∀ k, (∀ y0 y1 y2, LeO (impl_areLetters.l0 k y0 y1 y2) (impl_areLetters.l0 (k + 1) y0 y1 y2))
 | 0 => fun _ _ _ r h => by simp [impl_areLetters.l0] at h
 | k + 1 => by
  have ih0 := impl_areLetters.mono_l k
  ·intro y0 y1 y2
   unfold impl_areLetters.l0
   repeat' (with_reducible first | exact ih0 _ _ _ | exact LeO.refl _ | exact LeO.none _ | refine LeO.ite ?_ ?_ | refine LeO.bind ?_ (fun _ => ?_))
theorem impl_areLetters.mono : ∀ a0 k, LeO (impl_areLetters.f k a0) (impl_areLetters.f (k + 1) a0) := by
 intro a0 k
 have ih0 := impl_areLetters.mono_l k
 unfold impl_areLetters.f
 repeat' (with_reducible first | exact ih0 _ _ _ | exact LeO.refl _ | exact LeO.none _ | refine LeO.ite ?_ ?_ | refine LeO.bind ?_ (fun _ => ?_))
theorem impl_areLetters.calls (k : Nat) (a0 : ByteArray) (r : Bool) (w : World) (h : impl_areLetters.f k a0 = some r) :
  Calls Try.prog 90 #[.string a0] w fun e w' => e = .returned (.bool r) /\ Drawn0 w w' := by
 have H : (impl_areLetters.l0 k a0 (a0.size : Int) 0) = some r := h
 clear h
 have H' := Aside0.mk H
 clear H
 go_enter Try.func90, Try.ntmps90
 go_wp2
 go_loopg [6] k (fun kq v6 w' => ∃ (x6_1 : Int), v6 = .int .i64 x6_1 /\ Aside0 (impl_areLetters.l0 kq a0 (a0.size : Int) x6_1 = some r) /\ Aside0 (kq <= k) /\ Drawn0 w w')
 case atStart => exact ⟨(0), (by first | rfl | (simp; done) | (simp [*]; done)), H', ⟨Nat.le_refl _⟩, by repeat (first | exact Drawn0.refl _ | apply Drawn0.step)⟩
 case round =>
  clear H'
  obtain ⟨x6_1, rfl, HA, HK1, ⟨m1, rfl⟩⟩ := hrel
  cases gk with
  | zero => exact absurd HA.out (by simp [impl_areLetters.l0])
  | succ k1 =>
   have H := HA.out
   clear HA
   simp only [impl_areLetters.l0] at H
   by_cases c2 : x6_1 < (a0.size : Int)
   ·rw [if_pos c2] at H
    have c2b0 : decide (x6_1 < (a0.size : Int)) = true := decide_eq_true c2
    clear c2
    by_cases c3 : 0 <= x6_1
    ·rw [if_pos c3] at H
     have c3b0 : decide (0 <= x6_1) = true := decide_eq_true c3
     clear c3
     by_cases c4 : x6_1 < (a0.size : Int)
     ·rw [if_pos c4] at H
      have c4b0 : decide (x6_1 < (a0.size : Int)) = true := decide_eq_true c4
      clear c4
      replace H := Option.bind_eq_some_iff.mp H
      obtain ⟨t165, A60, H⟩ := H
      replace H : (if t165 = true then (impl_areLetters.l0 k1 a0 (a0.size : Int) (wrap64 (x6_1 + 1))) else (some false)) = some r := H
      have A6 := Aside0.mk A60
      clear A60
      by_cases c7 : t165 = true
      ·subst c7
       have H1 : (impl_areLetters.l0 k1 a0 (a0.size : Int) (wrap64 (x6_1 + 1))) = some r := by rw [if_pos rfl] at H; exact H
       clear H
       have H := H1
       clear H1
       have H' := Aside0.mk H
       clear H
       have p5 : 0 <= (x6_1 : Int) := of_decide_eq_true as_
       have q5 : x6_1 < (a0.size : Int) := of_decide_eq_true as_
       have hx5 := bt_at a0 x6_1
       replace p5 := eq_true p5
       replace q5 := eq_true q5
       go_wp2_with (first | ((with_reducible refine gate_callee (f := 88) rfl ?_); refine goesL_ (some 12) rfl rfl Try.func88 (by kernel_rfl) rfl #[.int .u8 (bt a0 x6_1)] rfl (ag_) ?_; (with_reducible refine (impl_isLetter.calls (bt a0 x6_1) true _ A6.out).mono ?_); rintro e w' ⟨rfl, ⟨nd, rfl⟩⟩; refine ⟨_, rfl, ?_⟩))
       go_roundg k1
       case measure => have := HK1.out; omega
       case rel => exact ⟨(wrap64 (x6_1 + 1)), (by first | rfl | (simp; done) | (simp [*]; done)), H', ⟨by have := HK1.out; omega⟩, by repeat (first | exact Drawn0.refl _ | apply Drawn0.step)⟩
      ·replace c7 := Bool.eq_false_iff.mpr c7
       subst c7
       have H1 : (some false) = some r := by rw [if_neg (show ¬ (false = true) by decide)] at H; exact H
       clear H
       have H := H1
       clear H1
       obtain rfl := Option.some.inj H
       have p5 : 0 <= (x6_1 : Int) := of_decide_eq_true as_
       have q5 : x6_1 < (a0.size : Int) := of_decide_eq_true as_
       have hx5 := bt_at a0 x6_1
       replace p5 := eq_true p5
       replace q5 := eq_true q5
       go_wp2_with (first | ((with_reducible refine gate_callee (f := 88) rfl ?_); refine goesL_ (some 12) rfl rfl Try.func88 (by kernel_rfl) rfl #[.int .u8 (bt a0 x6_1)] rfl (ag_) ?_; (with_reducible refine (impl_isLetter.calls (bt a0 x6_1) false _ A6.out).mono ?_); rintro e w' ⟨rfl, ⟨nd, rfl⟩⟩; refine ⟨_, rfl, ?_⟩))
       go_ret
       exact ⟨by first | rfl | (simp; done) | (simp [*]; done), by repeat (first | exact Drawn0.refl _ | apply Drawn0.step)⟩
     ·rw [if_neg c4] at H
      exact absurd H (by simp)
    ·rw [if_neg c3] at H
     exact absurd H (by simp)
   ·rw [if_neg c2] at H
    have c2b0 : decide (x6_1 < (a0.size : Int)) = false := decide_eq_false c2
    clear c2
    obtain rfl := Option.some.inj H
    go_wp2
    go_ret
    exact ⟨by first | rfl | (simp; done) | (simp [*]; done), by repeat (first | exact Drawn0.refl _ | apply Drawn0.step)⟩
open Go.Proofs.Ytcopakljdenolaa.Gen   -- compacted234
def impl_isWord.f (k : Nat) (a0 : ByteArray) : Option (Bool) := if a0.toList = ([] : List UInt8) then (some false) else ((impl_areLetters.f k a0).bind fun t166 => (some t166))
theorem impl_isWord.mono : ∀ a0 k, LeO (impl_isWord.f k a0) (impl_isWord.f (k + 1) a0) := by
 intro a0 k
 unfold impl_isWord.f
 repeat' (with_reducible first | exact impl_areLetters.mono _ _ | exact LeO.refl _ | exact LeO.none _ | refine LeO.ite ?_ ?_ | refine LeO.bind ?_ (fun _ => ?_))
theorem impl_isWord.calls (k : Nat) (a0 : ByteArray) (r : Bool) (w : World) (h : impl_isWord.f k a0 = some r) :
  Calls Try.prog 59 #[.string a0] w fun e w' => e = .returned (.bool r) /\ Drawn0 w w' := by
 have H : (if a0.toList = ([] : List UInt8) then (some false) else ((impl_areLetters.f k a0).bind fun t166 => (some t166))) = some r := h
 clear h
 by_cases c2 : a0.toList = ([] : List UInt8)
 ·rw [if_pos c2] at H
  have c2b0 : (a0.toList == ([] : List UInt8)) = true := beq_iff_eq.mpr c2
  have c2b1 : (a0.toList != ([] : List UInt8)) = false := bne_eq_false_iff_eq.mpr c2
  clear c2
  obtain rfl := Option.some.inj H
  go_enter Try.func59, Try.ntmps59
  go_wp2
  go_ret
  exact ⟨by first | rfl | (simp only [Go.Proofs.Ytcopakljdenolaa.Gen.nil_str, Go.Proofs.Ytcopakljdenolaa.Gen.gt_str]; first | done | rfl | (simp; done)) | (simp; done) | (simp [*]; done), by repeat (first | exact Drawn0.refl _ | apply Drawn0.step)⟩
 ·rw [if_neg c2] at H
  have c2b0 : (a0.toList == ([] : List UInt8)) = false := beq_eq_false_iff_ne.mpr c2
  have c2b1 : (a0.toList != ([] : List UInt8)) = true := bne_iff_ne.mpr c2
  replace H := Option.bind_eq_some_iff.mp H
  obtain ⟨t166, A30, H⟩ := H
  replace H : (some t166) = some r := H
  have A3 := Aside0.mk A30
  clear A30
  obtain rfl := Option.some.inj H
  go_enter Try.func59, Try.ntmps59
  go_wp2_with (first | (go_at_call 90; (with_reducible refine (impl_areLetters.calls k a0 t166 _ A3.out).mono ?_); rintro e w' ⟨rfl, ⟨nd, rfl⟩⟩))
  go_ret
  exact ⟨by first | rfl | (simp only [Go.Proofs.Ytcopakljdenolaa.Gen.nil_str, Go.Proofs.Ytcopakljdenolaa.Gen.gt_str]; first | done | rfl | (simp; done)) | (simp; done) | (simp [*]; done), by repeat (first | exact Drawn0.refl _ | apply Drawn0.step)⟩
open Go.Proofs.Ytcopakljdenolaa.Gen   -- compacted234
def impl_placesOf.l0 : Nat -> ByteArray -> List Int -> List ByteArray -> Int -> Int -> Option (List Int)
 | 0, _, _, _, _, _ => none
 | k + 1, x1, x5, x8, x9, x10 => if x10 < x9 then (if 0 <= x10 then (if x10 < (x8.length : Int) then (if (rdOf ByteArray.empty x8 x10).toList = x1.toList then (if x5.length < 17592186044416 then (impl_placesOf.l0 k x1 (x5 ++ [x10]) x8 x9 (wrap64 (x10 + 1))) else (none)) else (impl_placesOf.l0 k x1 x5 x8 x9 (wrap64 (x10 + 1)))) else (none)) else (none)) else (some x5)
def impl_placesOf.f (k : Nat) (l0 : List ByteArray) (a1 : ByteArray) : Option (List Int) := impl_placesOf.l0 k a1 ([] : List Int) l0 (l0.length : Int) 0
theorem impl_placesOf.mono_l : ∀ k, (∀ y0 y1 y2 y3 y4, LeO (impl_placesOf.l0 k y0 y1 y2 y3 y4) (impl_placesOf.l0 (k + 1) y0 y1 y2 y3 y4))
 | 0 => fun _ _ _ _ _ r h => by simp [impl_placesOf.l0] at h
 | k + 1 => by
  have ih0 := impl_placesOf.mono_l k
  ·intro y0 y1 y2 y3 y4
   unfold impl_placesOf.l0
   repeat' (with_reducible first | exact ih0 _ _ _ _ _ | exact LeO.refl _ | exact LeO.none _ | refine LeO.ite ?_ ?_ | refine LeO.bind ?_ (fun _ => ?_))
theorem impl_placesOf.mono : ∀ a0 a1 k, LeO (impl_placesOf.f k a0 a1) (impl_placesOf.f (k + 1) a0 a1) := by
 intro a0 a1 k
 have ih0 := impl_placesOf.mono_l k
 unfold impl_placesOf.f
 repeat' (with_reducible first | exact ih0 _ _ _ _ _ | exact LeO.refl _ | exact LeO.none _ | refine LeO.ite ?_ ?_ | refine LeO.bind ?_ (fun _ => ?_))
theorem impl_placesOf.calls (k : Nat) (A0 : Option Addr) (c0 : Nat) (l0 : List ByteArray) (a1 : ByteArray) (r : List Int) (w : World) (hr0 : Kd.C Kd.string w A0 l0.length l0) (hc0 : l0.length <= c0) (h : impl_placesOf.f k l0 a1 = some r) :
  Calls Try.prog 75 #[.slice A0 l0.length c0, .string a1] w fun e w' => ∃ v0_ : Value, e = .returned (v0_) /\ Kd.R (Kd.int .i64) 3 w' w.heap.size (fun _ => True) v0_ r /\ Below w.heap.size w w' := by
 have HR0 := Aside0.mk hr0
 have HC0 := Aside0.mk hc0
 clear hr0 hc0
 have HB := Aside0.mk (Below.refl w.heap.size w)
 have H : (impl_placesOf.l0 k a1 ([] : List Int) l0 (l0.length : Int) 0) = some r := h
 clear h
 have H' := Aside0.mk H
 clear H
 go_enter Try.func75, Try.ntmps75
 go_wp2
 go_loopg [5, 10] k (fun kq v5 v10 w' => ∃ (x5_1 : List Int) (x10_1 : Int), v10 = .int .i64 x10_1 /\ Aside0 (impl_placesOf.l0 kq a1 x5_1 l0 (l0.length : Int) x10_1 = some r) /\ Aside0 (kq <= k) /\ Aside0 (Kd.R (Kd.int .i64) 3 w' w.heap.size (fun _ => True) v5 x5_1) /\ Aside0 (Below w.heap.size w w'))
 case atStart => exact ⟨(([] : List Int)), (0), (by first | rfl | (simp; done) | (simp [*]; done)), H', ⟨Nat.le_refl _⟩, ⟨by first | exact Kd.R_nil _ _ _ _ _ | exact Kd.N_nil _ _ _ _ _ | exact Kd.V_nil _ _ _ _ _ | exact Kd.Q_nil _ _ _ _ _ | exact Kd.S_nil _ _ _ _ _⟩, ⟨be_ HB.out⟩⟩
 case round =>
  clear H'
  (try clear p2)
  obtain ⟨x5_1, x10_1, rfl, HA, HK1, HO_5, HB⟩ := hrel
  cases gk with
  | zero => exact absurd HA.out (by simp [impl_placesOf.l0])
  | succ k1 =>
   have H := HA.out
   clear HA
   simp only [impl_placesOf.l0] at H
   by_cases c3 : x10_1 < (l0.length : Int)
   ·rw [if_pos c3] at H
    have c3b0 : decide (x10_1 < (l0.length : Int)) = true := decide_eq_true c3
    clear c3
    by_cases c4 : 0 <= x10_1
    ·rw [if_pos c4] at H
     have c4b0 : decide (0 <= x10_1) = true := decide_eq_true c4
     clear c4
     by_cases c5 : x10_1 < (l0.length : Int)
     ·rw [if_pos c5] at H
      have c5b0 : decide (x10_1 < (l0.length : Int)) = true := decide_eq_true c5
      clear c5
      by_cases c6 : (rdOf ByteArray.empty l0 x10_1).toList = a1.toList
      ·rw [if_pos c6] at H
       have c6b0 : ((rdOf ByteArray.empty l0 x10_1).toList == a1.toList) = true := beq_iff_eq.mpr c6
       have c6b1 : ((rdOf ByteArray.empty l0 x10_1).toList != a1.toList) = false := bne_eq_false_iff_eq.mpr c6
       clear c6
       by_cases c7 : x5_1.length < 17592186044416
       ·rw [if_pos c7] at H
        have LMc7 := Aside0.mk c7
        clear c7
        obtain ⟨y168, hy168⟩ : ∃ y_ : List Int, y_ = (x5_1 ++ [x10_1]) := ⟨_, rfl⟩
        replace H : (impl_placesOf.l0 k1 a1 y168 l0 (l0.length : Int) (wrap64 (x10_1 + 1))) = some r := by first | (rw [hy168]; with_reducible exact H) | (have H2_ := (Option.bind_some _ _).symm.trans H; rw [hy168]; with_reducible exact H2_) | (have H2_ := (Option.bind_some _ _).symm.trans H; with_reducible exact H2_) | with_reducible exact H | (rw [hy168]; exact H) | exact H
        have Ny168 := Aside0.mk hy168
        clear hy168
        have H' := Aside0.mk H
        clear H
        have p167 : 0 <= (x10_1 : Int) := of_decide_eq_true as_
        have q167 : x10_1 < (l0.length : Int) := of_decide_eq_true as_
        obtain ⟨ad167, e167, hx167_0⟩ := Kd.at_string HR0.out x10_1 p167 q167
        cases e167
        replace hx167_0 := (HB.out.cell (World.block_lt_of_cell? w _ hx167_0)).trans hx167_0
        replace p167 := eq_true p167
        replace q167 := eq_true q167
        go_wp2_with (first | ((with_reducible refine gate_builtin (b := .append) (xs := #[.tmp 18, .tmp 20]) rfl ?_); at_builtin; refine Kd.R_append (Kd.int .i64) (w0 := w) w.heap.size rfl (.tmp 18) (.tmp 20) 47 3 (.int .i64 0) 8 rfl Try.underlying47 info3 rfl (by decide) (by omega) u5 x5_1 x10_1 [.int .i64 x10_1] (fun _ => True) (fun _ => False) rfl rfl ?aP (fun _ hk => hk.elim) ?aF ?aO ?aB ?aS ?aL ?_; (case aP => exact rfl); (case aB => exact (be_ HB.out)); (case aF => exact (fun _ _ => trivial)); (case aO => exact (rk_ HO_5.out)); (case aS => exact (bw_ HB.out)); (case aL => have := LMc7.out; omega); intro v169 w8 ho hb hg hat; rw [<- Ny168.out] at ho; have n0_ := Aside0.mk (hb); have n1_ := Aside0.mk (ho); clear HB; clear HO_5; have HB := n0_; have HO170 := n1_; clear n0_ n1_; clear ho hb hg hat))
        go_roundg k1
        case measure => have := HK1.out; omega
        case rel => exact ⟨(y168), (wrap64 (x10_1 + 1)), (by first | rfl | (simp; done) | (simp [*]; done)), H', ⟨by have := HK1.out; omega⟩, ⟨rk_ HO170.out⟩, ⟨be_ HB.out⟩⟩
       ·rw [if_neg c7] at H
        exact absurd H (by simp)
      ·rw [if_neg c6] at H
       have c6b0 : ((rdOf ByteArray.empty l0 x10_1).toList == a1.toList) = false := beq_eq_false_iff_ne.mpr c6
       have c6b1 : ((rdOf ByteArray.empty l0 x10_1).toList != a1.toList) = true := bne_iff_ne.mpr c6
       have H' := Aside0.mk H
       clear H
       have p167 : 0 <= (x10_1 : Int) := of_decide_eq_true as_
       have q167 : x10_1 < (l0.length : Int) := of_decide_eq_true as_
       obtain ⟨ad167, e167, hx167_0⟩ := Kd.at_string HR0.out x10_1 p167 q167
       cases e167
       replace hx167_0 := (HB.out.cell (World.block_lt_of_cell? w _ hx167_0)).trans hx167_0
       replace p167 := eq_true p167
       replace q167 := eq_true q167
       go_wp2
       go_roundg k1
       case measure => have := HK1.out; omega
       case rel => exact ⟨(x5_1), (wrap64 (x10_1 + 1)), (by first | rfl | (simp; done) | (simp [*]; done)), H', ⟨by have := HK1.out; omega⟩, ⟨rk_ HO_5.out⟩, ⟨be_ HB.out⟩⟩
     ·rw [if_neg c5] at H
      exact absurd H (by simp)
    ·rw [if_neg c4] at H
     exact absurd H (by simp)
   ·rw [if_neg c3] at H
    have c3b0 : decide (x10_1 < (l0.length : Int)) = false := decide_eq_false c3
    clear c3
    obtain rfl := Option.some.inj H
    go_wp2
    go_ret
    exact ⟨_, ew_, by (with_reducible repeat (first | apply Kd.R_alloc | apply Kd.R_drewN | apply Kd.R_drew)); exact HO_5.out, by repeat (first | (with_reducible first | exact HB.out | apply below_alloc | apply pw_below_drewN | apply below_drew1) | exact HB.out)⟩
open Go.Proofs.Ytcopakljdenolaa.Gen   -- compacted234
def impl_posts.l0 : Nat -> ByteArray -> List (S57) -> List ByteArray -> Int -> Int -> Option ((List (S57)))
 | 0, _, _, _, _, _ => none
 | k + 1, x1, x5, x9, x10, x11 => if x11 < x10 then (if 0 <= x11 then (if x11 < (x9.length : Int) then ((impl_words.f k (rdOf ByteArray.empty x9 x11)).bind fun t172 => ((impl_placesOf.f k t172 x1).bind fun t175 => (if (t175.length : Int) > 0 then (if x5.length < 4398046511104 then (impl_posts.l0 k x1 (x5 ++ [(⟨x11, t175⟩ : S57)]) x9 x10 (wrap64 (x11 + 1))) else (none)) else (impl_posts.l0 k x1 x5 x9 x10 (wrap64 (x11 + 1)))))) else (none)) else (none)) else (some x5)
def impl_posts.f (k : Nat) (l0 : List ByteArray) (a1 : ByteArray) : Option ((List (S57))) := impl_posts.l0 k a1 ([] : List (S57)) l0 (l0.length : Int) 0
theorem impl_posts.mono_l : ∀ k, (∀ y0 y1 y2 y3 y4, LeO (impl_posts.l0 k y0 y1 y2 y3 y4) (impl_posts.l0 (k + 1) y0 y1 y2 y3 y4))
 | 0 => fun _ _ _ _ _ r h => by simp [impl_posts.l0] at h
 | k + 1 => by
  have ih0 := impl_posts.mono_l k
  ·intro y0 y1 y2 y3 y4
   unfold impl_posts.l0
   repeat' (with_reducible first | exact ih0 _ _ _ _ _ | exact impl_placesOf.mono _ _ _ | exact impl_words.mono _ _ | exact LeO.refl _ | exact LeO.none _ | refine LeO.ite ?_ ?_ | refine LeO.bind ?_ (fun _ => ?_))
theorem impl_posts.mono : ∀ a0 a1 k, LeO (impl_posts.f k a0 a1) (impl_posts.f (k + 1) a0 a1) := by
 intro a0 a1 k
 have ih0 := impl_posts.mono_l k
 unfold impl_posts.f
 repeat' (with_reducible first | exact ih0 _ _ _ _ _ | exact impl_placesOf.mono _ _ _ | exact impl_words.mono _ _ | exact LeO.refl _ | exact LeO.none _ | refine LeO.ite ?_ ?_ | refine LeO.bind ?_ (fun _ => ?_))
theorem impl_posts.calls (k : Nat) (A0 : Option Addr) (c0 : Nat) (l0 : List ByteArray) (a1 : ByteArray) (r : List (S57)) (w : World) (hr0 : Kd.C Kd.string w A0 l0.length l0) (hc0 : l0.length <= c0) (h : impl_posts.f k l0 a1 = some r) :
  Calls Try.prog 60 #[.slice A0 l0.length c0, .string a1] w fun e w' => ∃ v0_ : Value, e = .returned (v0_) /\ Kd.S k57 57 w' w.heap.size (fun _ => True) v0_ r /\ Below w.heap.size w w' := by
 have hu57 := Try.underlying57
 have HR0 := Aside0.mk hr0
 have HC0 := Aside0.mk hc0
 clear hr0 hc0
 have HB := Aside0.mk (Below.refl w.heap.size w)
 have H : (impl_posts.l0 k a1 ([] : List (S57)) l0 (l0.length : Int) 0) = some r := h
 clear h
 have H' := Aside0.mk H
 clear H
 go_enter Try.func60, Try.ntmps60
 go_wp2
 go_loopg [5, 11] k (fun kq v5 v11 w' => ∃ (x5_1 : List (S57)) (x11_1 : Int), v11 = .int .i64 x11_1 /\ Aside0 (impl_posts.l0 kq a1 x5_1 l0 (l0.length : Int) x11_1 = some r) /\ Aside0 (kq <= k) /\ Aside0 (Kd.S k57 57 w' w.heap.size (fun _ => True) v5 x5_1) /\ Aside0 (Below w.heap.size w w'))
 case atStart => exact ⟨(([] : List (S57))), (0), (by first | rfl | (simp; done) | (simp [*]; done)), H', ⟨Nat.le_refl _⟩, ⟨by first | exact Kd.S_nil _ _ _ _ _ | exact Kd.N_nil _ _ _ _ _ | exact Kd.V_nil _ _ _ _ _ | exact Kd.Q_nil _ _ _ _ _ | exact Kd.R_nil _ _ _ _ _⟩, ⟨be_ HB.out⟩⟩
 case round =>
  clear H'
  (try clear p2)
  obtain ⟨x5_1, x11_1, rfl, HA, HK1, HO_5, HB⟩ := hrel
  cases gk with
  | zero => exact absurd HA.out (by simp [impl_posts.l0])
  | succ k1 =>
   have H := HA.out
   clear HA
   simp only [impl_posts.l0] at H
   by_cases c3 : x11_1 < (l0.length : Int)
   ·rw [if_pos c3] at H
    have c3b0 : decide (x11_1 < (l0.length : Int)) = true := decide_eq_true c3
    clear c3
    by_cases c4 : 0 <= x11_1
    ·rw [if_pos c4] at H
     have c4b0 : decide (0 <= x11_1) = true := decide_eq_true c4
     clear c4
     by_cases c5 : x11_1 < (l0.length : Int)
     ·rw [if_pos c5] at H
      have c5b0 : decide (x11_1 < (l0.length : Int)) = true := decide_eq_true c5
      clear c5
      replace H := Option.bind_eq_some_iff.mp H
      obtain ⟨t172, A60, H⟩ := H
      replace H : ((impl_placesOf.f k1 t172 a1).bind fun t175 => (if (t175.length : Int) > 0 then (if x5_1.length < 4398046511104 then (impl_posts.l0 k1 a1 (x5_1 ++ [(⟨x11_1, t175⟩ : S57)]) l0 (l0.length : Int) (wrap64 (x11_1 + 1))) else (none)) else (impl_posts.l0 k1 a1 x5_1 l0 (l0.length : Int) (wrap64 (x11_1 + 1))))) = some r := H
      have A6 := Aside0.mk A60
      clear A60
      replace H := Option.bind_eq_some_iff.mp H
      obtain ⟨t175, A70, H⟩ := H
      replace H : (if (t175.length : Int) > 0 then (if x5_1.length < 4398046511104 then (impl_posts.l0 k1 a1 (x5_1 ++ [(⟨x11_1, t175⟩ : S57)]) l0 (l0.length : Int) (wrap64 (x11_1 + 1))) else (none)) else (impl_posts.l0 k1 a1 x5_1 l0 (l0.length : Int) (wrap64 (x11_1 + 1)))) = some r := H
      have A7 := Aside0.mk A70
      clear A70
      by_cases c8 : (t175.length : Int) > 0
      ·rw [if_pos c8] at H
       have c8b0 : decide (0 < (t175.length : Int)) = true := decide_eq_true c8
       have c8b1 : decide (0 < t175.length) = true := decide_eq_true (by omega)
       clear c8
       by_cases c9 : x5_1.length < 4398046511104
       ·rw [if_pos c9] at H
        have LMc9 := Aside0.mk c9
        clear c9
        obtain ⟨y178, hy178⟩ : ∃ y_ : List (S57), y_ = (x5_1 ++ [(⟨x11_1, t175⟩ : S57)]) := ⟨_, rfl⟩
        replace H : (impl_posts.l0 k1 a1 y178 l0 (l0.length : Int) (wrap64 (x11_1 + 1))) = some r := by first | (rw [hy178]; with_reducible exact H) | (have H2_ := (Option.bind_some _ _).symm.trans H; rw [hy178]; with_reducible exact H2_) | (have H2_ := (Option.bind_some _ _).symm.trans H; with_reducible exact H2_) | with_reducible exact H | (rw [hy178]; exact H) | exact H
        have Ny178 := Aside0.mk hy178
        clear hy178
        have H' := Aside0.mk H
        clear H
        have p171 : 0 <= (x11_1 : Int) := of_decide_eq_true as_
        have q171 : x11_1 < (l0.length : Int) := of_decide_eq_true as_
        obtain ⟨ad171, e171, hx171_0⟩ := Kd.at_string HR0.out x11_1 p171 q171
        cases e171
        replace hx171_0 := (HB.out.cell (World.block_lt_of_cell? w _ hx171_0)).trans hx171_0
        replace p171 := eq_true p171
        replace q171 := eq_true q171
        go_wp2_with (first | ((with_reducible refine gate_callee (f := 53) rfl ?_); refine goesL_ (some 17) rfl rfl Try.func53 (by kernel_rfl) rfl #[.string (rdOf ByteArray.empty l0 x11_1)] rfl (ag_) ?_; (with_reducible refine (impl_words.calls k1 (rdOf ByteArray.empty l0 x11_1) t172 _ A6.out).mono ?_); rintro e w10 ⟨v173, rfl, ho0, hb⟩; refine ⟨_, rfl, ?_⟩; have n0_ := Aside0.mk (Kd.S_below (sk_ HO_5.out) hb); have n1_ := Aside0.mk (Kd.R_lower ho0 (bw_ HB.out)); have n2_ := Aside0.mk (bs_ HB.out hb); clear HO_5; clear HB; have HO_5 := n0_; have HO174 := n1_; have HB := n2_; clear n0_ n1_ n2_; (try clear hb); (try clear hb2); (try clear hk); (try clear hi); (try clear ho0); obtain ⟨Ao11, co11, eo11⟩ := Kd.R_slice HO174.out; subst eo11) | ((with_reducible refine gate_callee (f := 75) rfl ?_); refine goesL_ (some 19) rfl rfl Try.func75 (by kernel_rfl) rfl #[.slice Ao11 t172.length co11, .string a1] rfl (ag_) ?_; (with_reducible refine (impl_placesOf.calls k1 _ _ t172 a1 t175 _ ?side1 ?side2 A7.out).mono ?_); (case side1 => refine cd_ ?_; exact (Kd.R_reads' HO174.out).2.2); (case side2 => exact (Kd.R_reads' HO174.out).2.1); rintro e w12 ⟨v176, rfl, ho0, hb⟩; refine ⟨_, rfl, ?_⟩; have n0_ := Aside0.mk (Kd.S_elder' (sk_ HO_5.out) (Kd.R_base ho0) hb); have n1_ := Aside0.mk (Kd.R_below (rk_ HO174.out) hb); have n2_ := Aside0.mk (Kd.R_lower ho0 (bw_ HB.out)); have n3_ := Aside0.mk (bs_ HB.out hb); clear HO_5; clear HO174; clear HB; have HO_5 := n0_; have HO174 := n1_; have HO177 := n2_; have HB := n3_; clear n0_ n1_ n2_ n3_; (try clear hb); (try clear hb2); (try clear hk); (try clear hi); (try clear ho0); obtain ⟨Ao13, co13, eo13⟩ := Kd.R_slice HO177.out; subst eo13) | ((with_reducible refine gate_builtin (b := .append) (xs := #[.tmp 23, .tmp 27]) rfl ?_); at_builtin; refine Kd.S_append k57 (w0 := w) w.heap.size rfl (.tmp 23) (.tmp 27) 28 57 (.agg #[(.int .i64 0), (.slice none 0 0)]) 32 rfl Try.underlying28 info57 rfl (by decide) (by omega) u5 x5_1 (⟨x11_1, t175⟩ : S57) [.int .i64 x11_1, .slice Ao13 t175.length co13] (fun _ => True) (fun k_ => some k_ = (.slice Ao13 t175.length co13 : Value).ownBlock) rfl rfl ?aP (fun k_ hk_ => ((Kd.R_mono (ok' := fun k_ => ((fun _ => True)) k_ /\ some k_ ≠ (u5 : Value).ownBlock) (Kd.R_apart' (HO177.out) (Kd.S_typed HO_5.out) (by decide)) (fun k_ hk => ⟨trivial, hk.2⟩))).1 k_ hk_.symm) ?aF ?aO ?aB ?aS ?aL ?_; (case aP => exact k57_mkM _ _ _ (⟨x11_1, t175⟩ : S57) (Kd.R_mono (Kd.R_tight rfl (Kd.R_mono (ok' := fun k_ => ((fun _ => True)) k_ /\ some k_ ≠ (u5 : Value).ownBlock) (Kd.R_apart' (HO177.out) (Kd.S_typed HO_5.out) (by decide)) (fun k_ hk => ⟨trivial, hk.2⟩))) (fun _ h_ => h_))); (case aB => exact (be_ HB.out)); (case aF => exact (fun _ _ => trivial)); (case aO => exact (by (with_reducible repeat (first | apply Kd.S_alloc | apply Kd.S_drewN | apply Kd.S_drew)); exact Kd.S_mono HO_5.out (fun k_ hk => ⟨trivial, fun e_ => hk.2 e_⟩))); (case aS => exact (bw_ HB.out)); (case aL => have := LMc9.out; omega); intro v179 w14 ho hb hg hat; rw [<- Ny178.out] at ho; have n0_ := Aside0.mk (Kd.R_over' (rk_ HO174.out) (Kd.S_typed (sk_ HO_5.out)) (by decide) hg); have n1_ := Aside0.mk (hb); have n2_ := Aside0.mk (ho); clear HO174; clear HB; clear HO_5; clear HO177; have HO174 := n0_; have HB := n1_; have HO180 := n2_; clear n0_ n1_ n2_; clear ho hb hg hat))
        go_roundg k1
        case measure => have := HK1.out; omega
        case rel => exact ⟨(y178), (wrap64 (x11_1 + 1)), (by first | rfl | (simp; done) | (simp [*]; done)), H', ⟨by have := HK1.out; omega⟩, ⟨sk_ HO180.out⟩, ⟨be_ HB.out⟩⟩
       ·rw [if_neg c9] at H
        exact absurd H (by simp)
      ·rw [if_neg c8] at H
       have c8b0 : decide (0 < (t175.length : Int)) = false := decide_eq_false c8
       have c8b1 : decide (0 < t175.length) = false := decide_eq_false (by omega)
       clear c8
       have H' := Aside0.mk H
       clear H
       have p171 : 0 <= (x11_1 : Int) := of_decide_eq_true as_
       have q171 : x11_1 < (l0.length : Int) := of_decide_eq_true as_
       obtain ⟨ad171, e171, hx171_0⟩ := Kd.at_string HR0.out x11_1 p171 q171
       cases e171
       replace hx171_0 := (HB.out.cell (World.block_lt_of_cell? w _ hx171_0)).trans hx171_0
       replace p171 := eq_true p171
       replace q171 := eq_true q171
       go_wp2_with (first | ((with_reducible refine gate_callee (f := 53) rfl ?_); refine goesL_ (some 17) rfl rfl Try.func53 (by kernel_rfl) rfl #[.string (rdOf ByteArray.empty l0 x11_1)] rfl (ag_) ?_; (with_reducible refine (impl_words.calls k1 (rdOf ByteArray.empty l0 x11_1) t172 _ A6.out).mono ?_); rintro e w15 ⟨v173, rfl, ho0, hb⟩; refine ⟨_, rfl, ?_⟩; have n0_ := Aside0.mk (Kd.S_below (sk_ HO_5.out) hb); have n1_ := Aside0.mk (Kd.R_lower ho0 (bw_ HB.out)); have n2_ := Aside0.mk (bs_ HB.out hb); clear HO_5; clear HB; have HO_5 := n0_; have HO174 := n1_; have HB := n2_; clear n0_ n1_ n2_; (try clear hb); (try clear hb2); (try clear hk); (try clear hi); (try clear ho0); obtain ⟨Ao16, co16, eo16⟩ := Kd.R_slice HO174.out; subst eo16) | ((with_reducible refine gate_callee (f := 75) rfl ?_); refine goesL_ (some 19) rfl rfl Try.func75 (by kernel_rfl) rfl #[.slice Ao16 t172.length co16, .string a1] rfl (ag_) ?_; (with_reducible refine (impl_placesOf.calls k1 _ _ t172 a1 t175 _ ?side1 ?side2 A7.out).mono ?_); (case side1 => refine cd_ ?_; exact (Kd.R_reads' HO174.out).2.2); (case side2 => exact (Kd.R_reads' HO174.out).2.1); rintro e w17 ⟨v176, rfl, ho0, hb⟩; refine ⟨_, rfl, ?_⟩; have n0_ := Aside0.mk (Kd.S_elder' (sk_ HO_5.out) (Kd.R_base ho0) hb); have n1_ := Aside0.mk (Kd.R_below (rk_ HO174.out) hb); have n2_ := Aside0.mk (Kd.R_lower ho0 (bw_ HB.out)); have n3_ := Aside0.mk (bs_ HB.out hb); clear HO_5; clear HO174; clear HB; have HO_5 := n0_; have HO174 := n1_; have HO177 := n2_; have HB := n3_; clear n0_ n1_ n2_ n3_; (try clear hb); (try clear hb2); (try clear hk); (try clear hi); (try clear ho0); obtain ⟨Ao18, co18, eo18⟩ := Kd.R_slice HO177.out; subst eo18))
       go_roundg k1
       case measure => have := HK1.out; omega
       case rel => exact ⟨(x5_1), (wrap64 (x11_1 + 1)), (by first | rfl | (simp; done) | (simp [*]; done)), H', ⟨by have := HK1.out; omega⟩, ⟨by (with_reducible repeat (first | apply Kd.S_alloc | apply Kd.S_drewN | apply Kd.S_drew)); exact Kd.S_mono HO_5.out (fun _ hk => trivial)⟩, ⟨be_ HB.out⟩⟩
     ·rw [if_neg c5] at H
      exact absurd H (by simp)
    ·rw [if_neg c4] at H
     exact absurd H (by simp)
   ·rw [if_neg c3] at H
    have c3b0 : decide (x11_1 < (l0.length : Int)) = false := decide_eq_false c3
    clear c3
    obtain rfl := Option.some.inj H
    go_wp2
    go_ret
    exact ⟨_, ew_, by (with_reducible repeat (first | apply Kd.S_alloc | apply Kd.S_drewN | apply Kd.S_drew)); exact HO_5.out, by repeat (first | (with_reducible first | exact HB.out | apply below_alloc | apply pw_below_drewN | apply below_drew1) | exact HB.out)⟩
open Go.Proofs.Ytcopakljdenolaa.Gen   -- compacted234
def impl_PostsOf.f (k : Nat) (l0 : List ByteArray) (a1 : ByteArray) : Option ((List (S57)) × Bool) := (impl_areDocs.f k l0).bind fun t181 => (if t181 = true then ((impl_isWord.f k a1).bind fun t182 => (if t182 = true then ((impl_posts.f k l0 a1).bind fun t183 => (some (t183, true))) else (some (([] : List (S57)), false)))) else (some (([] : List (S57)), false)))
theorem impl_PostsOf.mono : ∀ a0 a1 k, LeO (impl_PostsOf.f k a0 a1) (impl_PostsOf.f (k + 1) a0 a1) := by
 intro a0 a1 k
 unfold impl_PostsOf.f
 repeat' (with_reducible first | exact impl_areDocs.mono _ _ | exact impl_isWord.mono _ _ | exact impl_posts.mono _ _ _ | exact LeO.refl _ | exact LeO.none _ | refine LeO.ite ?_ ?_ | refine LeO.bind ?_ (fun _ => ?_))
theorem impl_PostsOf.calls (k : Nat) (A0 : Option Addr) (c0 : Nat) (l0 : List ByteArray) (a1 : ByteArray) (r1 : List (S57)) (r2 : Bool) (w : World) (hr0 : Kd.C Kd.string w A0 l0.length l0) (hc0 : l0.length <= c0) (h : impl_PostsOf.f k l0 a1 = some (r1, r2)) :
  Calls Try.prog 21 #[.slice A0 l0.length c0, .string a1] w fun e w' => ∃ v0_ : Value, e = .returned (.tuple #[v0_, .bool r2]) /\ Kd.S k57 57 w' w.heap.size (fun _ => True) v0_ r1 /\ Below w.heap.size w w' := by
 have HR0 := Aside0.mk hr0
 have HC0 := Aside0.mk hc0
 clear hr0 hc0
 have HB := Aside0.mk (Below.refl w.heap.size w)
 have H : ((impl_areDocs.f k l0).bind fun t181 => (if t181 = true then ((impl_isWord.f k a1).bind fun t182 => (if t182 = true then ((impl_posts.f k l0 a1).bind fun t183 => (some (t183, true))) else (some (([] : List (S57)), false)))) else (some (([] : List (S57)), false)))) = some (r1, r2) := h
 clear h
 replace H := Option.bind_eq_some_iff.mp H
 obtain ⟨t181, A30, H⟩ := H
 replace H : (if t181 = true then ((impl_isWord.f k a1).bind fun t182 => (if t182 = true then ((impl_posts.f k l0 a1).bind fun t183 => (some (t183, true))) else (some (([] : List (S57)), false)))) else (some (([] : List (S57)), false))) = some (r1, r2) := H
 have A3 := Aside0.mk A30
 clear A30
 by_cases c4 : t181 = true
 ·subst c4
  have H1 : ((impl_isWord.f k a1).bind fun t182 => (if t182 = true then ((impl_posts.f k l0 a1).bind fun t183 => (some (t183, true))) else (some (([] : List (S57)), false)))) = some (r1, r2) := by rw [if_pos rfl] at H; exact H
  clear H
  have H := H1
  clear H1
  replace H := Option.bind_eq_some_iff.mp H
  obtain ⟨t182, A50, H⟩ := H
  replace H : (if t182 = true then ((impl_posts.f k l0 a1).bind fun t183 => (some (t183, true))) else (some (([] : List (S57)), false))) = some (r1, r2) := H
  have A5 := Aside0.mk A50
  clear A50
  by_cases c6 : t182 = true
  ·subst c6
   have H1 : ((impl_posts.f k l0 a1).bind fun t183 => (some (t183, true))) = some (r1, r2) := by rw [if_pos rfl] at H; exact H
   clear H
   have H := H1
   clear H1
   replace H := Option.bind_eq_some_iff.mp H
   obtain ⟨t183, A70, H⟩ := H
   replace H : (some (t183, true)) = some (r1, r2) := H
   have A7 := Aside0.mk A70
   clear A70
   simp only [Option.some.injEq, Prod.mk.injEq] at H
   obtain ⟨rfl, rfl⟩ := H
   go_enter Try.func21, Try.ntmps21
   go_wp2_with (first | ((with_reducible refine gate_callee (f := 58) rfl ?_); refine goesL_ (some 7) rfl rfl Try.func58 (by kernel_rfl) rfl #[.slice A0 l0.length c0] rfl (ag_) ?_; (with_reducible refine (impl_areDocs.calls k _ _ l0 true _ ?side1 ?side2 A3.out).mono ?_); (case side1 => refine cd_ ?_; exact HR0.out); (case side2 => exact HC0.out); rintro e w8 ⟨rfl, hb⟩; refine ⟨_, rfl, ?_⟩; have n0_ := Aside0.mk (bs_ HB.out hb); clear HB; have HB := n0_; clear n0_; (try clear hb); (try clear hb2); (try clear hk); (try clear hi)) | (go_at_call 59; (with_reducible refine (impl_isWord.calls k a1 true _ A5.out).mono ?_); rintro e w' ⟨rfl, ⟨nd, rfl⟩⟩) | ((with_reducible refine gate_callee (f := 60) rfl ?_); refine goesL_ (some 16) rfl rfl Try.func60 (by kernel_rfl) rfl #[.slice A0 l0.length c0, .string a1] rfl (ag_) ?_; (with_reducible refine (impl_posts.calls k _ _ l0 a1 t183 _ ?side1 ?side2 A7.out).mono ?_); (case side1 => repeat (first | exact (Kd.C_below HR0.out (be_ HB.out)) | (with_reducible refine Kd.C_alloc ?_ _) | (with_reducible refine Kd.C_drewN ?_ _) | (with_reducible refine Kd.C_drew ?_))); (case side2 => exact HC0.out); rintro e w9 ⟨v184, rfl, ho0, hb⟩; refine ⟨_, rfl, ?_⟩; have n0_ := Aside0.mk (Kd.S_lower ho0 (bw_ HB.out)); have n1_ := Aside0.mk (bs_ HB.out hb); clear HB; have HO185 := n0_; have HB := n1_; clear n0_ n1_; (try clear hb); (try clear hb2); (try clear hk); (try clear hi); (try clear ho0)))
   go_ret2
   exact ⟨_, ew_, by (with_reducible repeat (first | apply Kd.S_alloc | apply Kd.S_drewN | apply Kd.S_drew)); exact HO185.out, by repeat (first | (with_reducible first | exact HB.out | apply below_alloc | apply pw_below_drewN | apply below_drew1) | exact HB.out)⟩
  ·replace c6 := Bool.eq_false_iff.mpr c6
   subst c6
   have H1 : (some (([] : List (S57)), false)) = some (r1, r2) := by rw [if_neg (show ¬ (false = true) by decide)] at H; exact H
   clear H
   have H := H1
   clear H1
   simp only [Option.some.injEq, Prod.mk.injEq] at H
   obtain ⟨rfl, rfl⟩ := H
   go_enter Try.func21, Try.ntmps21
   go_wp2_with (first | ((with_reducible refine gate_callee (f := 58) rfl ?_); refine goesL_ (some 7) rfl rfl Try.func58 (by kernel_rfl) rfl #[.slice A0 l0.length c0] rfl (ag_) ?_; (with_reducible refine (impl_areDocs.calls k _ _ l0 true _ ?side1 ?side2 A3.out).mono ?_); (case side1 => refine cd_ ?_; exact HR0.out); (case side2 => exact HC0.out); rintro e w10 ⟨rfl, hb⟩; refine ⟨_, rfl, ?_⟩; have n0_ := Aside0.mk (bs_ HB.out hb); clear HB; have HB := n0_; clear n0_; (try clear hb); (try clear hb2); (try clear hk); (try clear hi)) | (go_at_call 59; (with_reducible refine (impl_isWord.calls k a1 false _ A5.out).mono ?_); rintro e w' ⟨rfl, ⟨nd, rfl⟩⟩))
   go_ret2
   exact ⟨_, ew_, by first | exact Kd.S_nil _ _ _ _ _ | exact Kd.N_nil _ _ _ _ _ | exact Kd.V_nil _ _ _ _ _ | exact Kd.Q_nil _ _ _ _ _ | exact Kd.R_nil _ _ _ _ _, by repeat (first | (with_reducible first | exact HB.out | apply below_alloc | apply pw_below_drewN | apply below_drew1) | exact HB.out)⟩
 ·replace c4 := Bool.eq_false_iff.mpr c4
  subst c4
  have H1 : (some (([] : List (S57)), false)) = some (r1, r2) := by rw [if_neg (show ¬ (false = true) by decide)] at H; exact H
  clear H
  have H := H1
  clear H1
  simp only [Option.some.injEq, Prod.mk.injEq] at H
  obtain ⟨rfl, rfl⟩ := H
  go_enter Try.func21, Try.ntmps21
  go_wp2_with (first | ((with_reducible refine gate_callee (f := 58) rfl ?_); refine goesL_ (some 7) rfl rfl Try.func58 (by kernel_rfl) rfl #[.slice A0 l0.length c0] rfl (ag_) ?_; (with_reducible refine (impl_areDocs.calls k _ _ l0 false _ ?side1 ?side2 A3.out).mono ?_); (case side1 => refine cd_ ?_; exact HR0.out); (case side2 => exact HC0.out); rintro e w11 ⟨rfl, hb⟩; refine ⟨_, rfl, ?_⟩; have n0_ := Aside0.mk (bs_ HB.out hb); clear HB; have HB := n0_; clear n0_; (try clear hb); (try clear hb2); (try clear hk); (try clear hi)))
  go_ret2
  exact ⟨_, ew_, by first | exact Kd.S_nil _ _ _ _ _ | exact Kd.N_nil _ _ _ _ _ | exact Kd.V_nil _ _ _ _ _ | exact Kd.Q_nil _ _ _ _ _ | exact Kd.R_nil _ _ _ _ _, by repeat (first | (with_reducible first | exact HB.out | apply below_alloc | apply pw_below_drewN | apply below_drew1) | exact HB.out)⟩
open Go.Proofs.Ytcopakljdenolaa.Gen   -- compacted234
def spec_l1In.f (a0 : Int) (a1 : Int) (a2 : Int) : Option (Bool) := if a0 ≥ a1 then (some (decide (a0 <= a2))) else (some false)
theorem spec_l1In.calls (a0 : Int) (a1 : Int) (a2 : Int) (r : Bool) (w : World) (h : spec_l1In.f a0 a1 a2 = some r) :
  Calls Try.prog 67 #[.int .i64 a0, .int .i64 a1, .int .i64 a2] w fun e w' => e = .returned (.bool r) /\ Drawn0 w w' := by
 have H : (if a0 ≥ a1 then (some (decide (a0 <= a2))) else (some false)) = some r := h
 clear h
 by_cases c4 : a0 ≥ a1
 ·rw [if_pos c4] at H
  have c4b0 : decide (a1 <= a0) = true := decide_eq_true c4
  clear c4
  obtain rfl := Option.some.inj H
  go_enter Try.func67, Try.ntmps67
  go_wp2
  go_ret
  exact ⟨by first | rfl | (simp; done) | (simp [*]; done), by repeat (first | exact Drawn0.refl _ | apply Drawn0.step)⟩
 ·rw [if_neg c4] at H
  have c4b0 : decide (a1 <= a0) = false := decide_eq_false c4
  clear c4
  obtain rfl := Option.some.inj H
  go_enter Try.func67, Try.ntmps67
  go_wp2
  go_ret
  exact ⟨by first | rfl | (simp; done) | (simp [*]; done), by repeat (first | exact Drawn0.refl _ | apply Drawn0.step)⟩
open Go.Proofs.Ytcopakljdenolaa.Gen   -- compacted234
def spec_l1Rising.l0 : Nat -> List Int -> Int -> Int -> List Int -> Int -> Int -> Option (Bool)
 | 0, _, _, _, _, _, _ => none
 | k + 1, x0, x1, x2, x9, x10, x11 => if x11 < x10 then (if 0 <= x11 then (if x11 < (x9.length : Int) then ((spec_l1In.f (rd x9 x11) x1 x2).bind fun t222 => (if t222 = true then (if x11 > 0 then (if 0 <= (wrap64 (x11 - 1)) then (if (wrap64 (x11 - 1)) < (x0.length : Int) then (if (rd x0 (wrap64 (x11 - 1))) ≥ (rd x9 x11) then (some false) else (spec_l1Rising.l0 k x0 x1 x2 x9 x10 (wrap64 (x11 + 1)))) else (none)) else (none)) else (spec_l1Rising.l0 k x0 x1 x2 x9 x10 (wrap64 (x11 + 1)))) else (some false))) else (none)) else (none)) else (some true)
def spec_l1Rising.f (k : Nat) (l0 : List Int) (a1 : Int) (a2 : Int) : Option (Bool) := spec_l1Rising.l0 k l0 a1 a2 l0 (l0.length : Int) 0
theorem spec_l1Rising.mono_l : ∀ k, (∀ y0 y1 y2 y3 y4 y5, LeO (spec_l1Rising.l0 k y0 y1 y2 y3 y4 y5) (spec_l1Rising.l0 (k + 1) y0 y1 y2 y3 y4 y5))
 | 0 => fun _ _ _ _ _ _ r h => by simp [spec_l1Rising.l0] at h
 | k + 1 => by
  have ih0 := spec_l1Rising.mono_l k
  ·intro y0 y1 y2 y3 y4 y5
   unfold spec_l1Rising.l0
   repeat' (with_reducible first | exact ih0 _ _ _ _ _ _ | exact LeO.refl _ | exact LeO.none _ | refine LeO.ite ?_ ?_ | refine LeO.bind ?_ (fun _ => ?_))
theorem spec_l1Rising.mono : ∀ a0 a1 a2 k, LeO (spec_l1Rising.f k a0 a1 a2) (spec_l1Rising.f (k + 1) a0 a1 a2) := by
 intro a0 a1 a2 k
 have ih0 := spec_l1Rising.mono_l k
 unfold spec_l1Rising.f
 repeat' (with_reducible first | exact ih0 _ _ _ _ _ _ | exact LeO.refl _ | exact LeO.none _ | refine LeO.ite ?_ ?_ | refine LeO.bind ?_ (fun _ => ?_))
theorem spec_l1Rising.calls (k : Nat) (A0 : Option Addr) (c0 : Nat) (l0 : List Int) (a1 : Int) (a2 : Int) (r : Bool) (w : World) (hr0 : Kd.C (Kd.int .i64) w A0 l0.length l0) (hc0 : l0.length <= c0) (h : spec_l1Rising.f k l0 a1 a2 = some r) :
  Calls Try.prog 68 #[.slice A0 l0.length c0, .int .i64 a1, .int .i64 a2] w fun e w' => e = .returned (.bool r) /\ Drawn0 w w' := by
 have HR0 := Aside0.mk hr0
 have HC0 := Aside0.mk hc0
 clear hr0 hc0
 have H : (spec_l1Rising.l0 k l0 a1 a2 l0 (l0.length : Int) 0) = some r := h
 clear h
 have H' := Aside0.mk H
 clear H
 go_enter Try.func68, Try.ntmps68
 go_wp2
 go_loopg [11] k (fun kq v11 w' => ∃ (x11_1 : Int), v11 = .int .i64 x11_1 /\ Aside0 (spec_l1Rising.l0 kq l0 a1 a2 l0 (l0.length : Int) x11_1 = some r) /\ Aside0 (kq <= k) /\ Drawn0 w w')
 case atStart => exact ⟨(0), (by first | rfl | (simp; done) | (simp [*]; done)), H', ⟨Nat.le_refl _⟩, by repeat (first | exact Drawn0.refl _ | apply Drawn0.step)⟩
 case round =>
  clear H'
  (try clear p2)
  obtain ⟨x11_1, rfl, HA, HK1, ⟨m1, rfl⟩⟩ := hrel
  cases gk with
  | zero => exact absurd HA.out (by simp [spec_l1Rising.l0])
  | succ k1 =>
   have H := HA.out
   clear HA
   simp only [spec_l1Rising.l0] at H
   by_cases c4 : x11_1 < (l0.length : Int)
   ·rw [if_pos c4] at H
    have c4b0 : decide (x11_1 < (l0.length : Int)) = true := decide_eq_true c4
    clear c4
    by_cases c5 : 0 <= x11_1
    ·rw [if_pos c5] at H
     have c5b0 : decide (0 <= x11_1) = true := decide_eq_true c5
     clear c5
     by_cases c6 : x11_1 < (l0.length : Int)
     ·rw [if_pos c6] at H
      have c6b0 : decide (x11_1 < (l0.length : Int)) = true := decide_eq_true c6
      clear c6
      replace H := Option.bind_eq_some_iff.mp H
      obtain ⟨t222, A70, H⟩ := H
      replace H : (if t222 = true then (if x11_1 > 0 then (if 0 <= (wrap64 (x11_1 - 1)) then (if (wrap64 (x11_1 - 1)) < (l0.length : Int) then (if (rd l0 (wrap64 (x11_1 - 1))) ≥ (rd l0 x11_1) then (some false) else (spec_l1Rising.l0 k1 l0 a1 a2 l0 (l0.length : Int) (wrap64 (x11_1 + 1)))) else (none)) else (none)) else (spec_l1Rising.l0 k1 l0 a1 a2 l0 (l0.length : Int) (wrap64 (x11_1 + 1)))) else (some false)) = some r := H
      have A7 := Aside0.mk A70
      clear A70
      by_cases c8 : t222 = true
      ·subst c8
       have H1 : (if x11_1 > 0 then (if 0 <= (wrap64 (x11_1 - 1)) then (if (wrap64 (x11_1 - 1)) < (l0.length : Int) then (if (rd l0 (wrap64 (x11_1 - 1))) ≥ (rd l0 x11_1) then (some false) else (spec_l1Rising.l0 k1 l0 a1 a2 l0 (l0.length : Int) (wrap64 (x11_1 + 1)))) else (none)) else (none)) else (spec_l1Rising.l0 k1 l0 a1 a2 l0 (l0.length : Int) (wrap64 (x11_1 + 1)))) = some r := by rw [if_pos rfl] at H; exact H
       clear H
       have H := H1
       clear H1
       by_cases c9 : x11_1 > 0
       ·rw [if_pos c9] at H
        have c9b0 : decide (0 < x11_1) = true := decide_eq_true c9
        clear c9
        obtain ⟨ji10, hji10⟩ : ∃ j_ : Int, (wrap64 (x11_1 - 1)) = j_ := ⟨_, rfl⟩
        replace H : (if 0 <= (ji10) then (if (ji10) < (l0.length : Int) then (if (rd l0 (ji10)) ≥ (rd l0 x11_1) then (some false) else (spec_l1Rising.l0 k1 l0 a1 a2 l0 (l0.length : Int) (wrap64 (x11_1 + 1)))) else (none)) else (none)) = some r := by first | (rw [hji10] at H; exact H) | (simp only [hji10] at H ⊢; exact H)
        (try rw [hji10] at A7)
        have hji10w : (IntKind.i64.wrap (x11_1 - 1)) = ji10 := (i64_w _).trans hji10
        by_cases c11 : 0 <= (ji10)
        ·rw [if_pos c11] at H
         have c11b0 : decide (0 <= (ji10)) = true := decide_eq_true c11
         clear c11
         by_cases c12 : (ji10) < (l0.length : Int)
         ·rw [if_pos c12] at H
          have c12b0 : decide ((ji10) < (l0.length : Int)) = true := decide_eq_true c12
          clear c12
          by_cases c13 : (rd l0 (ji10)) ≥ (rd l0 x11_1)
          ·rw [if_pos c13] at H
           have c13b0 : decide ((rd l0 x11_1) <= (rd l0 (ji10))) = true := decide_eq_true c13
           clear c13
           obtain rfl := Option.some.inj H
           have p221 : 0 <= (x11_1 : Int) := of_decide_eq_true as_
           have q221 : x11_1 < (l0.length : Int) := of_decide_eq_true as_
           obtain ⟨ad221, e221, hx221_0⟩ := Kd.at_int HR0.out x11_1 p221 q221
           cases e221
           replace p221 := eq_true p221
           replace q221 := eq_true q221
           go_wp2_with (first | ((with_reducible refine gate_callee (f := 67) rfl ?_); refine goesL_ (some 19) rfl rfl Try.func67 (by kernel_rfl) rfl #[.int .i64 (rd l0 x11_1), .int .i64 a1, .int .i64 a2] rfl (ag_) ?_; (with_reducible refine (spec_l1In.calls (rd l0 x11_1) a1 a2 true _ A7.out).mono ?_); rintro e w' ⟨rfl, ⟨nd, rfl⟩⟩; refine ⟨_, rfl, ?_⟩; have p223 : 0 <= ((ji10) : Int) := of_decide_eq_true as_; have q223 : (ji10) < (l0.length : Int) := of_decide_eq_true as_; obtain ⟨ad223, e223, hx223_0⟩ := Kd.at_int HR0.out (ji10) p223 q223; obtain rfl : ad221 = ad223 := (by injection e223); replace p223 := eq_true p223; replace q223 := eq_true q223))
           go_ret
           exact ⟨by first | rfl | (simp; done) | (simp only [<- hji10] <;> (first | rfl | simp)) | (simp [*]; done), by repeat (first | exact Drawn0.refl _ | apply Drawn0.step)⟩
          ·rw [if_neg c13] at H
           have c13b0 : decide ((rd l0 x11_1) <= (rd l0 (ji10))) = false := decide_eq_false c13
           clear c13
           have H' := Aside0.mk H
           clear H
           have p221 : 0 <= (x11_1 : Int) := of_decide_eq_true as_
           have q221 : x11_1 < (l0.length : Int) := of_decide_eq_true as_
           obtain ⟨ad221, e221, hx221_0⟩ := Kd.at_int HR0.out x11_1 p221 q221
           cases e221
           replace p221 := eq_true p221
           replace q221 := eq_true q221
           go_wp2_with (first | ((with_reducible refine gate_callee (f := 67) rfl ?_); refine goesL_ (some 19) rfl rfl Try.func67 (by kernel_rfl) rfl #[.int .i64 (rd l0 x11_1), .int .i64 a1, .int .i64 a2] rfl (ag_) ?_; (with_reducible refine (spec_l1In.calls (rd l0 x11_1) a1 a2 true _ A7.out).mono ?_); rintro e w' ⟨rfl, ⟨nd, rfl⟩⟩; refine ⟨_, rfl, ?_⟩; have p223 : 0 <= ((ji10) : Int) := of_decide_eq_true as_; have q223 : (ji10) < (l0.length : Int) := of_decide_eq_true as_; obtain ⟨ad223, e223, hx223_0⟩ := Kd.at_int HR0.out (ji10) p223 q223; obtain rfl : ad221 = ad223 := (by injection e223); replace p223 := eq_true p223; replace q223 := eq_true q223))
           go_roundg k1
           case measure => have := HK1.out; omega
           case rel => exact ⟨(wrap64 (x11_1 + 1)), (by first | rfl | (simp; done) | (simp [*]; done)), H', ⟨by have := HK1.out; omega⟩, by repeat (first | exact Drawn0.refl _ | apply Drawn0.step)⟩
         ·rw [if_neg c12] at H
          exact absurd H (by simp)
        ·rw [if_neg c11] at H
         exact absurd H (by simp)
       ·rw [if_neg c9] at H
        have c9b0 : decide (0 < x11_1) = false := decide_eq_false c9
        clear c9
        have H' := Aside0.mk H
        clear H
        have p221 : 0 <= (x11_1 : Int) := of_decide_eq_true as_
        have q221 : x11_1 < (l0.length : Int) := of_decide_eq_true as_
        obtain ⟨ad221, e221, hx221_0⟩ := Kd.at_int HR0.out x11_1 p221 q221
        cases e221
        replace p221 := eq_true p221
        replace q221 := eq_true q221
        go_wp2_with (first | ((with_reducible refine gate_callee (f := 67) rfl ?_); refine goesL_ (some 19) rfl rfl Try.func67 (by kernel_rfl) rfl #[.int .i64 (rd l0 x11_1), .int .i64 a1, .int .i64 a2] rfl (ag_) ?_; (with_reducible refine (spec_l1In.calls (rd l0 x11_1) a1 a2 true _ A7.out).mono ?_); rintro e w' ⟨rfl, ⟨nd, rfl⟩⟩; refine ⟨_, rfl, ?_⟩))
        go_roundg k1
        case measure => have := HK1.out; omega
        case rel => exact ⟨(wrap64 (x11_1 + 1)), (by first | rfl | (simp; done) | (simp [*]; done)), H', ⟨by have := HK1.out; omega⟩, by repeat (first | exact Drawn0.refl _ | apply Drawn0.step)⟩
      ·replace c8 := Bool.eq_false_iff.mpr c8
       subst c8
       have H1 : (some false) = some r := by rw [if_neg (show ¬ (false = true) by decide)] at H; exact H
       clear H
       have H := H1
       clear H1
       obtain rfl := Option.some.inj H
       have p221 : 0 <= (x11_1 : Int) := of_decide_eq_true as_
       have q221 : x11_1 < (l0.length : Int) := of_decide_eq_true as_
       obtain ⟨ad221, e221, hx221_0⟩ := Kd.at_int HR0.out x11_1 p221 q221
       cases e221
       replace p221 := eq_true p221
       replace q221 := eq_true q221
       go_wp2_with (first | ((with_reducible refine gate_callee (f := 67) rfl ?_); refine goesL_ (some 19) rfl rfl Try.func67 (by kernel_rfl) rfl #[.int .i64 (rd l0 x11_1), .int .i64 a1, .int .i64 a2] rfl (ag_) ?_; (with_reducible refine (spec_l1In.calls (rd l0 x11_1) a1 a2 false _ A7.out).mono ?_); rintro e w' ⟨rfl, ⟨nd, rfl⟩⟩; refine ⟨_, rfl, ?_⟩))
       go_ret
       exact ⟨by first | rfl | (simp; done) | (simp [*]; done), by repeat (first | exact Drawn0.refl _ | apply Drawn0.step)⟩
     ·rw [if_neg c6] at H
      exact absurd H (by simp)
    ·rw [if_neg c5] at H
     exact absurd H (by simp)
   ·rw [if_neg c4] at H
    have c4b0 : decide (x11_1 < (l0.length : Int)) = false := decide_eq_false c4
    clear c4
    obtain rfl := Option.some.inj H
    go_wp2
    go_ret
    exact ⟨by first | rfl | (simp; done) | (simp [*]; done), by repeat (first | exact Drawn0.refl _ | apply Drawn0.step)⟩
open Go.Proofs.Ytcopakljdenolaa.Gen   -- compacted234
abbrev z30_0 : Array Bool := #[false, false, false, false, false, false, false, false, false, false, false, false, false, false, false, false, false, false, false, false, false, false, false, false, false, false, false, false, false, false, false]
abbrev z30_1 : Array Bool := #[true, false, false, false, false, false, false, false, false, false, false, false, false, false, false, false, false, false, false, false, false, false, false, false, false, false, false, false, false, false, false]
abbrev z30_2 : Array Bool := #[true, true, false, false, false, false, false, false, false, false, false, false, false, false, false, false, false, false, false, false, false, false, false, false, false, false, false, false, false, false, false]
abbrev z30_3 : Array Bool := #[true, true, true, false, false, false, false, false, false, false, false, false, false, false, false, false, false, false, false, false, false, false, false, false, false, false, false, false, false, false, false]
abbrev z30_4 : Array Bool := #[true, true, true, true, false, false, false, false, false, false, false, false, false, false, false, false, false, false, false, false, false, false, false, false, false, false, false, false, false, false, false]
abbrev z30_5 : Array Bool := #[true, true, true, true, true, false, false, false, false, false, false, false, false, false, false, false, false, false, false, false, false, false, false, false, false, false, false, false, false, false, false]
abbrev z30_6 : Array Bool := #[true, true, true, true, true, true, false, false, false, false, false, false, false, false, false, false, false, false, false, false, false, false, false, false, false, false, false, false, false, false, false]
abbrev z30_7 : Array Bool := #[true, true, true, true, true, true, true, false, false, false, false, false, false, false, false, false, false, false, false, false, false, false, false, false, false, false, false, false, false, false, false]
abbrev z30_8 : Array Bool := #[true, true, true, true, true, true, true, true, false, false, false, false, false, false, false, false, false, false, false, false, false, false, false, false, false, false, false, false, false, false, false]
abbrev z30_9 : Array Bool := #[true, true, true, true, true, true, true, true, true, false, false, false, false, false, false, false, false, false, false, false, false, false, false, false, false, false, false, false, false, false, false]
abbrev z30_10 : Array Bool := #[true, true, true, true, true, true, true, true, true, true, false, false, false, false, false, false, false, false, false, false, false, false, false, false, false, false, false, false, false, false, false]
abbrev z30_11 : Array Bool := #[true, true, true, true, true, true, true, true, true, true, true, false, false, false, false, false, false, false, false, false, false, false, false, false, false, false, false, false, false, false, false]
abbrev z30_12 : Array Bool := #[true, true, true, true, true, true, true, true, true, true, true, true, false, false, false, false, false, false, false, false, false, false, false, false, false, false, false, false, false, false, false]
abbrev z30_13 : Array Bool := #[true, true, true, true, true, true, true, true, true, true, true, true, true, false, false, false, false, false, false, false, false, false, false, false, false, false, false, false, false, false, false]
abbrev z30_14 : Array Bool := #[true, true, true, true, true, true, true, true, true, true, true, true, true, false, true, false, false, false, false, false, false, false, false, false, false, false, false, false, false, false, false]
abbrev z30_15 : Array Bool := #[true, true, true, true, true, true, true, true, true, true, true, true, true, true, false, false, false, false, false, false, false, false, false, false, false, false, false, false, false, false, false]
abbrev z30_16 : Array Bool := #[true, true, true, true, true, true, true, true, true, true, true, true, true, true, true, false, false, false, false, false, false, false, false, false, false, false, false, false, false, false, false]
abbrev z30_17 : Array Bool := #[true, true, true, true, true, true, true, true, true, true, true, true, true, true, true, true, false, false, false, false, false, false, false, false, false, false, false, false, false, false, false]
abbrev z30_18 : Array Bool := #[true, true, true, true, true, true, true, true, true, true, true, true, true, true, true, true, true, false, false, false, false, false, false, false, false, false, false, false, false, false, false]
abbrev z30_19 : Array Bool := #[true, true, true, true, true, true, true, true, true, true, true, true, true, true, true, true, true, true, false, false, false, false, false, false, false, false, false, false, false, false, false]
abbrev z30_20 : Array Bool := #[true, true, true, true, true, true, true, true, true, true, true, true, true, true, true, true, true, true, true, false, false, false, false, false, false, false, false, false, false, false, false]
abbrev z30_21 : Array Bool := #[true, true, true, true, true, true, true, true, true, true, true, true, true, true, true, true, true, true, true, true, false, false, false, false, false, false, false, false, false, false, false]
abbrev z30_22 : Array Bool := #[true, true, true, true, true, true, true, true, true, true, true, true, true, true, true, true, true, true, true, true, true, false, false, false, false, false, false, false, false, false, false]
abbrev z30_23 : Array Bool := #[true, true, true, true, true, true, true, true, true, true, true, true, true, true, true, true, true, true, true, true, true, true, false, false, false, false, false, false, false, false, false]
abbrev z30_24 : Array Bool := #[true, true, true, true, true, true, true, true, true, true, true, true, true, true, true, true, true, true, true, true, true, true, true, false, false, false, false, false, false, false, false]
abbrev z30_25 : Array Bool := #[true, true, true, true, true, true, true, true, true, true, true, true, true, true, true, true, true, true, true, true, true, true, true, true, false, false, false, false, false, false, false]
abbrev z30_26 : Array Bool := #[true, true, true, true, true, true, true, true, true, true, true, true, true, true, true, true, true, true, true, true, true, true, true, true, true, false, false, false, false, false, false]
abbrev z30_27 : Array Bool := #[true, true, true, true, true, true, true, true, true, true, true, true, true, true, true, true, true, true, true, true, true, true, true, true, true, true, false, false, false, false, false]
abbrev z30_28 : Array Bool := #[true, true, true, true, true, true, true, true, true, true, true, true, true, true, true, true, true, true, true, true, true, true, true, true, true, true, true, false, false, false, false]
abbrev z30_29 : Array Bool := #[true, true, true, true, true, true, true, true, true, true, true, true, true, true, true, true, true, true, true, true, true, true, true, true, true, true, true, true, false, false, false]
abbrev z30_30 : Array Bool := #[true, true, true, true, true, true, true, true, true, true, true, true, true, true, true, true, true, true, true, true, true, true, true, true, true, true, true, true, true, false, false]
abbrev z30_31 : Array Bool := #[true, true, true, true, true, true, true, true, true, true, true, true, true, true, true, true, true, true, true, true, true, true, true, true, true, true, true, true, true, true, false]
abbrev z30_32 : Array Bool := #[true, true, true, true, true, true, true, true, true, true, true, true, true, true, true, true, true, true, true, true, true, true, true, true, true, true, true, true, true, true, true]
mutual
def spec_GoodPosts.l0 : Nat -> List (S57) -> List (S57) -> Int -> Int -> Option (Bool)
 | 0, _, _, _, _ => none
 | k + 1, x0, x5, x6, x7 => if x7 < x6 then (if 0 <= x7 then (if x7 < (x5.length : Int) then ((spec_l1In.f ((rd_T57 x5 x7).f0) 0 11).bind fun t226 => (if t226 = true then (if x7 > 0 then (if 0 <= (wrap64 (x7 - 1)) then (if (wrap64 (x7 - 1)) < (x0.length : Int) then (if ((rd_T57 x0 (wrap64 (x7 - 1))).f0) ≥ ((rd_T57 x5 x7).f0) then (spec_GoodPosts.j1 k x0 x5 x6 x7 true) else (if (((rd_T57 x5 x7).f1).length : Int) = 0 then (spec_GoodPosts.j1 k x0 x5 x6 x7 true) else ((spec_l1Rising.f k ((rd_T57 x5 x7).f1) 0 19).bind fun t228 => (spec_GoodPosts.j1 k x0 x5 x6 x7 (!t228))))) else (none)) else (none)) else (if (((rd_T57 x5 x7).f1).length : Int) = 0 then (spec_GoodPosts.j1 k x0 x5 x6 x7 true) else ((spec_l1Rising.f k ((rd_T57 x5 x7).f1) 0 19).bind fun t229 => (spec_GoodPosts.j1 k x0 x5 x6 x7 (!t229))))) else (spec_GoodPosts.j1 k x0 x5 x6 x7 true))) else (none)) else (none)) else (some (decide ((x0.length : Int) <= 12)))
def spec_GoodPosts.j1 : Nat -> List (S57) -> List (S57) -> Int -> Int -> Bool -> Option (Bool)
 | 0, _, _, _, _, _ => none
 | k + 1, x0, x5, x6, x7, x42 => if x42 = true then (some false) else (spec_GoodPosts.l0 k x0 x5 x6 (wrap64 (x7 + 1)))
end
def spec_GoodPosts.f (k : Nat) (l0 : List (S57)) : Option (Bool) := spec_GoodPosts.l0 k l0 l0 (l0.length : Int) 0
theorem spec_GoodPosts.mono_l : ∀ k, (∀ y0 y1 y2 y3, LeO (spec_GoodPosts.l0 k y0 y1 y2 y3) (spec_GoodPosts.l0 (k + 1) y0 y1 y2 y3)) /\ (∀ y0 y1 y2 y3 y4, LeO (spec_GoodPosts.j1 k y0 y1 y2 y3 y4) (spec_GoodPosts.j1 (k + 1) y0 y1 y2 y3 y4))
 | 0 => ⟨fun _ _ _ _ r h => by simp [spec_GoodPosts.l0] at h, fun _ _ _ _ _ r h => by simp [spec_GoodPosts.j1] at h⟩
 | k + 1 => by
  obtain ⟨ih0, ih1⟩ := spec_GoodPosts.mono_l k
  refine ⟨?_, ?_⟩
  ·intro y0 y1 y2 y3
   unfold spec_GoodPosts.l0
   repeat' (with_reducible first | exact ih0 _ _ _ _ | exact ih1 _ _ _ _ _ | exact spec_l1Rising.mono _ _ _ _ | exact LeO.refl _ | exact LeO.none _ | refine LeO.ite ?_ ?_ | refine LeO.bind ?_ (fun _ => ?_))
  ·intro y0 y1 y2 y3 y4
   unfold spec_GoodPosts.j1
   repeat' (with_reducible first | exact ih0 _ _ _ _ | exact ih1 _ _ _ _ _ | exact spec_l1Rising.mono _ _ _ _ | exact LeO.refl _ | exact LeO.none _ | refine LeO.ite ?_ ?_ | refine LeO.bind ?_ (fun _ => ?_))
theorem spec_GoodPosts.mono : ∀ a0 k, LeO (spec_GoodPosts.f k a0) (spec_GoodPosts.f (k + 1) a0) := by
 intro a0 k
 obtain ⟨ih0, ih1⟩ := spec_GoodPosts.mono_l k
 unfold spec_GoodPosts.f
 repeat' (with_reducible first | exact ih0 _ _ _ _ | exact ih1 _ _ _ _ _ | exact spec_l1Rising.mono _ _ _ _ | exact LeO.refl _ | exact LeO.none _ | refine LeO.ite ?_ ?_ | refine LeO.bind ?_ (fun _ => ?_))
def spec_GoodPosts.T4 : Bool × List (List Nat × List Nat) := (true, [([], []), ([0], [0]), ([1], [1]), ([2], [2]), ([3, 2], [3]), ([4], [4]), ([5, 4], [4, 5]), ([6, 4, 4], [4, 6]), ([7], [7]), ([7], [7]), ([9, 7], [7, 9]), ([8, 10, 7], [7, 8, 10]), ([11, 7], [7, 11]), ([12, 7], [7, 12]), ([7], [7]), ([14, 7], [7, 14]), ([13, 15, 7], [7, 13, 15]), ([7, 16, 4], [4, 7, 16]), ([4, 17], [4, 17]), ([18, 7], [18]), ([19], [19]), ([20, 19], [19, 20]), ([21, 19], [19, 21]), ([22, 19], [19, 22]), ([19, 23], [19, 23]), ([24, 19], [24]), ([25], [25]), ([26, 25], [25, 26]), ([27, 25, 25], [25, 27]), ([28, 25], [25, 28]), ([25, 29], [25, 29])])
def spec_GoodPosts.B4 : List Nat := [0, 1, 3, 7, 15, 31, 63, 127, 255, 255, 767, 2047, 4095, 8191, 255, 16639, 65535, 131071, 262143, 524287, 1048575, 2097151, 4194303, 8388607, 16777215, 33554431, 67108863, 134217727, 268435455, 536870911, 1073741823]
theorem spec_GoodPosts.tab4 : rtab .any (opsOf Try.f30 4) = spec_GoodPosts.T4 := by kernel_rfl
theorem spec_GoodPosts.bits4 : waitsOk spec_GoodPosts.T4.2 spec_GoodPosts.B4 = true := by kernel_rfl
theorem spec_GoodPosts.calls (k : Nat) (A0 : Option Addr) (c0 : Nat) (l0 : List (S57)) (r : Bool) (w : World) (hr0 : Kd.C k57 w A0 l0.length l0) (hc0 : l0.length <= c0) (h : spec_GoodPosts.f k l0 = some r) :
  Calls Try.prog 30 #[.slice A0 l0.length c0] w fun e w' => e = .returned (.bool r) /\ Below w.heap.size w w' := by
 have hu57 := Try.underlying57
 have HR0 := Aside0.mk hr0
 have HC0 := Aside0.mk hc0
 clear hr0 hc0
 have HB := Aside0.mk (Below.refl w.heap.size w)
 have H : (spec_GoodPosts.l0 k l0 l0 (l0.length : Int) 0) = some r := h
 clear h
 have H' := Aside0.mk H
 clear H
 go_enter Try.func30, Try.ntmps30
 go_wp2
 go_loopg [7] k (fun kq v7 w' => ∃ (x7_1 : Int), v7 = .int .i64 x7_1 /\ Aside0 (spec_GoodPosts.l0 kq l0 l0 (l0.length : Int) x7_1 = some r) /\ Aside0 (kq <= k) /\ Aside0 (Below w.heap.size w w'))
 case atStart => exact ⟨(0), (by first | rfl | (simp; done) | (simp [*]; done)), H', ⟨Nat.le_refl _⟩, ⟨be_ HB.out⟩⟩
 case round =>
  clear H'
  obtain ⟨x7_1, rfl, HA, HK1, HB⟩ := hrel
  cases gk with
  | zero => exact absurd HA.out (by simp [spec_GoodPosts.l0])
  | succ k1 =>
   have H := HA.out
   clear HA
   simp only [spec_GoodPosts.l0] at H
   by_cases c2 : x7_1 < (l0.length : Int)
   ·rw [if_pos c2] at H
    have c2b0 : decide (x7_1 < (l0.length : Int)) = true := decide_eq_true c2
    clear c2
    by_cases c3 : 0 <= x7_1
    ·rw [if_pos c3] at H
     have c3b0 : decide (0 <= x7_1) = true := decide_eq_true c3
     clear c3
     by_cases c4 : x7_1 < (l0.length : Int)
     ·rw [if_pos c4] at H
      have c4b0 : decide (x7_1 < (l0.length : Int)) = true := decide_eq_true c4
      clear c4
      have HC5 := Aside0.mk H
      clear H
      have p224 : 0 <= (x7_1 : Int) := of_decide_eq_true as_
      have q224 : x7_1 < (l0.length : Int) := of_decide_eq_true as_
      obtain ⟨ad224, A224_1, c224_1, e224, hx224_0, hx224_1, hl224_1, hi224_1⟩ := at_T57 HR0.out x7_1 p224 q224
      cases e224
      replace hx224_0 := (HB.out.cell (World.block_lt_of_cell? w _ hx224_0)).trans hx224_0
      replace hx224_1 := (HB.out.cell (World.block_lt_of_cell? w _ hx224_1)).trans hx224_1
      have HR224_1 := Aside0.mk hi224_1
      have HC224_1 := Aside0.mk hl224_1
      clear hi224_1 hl224_1
      replace p224 := eq_true p224
      replace q224 := eq_true q224
      go_upto_region 4 with (first | ((with_reducible refine gate_dst (N := 4) rfl ?_); (try (refine gate_guard (by rfl) ?_; dsimp only)); refine box_event ?hg (N := 4) ?hd (cs := #[.int .i64 0, .slice none 0 0]) (t := 57) ?hr ?_; (case hd => rfl); (case hg => rfl); (case hr => first | (go_simp; done) | (go_simp; rfl)); intro gb225 hg w6 hbox hb; have n0_ := Aside0.mk (bs_ HB.out hb); have n1_ := Aside0.mk (hbox); have n2_ := Aside0.mk ((by rw [hg]; exact (bw_ HB.out) : w.heap.size <= gb225)); have n3_ := Aside0.mk ((by rw [hg]; exact (bw_ HB.out) : w.heap.size <= gb225)); clear HB; have HB := n0_; have BK225 := n1_; have GW225 := n2_; have GE225 := n3_; clear n0_ n1_ n2_ n3_; clear hb hbox hg; have hcz7_0 : w6.cell? ⟨gb225, 0, none⟩ = some (.int .i64 0) := (blk_cell BK225.out 0).trans rfl; have hcz7_1 : w6.cell? ⟨gb225, 1, none⟩ = some (.slice none 0 0) := (blk_cell BK225.out 1).trans rfl; have hfz7_0 := blk_frozen BK225.out 0; have hfz7_1 := blk_frozen BK225.out 1))
      (try simp only [Act.put, List.setIfInBounds_toArray, List.set_cons_zero, List.set_cons_succ])
      go_cut [42] (fun v42 wc => ∃ (kq : Nat) (x42_4 : Bool), v42 = .bool x42_4 /\ Aside0 (spec_GoodPosts.j1 kq l0 l0 (l0.length : Int) x7_1 x42_4 = some r) /\ Aside0 (kq <= k1) /\ Aside0 (wc.heap[gb225]? = some (.cells #[.int .i64 ((rd_T57 l0 x7_1).f0), (.slice A224_1 ((rd_T57 l0 x7_1).f1).length c224_1)] 57 (0, 0))) /\ Aside0 (Below w.heap.size w wc))
      case first =>
       have H := HC5.out
       clear HC5
       replace H := Option.bind_eq_some_iff.mp H
       obtain ⟨t226, A80, H⟩ := H
       replace H : (if t226 = true then (if x7_1 > 0 then (if 0 <= (wrap64 (x7_1 - 1)) then (if (wrap64 (x7_1 - 1)) < (l0.length : Int) then (if ((rd_T57 l0 (wrap64 (x7_1 - 1))).f0) ≥ ((rd_T57 l0 x7_1).f0) then (spec_GoodPosts.j1 k1 l0 l0 (l0.length : Int) x7_1 true) else (if (((rd_T57 l0 x7_1).f1).length : Int) = 0 then (spec_GoodPosts.j1 k1 l0 l0 (l0.length : Int) x7_1 true) else ((spec_l1Rising.f k1 ((rd_T57 l0 x7_1).f1) 0 19).bind fun t228 => (spec_GoodPosts.j1 k1 l0 l0 (l0.length : Int) x7_1 (!t228))))) else (none)) else (none)) else (if (((rd_T57 l0 x7_1).f1).length : Int) = 0 then (spec_GoodPosts.j1 k1 l0 l0 (l0.length : Int) x7_1 true) else ((spec_l1Rising.f k1 ((rd_T57 l0 x7_1).f1) 0 19).bind fun t229 => (spec_GoodPosts.j1 k1 l0 l0 (l0.length : Int) x7_1 (!t229))))) else (spec_GoodPosts.j1 k1 l0 l0 (l0.length : Int) x7_1 true)) = some r := H
       have A8 := Aside0.mk A80
       clear A80
       by_cases c9 : t226 = true
       ·subst c9
        have H1 : (if x7_1 > 0 then (if 0 <= (wrap64 (x7_1 - 1)) then (if (wrap64 (x7_1 - 1)) < (l0.length : Int) then (if ((rd_T57 l0 (wrap64 (x7_1 - 1))).f0) ≥ ((rd_T57 l0 x7_1).f0) then (spec_GoodPosts.j1 k1 l0 l0 (l0.length : Int) x7_1 true) else (if (((rd_T57 l0 x7_1).f1).length : Int) = 0 then (spec_GoodPosts.j1 k1 l0 l0 (l0.length : Int) x7_1 true) else ((spec_l1Rising.f k1 ((rd_T57 l0 x7_1).f1) 0 19).bind fun t228 => (spec_GoodPosts.j1 k1 l0 l0 (l0.length : Int) x7_1 (!t228))))) else (none)) else (none)) else (if (((rd_T57 l0 x7_1).f1).length : Int) = 0 then (spec_GoodPosts.j1 k1 l0 l0 (l0.length : Int) x7_1 true) else ((spec_l1Rising.f k1 ((rd_T57 l0 x7_1).f1) 0 19).bind fun t229 => (spec_GoodPosts.j1 k1 l0 l0 (l0.length : Int) x7_1 (!t229))))) = some r := by rw [if_pos rfl] at H; exact H
        clear H
        have H := H1
        clear H1
        by_cases c10 : x7_1 > 0
        ·rw [if_pos c10] at H
         have c10b0 : decide (0 < x7_1) = true := decide_eq_true c10
         clear c10
         (first | rw [c10b0] | (simp only [i64_w, i32_w]; rw [c10b0]) | rw [c10b1] | skip)
         obtain ⟨ji11, hji11⟩ : ∃ j_ : Int, (wrap64 (x7_1 - 1)) = j_ := ⟨_, rfl⟩
         replace H : (if 0 <= (ji11) then (if (ji11) < (l0.length : Int) then (if ((rd_T57 l0 (ji11)).f0) ≥ ((rd_T57 l0 x7_1).f0) then (spec_GoodPosts.j1 k1 l0 l0 (l0.length : Int) x7_1 true) else (if (((rd_T57 l0 x7_1).f1).length : Int) = 0 then (spec_GoodPosts.j1 k1 l0 l0 (l0.length : Int) x7_1 true) else ((spec_l1Rising.f k1 ((rd_T57 l0 x7_1).f1) 0 19).bind fun t228 => (spec_GoodPosts.j1 k1 l0 l0 (l0.length : Int) x7_1 (!t228))))) else (none)) else (none)) = some r := by first | (rw [hji11] at H; exact H) | (simp only [hji11] at H ⊢; exact H)
         (try rw [hji11] at A8)
         have hji11w : (IntKind.i64.wrap (x7_1 - 1)) = ji11 := (i64_w _).trans hji11
         by_cases c12 : 0 <= (ji11)
         ·rw [if_pos c12] at H
          have c12b0 : decide (0 <= (ji11)) = true := decide_eq_true c12
          clear c12
          by_cases c13 : (ji11) < (l0.length : Int)
          ·rw [if_pos c13] at H
           have c13b0 : decide ((ji11) < (l0.length : Int)) = true := decide_eq_true c13
           clear c13
           by_cases c14 : ((rd_T57 l0 (ji11)).f0) ≥ ((rd_T57 l0 x7_1).f0)
           ·rw [if_pos c14] at H
            have c14b0 : decide (((rd_T57 l0 x7_1).f0) <= ((rd_T57 l0 (ji11)).f0)) = true := decide_eq_true c14
            clear c14
            have H' := Aside0.mk H
            clear H
            try go_wp2
            have n0_ : Aside0 (((w6.setCell ⟨gb225, 0, none⟩ (.int .i64 ((rd_T57 l0 x7_1).f0))).setCell ⟨gb225, 1, none⟩ (.slice A224_1 ((rd_T57 l0 x7_1).f1).length c224_1)).heap[gb225]? = some (.cells #[.int .i64 ((rd_T57 l0 x7_1).f0), .slice A224_1 ((rd_T57 l0 x7_1).f1).length c224_1] 57 (0, 0))) := ⟨by (with_reducible repeat (first | refine blk_drewN ?_ _ | refine blk_drew ?_ | refine blk_alloc ?_ _)); refine blk_put (cs := #[.int .i64 ((rd_T57 l0 x7_1).f0), .slice none 0 0]) ?_ 1 _ rfl; (with_reducible repeat (first | refine blk_drewN ?_ _ | refine blk_drew ?_ | refine blk_alloc ?_ _)); refine blk_put (cs := #[.int .i64 0, .slice none 0 0]) ?_ 0 _ rfl; (with_reducible repeat (first | refine blk_drewN ?_ _ | refine blk_drew ?_ | refine blk_alloc ?_ _)); exact BK225.out⟩
            have n1_ : Aside0 (Below w.heap.size w ((w6.setCell ⟨gb225, 0, none⟩ (.int .i64 ((rd_T57 l0 x7_1).f0))).setCell ⟨gb225, 1, none⟩ (.slice A224_1 ((rd_T57 l0 x7_1).f1).length c224_1))) := ⟨be_ HB.out⟩
            (try clear BK225)
            (try clear HB)
            generalize ((w6.setCell ⟨gb225, 0, none⟩ (.int .i64 ((rd_T57 l0 x7_1).f0))).setCell ⟨gb225, 1, none⟩ (.slice A224_1 ((rd_T57 l0 x7_1).f1).length c224_1)) = w15 at n0_ n1_ ⊢
            have BK225 := n0_
            have HB := n1_
            clear n0_ n1_
            replace BK225 := Aside0.mk (blk_drew BK225.out)
            replace HB := Aside0.mk (below_drew1 HB.out)
            have p227 : 0 <= ((ji11) : Int) := of_decide_eq_true as_
            have q227 : (ji11) < (l0.length : Int) := of_decide_eq_true as_
            obtain ⟨ad227, A227_1, c227_1, e227, hx227_0, hx227_1, hl227_1, hi227_1⟩ := at_T57 HR0.out (ji11) p227 q227
            have hw227_1 := hx227_1
            have hw227_0 := hx227_0
            obtain rfl : ad224 = ad227 := (by injection e227)
            replace hx227_0 := (HB.out.cell (World.block_lt_of_cell? w _ hx227_0)).trans hx227_0
            replace hx227_1 := (HB.out.cell (World.block_lt_of_cell? w _ hx227_1)).trans hx227_1
            have HR227_1 := Aside0.mk hi227_1
            have HC227_1 := Aside0.mk hl227_1
            clear hi227_1 hl227_1
            replace p227 := eq_true p227
            replace q227 := eq_true q227
            refine start_ (n := 31) (S := fun w' => w'.cell? ⟨gb225, 0, none⟩ = some (.int .i64 ((rd_T57 l0 x7_1).f0)) /\ w'.cell? ⟨gb225, 1, none⟩ = some (.slice A224_1 ((rd_T57 l0 x7_1).f1).length c224_1) /\ w'.cell? (ad224.add (((ji11)).toNat * 2)) = some (.int .i64 ((rd_T57 l0 (ji11)).f0)) /\ w'.cell? ⟨(ad224.add (((ji11)).toNat * 2)).block, (ad224.add (((ji11)).toNat * 2)).off + 1, none⟩ = some (.slice A227_1 ((rd_T57 l0 (ji11)).f1).length c227_1)) (ds := []) z30_0 (by kernel_rfl) rfl rfl ⟨(blk_cell BK225.out 0).trans rfl, (blk_cell BK225.out 1).trans rfl, ((HB.out.cell (World.block_lt_of_cell? w _ hw227_0)).trans hw227_0), ((HB.out.cell (World.block_lt_of_cell? w _ hw227_1)).trans hw227_1)⟩ (fun hHeld => ?_); refine with_tabW spec_GoodPosts.tab4 spec_GoodPosts.bits4 (fun HT_ HW_ => ?_)
            generalize w15.drew = w16 at BK225 HB HR227_1 hx227_0 hx227_1 hHeld ⊢
            refine pure_ (i := 0) (N := some 12) (v := ?_) (a' := ?_) z30_1 rfl rfl (any_of HT_.out (by kernel_rfl)) (fun _ _ _ h => h) (Or.inl ⟨by rfl, ?_⟩) ?_ ?_
            rotate_left; · (intro w'; go_simp; with_reducible rfl)
            rotate_left; · (simp only [Act.put, sx_, wx_]; rfl)
            refine take_ (i := 1) (N := some 13) (v := ?_) (a' := ?_) z30_2 rfl rfl (take_ofW HT_.out HW_.out (by kernel_rfl)) (fun _ _ _ h => h) (Or.inl ⟨by rfl, ?_⟩) hHeld ?_ ?_
            rotate_left
            ·rintro w' ⟨s0, s1, s2, s3⟩
             go_simp
             with_reducible rfl
            rotate_left
            ·simp only [Act.put, sx_, wx_]
             rfl
            refine one_ (i := 2) (N := some 14) z30_3 rfl rfl (one_of HT_.out (by kernel_rfl)) (by decide) (fun K hK => ?_)
            refine goes_ Try.func67 (by kernel_rfl) rfl #[.int .i64 ((rd_T57 l0 x7_1).f0), .int .i64 0, .int .i64 11] (by rfl) rfl rfl (ag_) ?_
            with_reducible refine (spec_l1In.calls ((rd_T57 l0 x7_1).f0) 0 11 true _ A8.out).mono ?_
            rintro e w' ⟨rfl, ⟨nd, rfl⟩⟩
            refine ⟨_, rfl, ?_⟩
            refine hK.out _ _ ⟨(blk_cell BK225.out 0).trans rfl, (blk_cell BK225.out 1).trans rfl, ((HB.out.cell (World.block_lt_of_cell? w _ hw227_0)).trans hw227_0), ((HB.out.cell (World.block_lt_of_cell? w _ hw227_1)).trans hw227_1)⟩ (fun hHeld => ?_)
            clear hK K
            refine norm_ (a' := ?_) ?_ ?_
            rotate_left
            ·show Act.put _ (some 14) _ = _
             simp only [Act.put, sx_, wx_]
             rfl
            refine pure_ (i := 3) (N := some 15) (v := ?_) (a' := ?_) z30_4 rfl rfl (any_of HT_.out (by kernel_rfl)) (fun _ _ _ h => h) (Or.inl ⟨by rfl, ?_⟩) ?_ ?_
            rotate_left; · (intro w'; go_simp; with_reducible rfl)
            rotate_left; · (simp only [Act.put, sx_, wx_]; rfl)
            refine pure_ (i := 4) (N := some 16) (v := ?_) (a' := ?_) z30_5 rfl rfl (any_of HT_.out (by kernel_rfl)) (fun _ _ _ h => h) (Or.inl ⟨by rfl, ?_⟩) ?_ ?_
            rotate_left; · (intro w'; go_simp; with_reducible rfl)
            rotate_left; · (simp only [Act.put, sx_, wx_]; rfl)
            refine pure_ (i := 5) (N := some 17) (v := ?_) (a' := ?_) z30_6 rfl rfl (any_of HT_.out (by kernel_rfl)) (fun _ _ _ h => h) (Or.inl ⟨by rfl, ?_⟩) ?_ ?_
            rotate_left; · (intro w'; go_simp; with_reducible rfl)
            rotate_left; · (simp only [Act.put, sx_, wx_]; rfl)
            refine pure_ (i := 6) (N := some 18) (v := ?_) (a' := ?_) z30_7 rfl rfl (any_of HT_.out (by kernel_rfl)) (fun _ _ _ h => h) (Or.inl ⟨by rfl, ?_⟩) ?_ ?_
            rotate_left; · (intro w'; go_simp; with_reducible rfl)
            rotate_left; · (simp only [Act.put, sx_, wx_]; rfl)
            refine pure_ (i := 7) (N := some 19) (v := ?_) (a' := ?_) z30_8 rfl rfl (any_of HT_.out (by kernel_rfl)) (fun _ _ _ h => h) (Or.inl ⟨by rfl, ?_⟩) ?_ ?_
            rotate_left; · (intro w'; go_simp; with_reducible rfl)
            rotate_left; · (simp only [Act.put, sx_, wx_]; rfl)
            refine pure_ (i := 8) (N := some 20) (v := ?_) (a' := ?_) z30_9 rfl rfl (any_of HT_.out (by kernel_rfl)) (fun _ _ _ h => h) (Or.inl ⟨by rfl, ?_⟩) ?_ ?_
            rotate_left; · (intro w'; go_simp; with_reducible rfl)
            rotate_left; · (simp only [Act.put, sx_, wx_]; rfl)
            refine pure_ (i := 9) (N := some 21) (v := ?_) (a' := ?_) z30_10 rfl rfl (any_of HT_.out (by kernel_rfl)) (fun _ _ _ h => h) (Or.inl ⟨by rfl, ?_⟩) ?_ ?_
            rotate_left; · (intro w'; go_simp; with_reducible rfl)
            rotate_left; · (simp only [Act.put, sx_, wx_]; rfl)
            refine pure_ (i := 10) (N := some 22) (v := ?_) (a' := ?_) z30_11 rfl rfl (any_of HT_.out (by kernel_rfl)) (fun _ _ _ h => h) (Or.inl ⟨by rfl, ?_⟩) ?_ ?_
            rotate_left; · (intro w'; go_simp; with_reducible rfl)
            rotate_left; · (simp only [Act.put, sx_, wx_]; rfl)
            refine pure_ (i := 11) (N := some 23) (v := ?_) (a' := ?_) z30_12 rfl rfl (any_of HT_.out (by kernel_rfl)) (fun _ _ _ h => h) (Or.inl ⟨by rfl, ?_⟩) ?_ ?_
            rotate_left; · (intro w'; go_simp; with_reducible rfl)
            rotate_left; · (simp only [Act.put, sx_, wx_]; rfl)
            refine pure_ (i := 12) (N := some 24) (v := ?_) (a' := ?_) z30_13 rfl rfl (any_of HT_.out (by kernel_rfl)) (fun _ _ _ h => h) (Or.inl ⟨by rfl, ?_⟩) ?_ ?_
            rotate_left; · (intro w'; go_simp; with_reducible rfl)
            rotate_left; · (simp only [Act.put, sx_, wx_]; rfl)
            refine pure_ (i := 14) (N := some 26) (v := ?_) (a' := ?_) z30_14 rfl rfl (any_of HT_.out (by kernel_rfl)) (fun _ _ _ h => h) (Or.inl ⟨by rfl, ?_⟩) ?_ ?_
            rotate_left; · (intro w'; go_simp; with_reducible rfl)
            rotate_left; · (simp only [Act.put, sx_, wx_]; rfl)
            refine take_ (i := 13) (N := some 25) (v := ?_) (a' := ?_) z30_16 rfl rfl (take_ofW HT_.out HW_.out (by kernel_rfl)) (fun _ _ _ h => h) (Or.inl ⟨by rfl, ?_⟩) hHeld ?_ ?_
            rotate_left
            ·rintro w' ⟨s0, s1, s2, s3⟩
             go_simp
             with_reducible rfl
            rotate_left
            ·simp only [Act.put, sx_, wx_]
             rfl
            refine take_ (i := 15) (N := some 27) (v := ?_) (a' := ?_) z30_17 rfl rfl (take_ofW HT_.out HW_.out (by kernel_rfl)) (fun _ _ _ h => h) (Or.inl ⟨by rfl, ?_⟩) hHeld ?_ ?_
            rotate_left
            ·rintro w' ⟨s0, s1, s2, s3⟩
             go_simp
             with_reducible rfl
            rotate_left
            ·simp only [Act.put, sx_, wx_]
             rfl
            refine pure_ (i := 16) (N := some 28) (v := ?_) (a' := ?_) z30_18 rfl rfl (any_of HT_.out (by kernel_rfl)) (fun _ _ _ h => h) (Or.inl ⟨by rfl, ?_⟩) ?_ ?_
            rotate_left; · (intro w'; go_simp; with_reducible rfl)
            rotate_left; · (simp only [Act.put, sx_, wx_]; rfl)
            refine pure_ (i := 17) (N := some 29) (v := ?_) (a' := ?_) z30_19 rfl rfl (any_of HT_.out (by kernel_rfl)) (fun _ _ _ h => h) (Or.inl ⟨by rfl, ?_⟩) ?_ ?_
            rotate_left; · (intro w'; go_simp; with_reducible rfl)
            rotate_left; · (simp only [Act.put, sx_, wx_]; rfl)
            refine pure_ (i := 18) (N := some 30) (v := ?_) (a' := ?_) z30_20 rfl rfl (any_of HT_.out (by kernel_rfl)) (fun _ _ _ h => h) (Or.inl ⟨by rfl, ?_⟩) ?_ ?_
            rotate_left; · (intro w'; go_simp; with_reducible rfl)
            rotate_left; · (simp only [Act.put, sx_, wx_]; rfl)
            refine pure_ (i := 19) (N := some 31) (v := ?_) (a' := ?_) z30_21 rfl rfl (any_of HT_.out (by kernel_rfl)) (fun _ _ _ h => h) (Or.inl ⟨by rfl, ?_⟩) ?_ ?_
            rotate_left; · (intro w'; go_simp; with_reducible rfl)
            rotate_left; · (simp only [Act.put, sx_, wx_]; rfl)
            refine pure_ (i := 20) (N := some 32) (v := undef) (a' := ?_) z30_22 rfl rfl (any_of HT_.out (by kernel_rfl)) (fun _ _ _ h => h) (Or.inr ⟨by rfl, rfl⟩) ?_ ?_
            rotate_left
            ·simp only [Act.put, sx_, wx_]
             rfl
            refine pure_ (i := 21) (N := some 33) (v := undef) (a' := ?_) z30_23 rfl rfl (any_of HT_.out (by kernel_rfl)) (fun _ _ _ h => h) (Or.inr ⟨by rfl, rfl⟩) ?_ ?_
            rotate_left
            ·simp only [Act.put, sx_, wx_]
             rfl
            refine pure_ (i := 22) (N := some 34) (v := undef) (a' := ?_) z30_24 rfl rfl (any_of HT_.out (by kernel_rfl)) (fun _ _ _ h => h) (Or.inr ⟨by rfl, rfl⟩) ?_ ?_
            rotate_left
            ·simp only [Act.put, sx_, wx_]
             rfl
            refine pure_ (i := 23) (N := some 35) (v := undef) (a' := ?_) z30_25 rfl rfl (any_of HT_.out (by kernel_rfl)) (fun _ _ _ h => h) (Or.inr ⟨by rfl, rfl⟩) ?_ ?_
            rotate_left
            ·simp only [Act.put, sx_, wx_]
             rfl
            refine pure_ (i := 24) (N := some 36) (v := ?_) (a' := ?_) z30_26 rfl rfl (any_of HT_.out (by kernel_rfl)) (fun _ _ _ h => h) (Or.inl ⟨by rfl, ?_⟩) ?_ ?_
            rotate_left; · (intro w'; go_simp; with_reducible rfl)
            rotate_left; · (simp only [Act.put, sx_, wx_]; rfl)
            refine pure_ (i := 25) (N := some 37) (v := ?_) (a' := ?_) z30_27 rfl rfl (any_of HT_.out (by kernel_rfl)) (fun _ _ _ h => h) (Or.inl ⟨by rfl, ?_⟩) ?_ ?_
            rotate_left; · (intro w'; go_simp; with_reducible rfl)
            rotate_left; · (simp only [Act.put, sx_, wx_]; rfl)
            refine pure_ (i := 26) (N := some 38) (v := undef) (a' := ?_) z30_28 rfl rfl (any_of HT_.out (by kernel_rfl)) (fun _ _ _ h => h) (Or.inr ⟨by rfl, rfl⟩) ?_ ?_
            rotate_left
            ·simp only [Act.put, sx_, wx_]
             rfl
            refine pure_ (i := 27) (N := some 39) (v := undef) (a' := ?_) z30_29 rfl rfl (any_of HT_.out (by kernel_rfl)) (fun _ _ _ h => h) (Or.inr ⟨by rfl, rfl⟩) ?_ ?_
            rotate_left
            ·simp only [Act.put, sx_, wx_]
             rfl
            refine pure_ (i := 28) (N := some 40) (v := undef) (a' := ?_) z30_30 rfl rfl (any_of HT_.out (by kernel_rfl)) (fun _ _ _ h => h) (Or.inr ⟨by rfl, rfl⟩) ?_ ?_
            rotate_left
            ·simp only [Act.put, sx_, wx_]
             rfl
            refine pure_ (i := 29) (N := some 41) (v := undef) (a' := ?_) z30_31 rfl rfl (any_of HT_.out (by kernel_rfl)) (fun _ _ _ h => h) (Or.inr ⟨by rfl, rfl⟩) ?_ ?_
            rotate_left
            ·simp only [Act.put, sx_, wx_]
             rfl
            refine pure_ (i := 30) (N := some 42) (v := ?_) (a' := ?_) z30_32 rfl rfl (any_of HT_.out (by kernel_rfl)) (fun _ _ _ h => h) (Or.inl ⟨by rfl, ?_⟩) ?_ ?_
            rotate_left; · (intro w'; go_simp; with_reducible rfl)
            rotate_left; · (simp only [Act.put, sx_, wx_]; rfl)
            refine done_ (done_of HT_.out (by kernel_rfl)) ?_
            try go_wp2
            first | go_meet | (simp only [<- hji11]; go_meet)
            case rel => exact ⟨_, (true), (by first | rfl | (simp; done) | (simp [*]; done)), (by first | exact H' | (simp only [hji11]; exact H') | (simp only [<- hji11] at H' ⊢; exact H')), ⟨by have := HK1.out; first | omega | exact Nat.le_refl _⟩, ⟨pk_ BK225.out⟩, ⟨be_ HB.out⟩⟩
           ·rw [if_neg c14] at H
            have c14b0 : decide (((rd_T57 l0 x7_1).f0) <= ((rd_T57 l0 (ji11)).f0)) = false := decide_eq_false c14
            clear c14
            by_cases c17 : (((rd_T57 l0 x7_1).f1).length : Int) = 0
            ·rw [if_pos c17] at H
             have c17b0 : ((((rd_T57 l0 x7_1).f1).length : Int) == 0) = true := beq_iff_eq.mpr c17
             have c17b1 : ((((rd_T57 l0 x7_1).f1).length : Int) != 0) = false := bne_eq_false_iff_eq.mpr c17
             clear c17
             have H' := Aside0.mk H
             clear H
             try go_wp2
             have n0_ : Aside0 (((w6.setCell ⟨gb225, 0, none⟩ (.int .i64 ((rd_T57 l0 x7_1).f0))).setCell ⟨gb225, 1, none⟩ (.slice A224_1 ((rd_T57 l0 x7_1).f1).length c224_1)).heap[gb225]? = some (.cells #[.int .i64 ((rd_T57 l0 x7_1).f0), .slice A224_1 ((rd_T57 l0 x7_1).f1).length c224_1] 57 (0, 0))) := ⟨by (with_reducible repeat (first | refine blk_drewN ?_ _ | refine blk_drew ?_ | refine blk_alloc ?_ _)); refine blk_put (cs := #[.int .i64 ((rd_T57 l0 x7_1).f0), .slice none 0 0]) ?_ 1 _ rfl; (with_reducible repeat (first | refine blk_drewN ?_ _ | refine blk_drew ?_ | refine blk_alloc ?_ _)); refine blk_put (cs := #[.int .i64 0, .slice none 0 0]) ?_ 0 _ rfl; (with_reducible repeat (first | refine blk_drewN ?_ _ | refine blk_drew ?_ | refine blk_alloc ?_ _)); exact BK225.out⟩
             have n1_ : Aside0 (Below w.heap.size w ((w6.setCell ⟨gb225, 0, none⟩ (.int .i64 ((rd_T57 l0 x7_1).f0))).setCell ⟨gb225, 1, none⟩ (.slice A224_1 ((rd_T57 l0 x7_1).f1).length c224_1))) := ⟨be_ HB.out⟩
             (try clear BK225)
             (try clear HB)
             generalize ((w6.setCell ⟨gb225, 0, none⟩ (.int .i64 ((rd_T57 l0 x7_1).f0))).setCell ⟨gb225, 1, none⟩ (.slice A224_1 ((rd_T57 l0 x7_1).f1).length c224_1)) = w18 at n0_ n1_ ⊢
             have BK225 := n0_
             have HB := n1_
             clear n0_ n1_
             replace BK225 := Aside0.mk (blk_drew BK225.out)
             replace HB := Aside0.mk (below_drew1 HB.out)
             have p227 : 0 <= ((ji11) : Int) := of_decide_eq_true as_
             have q227 : (ji11) < (l0.length : Int) := of_decide_eq_true as_
             obtain ⟨ad227, A227_1, c227_1, e227, hx227_0, hx227_1, hl227_1, hi227_1⟩ := at_T57 HR0.out (ji11) p227 q227
             have hw227_1 := hx227_1
             have hw227_0 := hx227_0
             obtain rfl : ad224 = ad227 := (by injection e227)
             replace hx227_0 := (HB.out.cell (World.block_lt_of_cell? w _ hx227_0)).trans hx227_0
             replace hx227_1 := (HB.out.cell (World.block_lt_of_cell? w _ hx227_1)).trans hx227_1
             have HR227_1 := Aside0.mk hi227_1
             have HC227_1 := Aside0.mk hl227_1
             clear hi227_1 hl227_1
             replace p227 := eq_true p227
             replace q227 := eq_true q227
             refine start_ (n := 31) (S := fun w' => w'.cell? ⟨gb225, 0, none⟩ = some (.int .i64 ((rd_T57 l0 x7_1).f0)) /\ w'.cell? ⟨gb225, 1, none⟩ = some (.slice A224_1 ((rd_T57 l0 x7_1).f1).length c224_1) /\ w'.cell? (ad224.add (((ji11)).toNat * 2)) = some (.int .i64 ((rd_T57 l0 (ji11)).f0)) /\ w'.cell? ⟨(ad224.add (((ji11)).toNat * 2)).block, (ad224.add (((ji11)).toNat * 2)).off + 1, none⟩ = some (.slice A227_1 ((rd_T57 l0 (ji11)).f1).length c227_1)) (ds := []) z30_0 (by kernel_rfl) rfl rfl ⟨(blk_cell BK225.out 0).trans rfl, (blk_cell BK225.out 1).trans rfl, ((HB.out.cell (World.block_lt_of_cell? w _ hw227_0)).trans hw227_0), ((HB.out.cell (World.block_lt_of_cell? w _ hw227_1)).trans hw227_1)⟩ (fun hHeld => ?_); refine with_tabW spec_GoodPosts.tab4 spec_GoodPosts.bits4 (fun HT_ HW_ => ?_)
             generalize w18.drew = w19 at BK225 HB HR227_1 hx227_0 hx227_1 hHeld ⊢
             refine pure_ (i := 0) (N := some 12) (v := ?_) (a' := ?_) z30_1 rfl rfl (any_of HT_.out (by kernel_rfl)) (fun _ _ _ h => h) (Or.inl ⟨by rfl, ?_⟩) ?_ ?_
             rotate_left; · (intro w'; go_simp; with_reducible rfl)
             rotate_left; · (simp only [Act.put, sx_, wx_]; rfl)
             refine take_ (i := 1) (N := some 13) (v := ?_) (a' := ?_) z30_2 rfl rfl (take_ofW HT_.out HW_.out (by kernel_rfl)) (fun _ _ _ h => h) (Or.inl ⟨by rfl, ?_⟩) hHeld ?_ ?_
             rotate_left
             ·rintro w' ⟨s0, s1, s2, s3⟩
              go_simp
              with_reducible rfl
             rotate_left
             ·simp only [Act.put, sx_, wx_]
              rfl
             refine one_ (i := 2) (N := some 14) z30_3 rfl rfl (one_of HT_.out (by kernel_rfl)) (by decide) (fun K hK => ?_)
             refine goes_ Try.func67 (by kernel_rfl) rfl #[.int .i64 ((rd_T57 l0 x7_1).f0), .int .i64 0, .int .i64 11] (by rfl) rfl rfl (ag_) ?_
             with_reducible refine (spec_l1In.calls ((rd_T57 l0 x7_1).f0) 0 11 true _ A8.out).mono ?_
             rintro e w' ⟨rfl, ⟨nd, rfl⟩⟩
             refine ⟨_, rfl, ?_⟩
             refine hK.out _ _ ⟨(blk_cell BK225.out 0).trans rfl, (blk_cell BK225.out 1).trans rfl, ((HB.out.cell (World.block_lt_of_cell? w _ hw227_0)).trans hw227_0), ((HB.out.cell (World.block_lt_of_cell? w _ hw227_1)).trans hw227_1)⟩ (fun hHeld => ?_)
             clear hK K
             refine norm_ (a' := ?_) ?_ ?_
             rotate_left
             ·show Act.put _ (some 14) _ = _
              simp only [Act.put, sx_, wx_]
              rfl
             refine pure_ (i := 3) (N := some 15) (v := ?_) (a' := ?_) z30_4 rfl rfl (any_of HT_.out (by kernel_rfl)) (fun _ _ _ h => h) (Or.inl ⟨by rfl, ?_⟩) ?_ ?_
             rotate_left; · (intro w'; go_simp; with_reducible rfl)
             rotate_left; · (simp only [Act.put, sx_, wx_]; rfl)
             refine pure_ (i := 4) (N := some 16) (v := ?_) (a' := ?_) z30_5 rfl rfl (any_of HT_.out (by kernel_rfl)) (fun _ _ _ h => h) (Or.inl ⟨by rfl, ?_⟩) ?_ ?_
             rotate_left; · (intro w'; go_simp; with_reducible rfl)
             rotate_left; · (simp only [Act.put, sx_, wx_]; rfl)
             refine pure_ (i := 5) (N := some 17) (v := ?_) (a' := ?_) z30_6 rfl rfl (any_of HT_.out (by kernel_rfl)) (fun _ _ _ h => h) (Or.inl ⟨by rfl, ?_⟩) ?_ ?_
             rotate_left; · (intro w'; go_simp; with_reducible rfl)
             rotate_left; · (simp only [Act.put, sx_, wx_]; rfl)
             refine pure_ (i := 6) (N := some 18) (v := ?_) (a' := ?_) z30_7 rfl rfl (any_of HT_.out (by kernel_rfl)) (fun _ _ _ h => h) (Or.inl ⟨by rfl, ?_⟩) ?_ ?_
             rotate_left; · (intro w'; go_simp; with_reducible rfl)
             rotate_left; · (simp only [Act.put, sx_, wx_]; rfl)
             refine pure_ (i := 7) (N := some 19) (v := ?_) (a' := ?_) z30_8 rfl rfl (any_of HT_.out (by kernel_rfl)) (fun _ _ _ h => h) (Or.inl ⟨by rfl, ?_⟩) ?_ ?_
             rotate_left; · (intro w'; go_simp; with_reducible rfl)
             rotate_left; · (simp only [Act.put, sx_, wx_]; rfl)
             refine pure_ (i := 8) (N := some 20) (v := ?_) (a' := ?_) z30_9 rfl rfl (any_of HT_.out (by kernel_rfl)) (fun _ _ _ h => h) (Or.inl ⟨by rfl, ?_⟩) ?_ ?_
             rotate_left; · (intro w'; go_simp; with_reducible rfl)
             rotate_left; · (simp only [Act.put, sx_, wx_]; rfl)
             refine pure_ (i := 9) (N := some 21) (v := ?_) (a' := ?_) z30_10 rfl rfl (any_of HT_.out (by kernel_rfl)) (fun _ _ _ h => h) (Or.inl ⟨by rfl, ?_⟩) ?_ ?_
             rotate_left; · (intro w'; go_simp; with_reducible rfl)
             rotate_left; · (simp only [Act.put, sx_, wx_]; rfl)
             refine pure_ (i := 10) (N := some 22) (v := ?_) (a' := ?_) z30_11 rfl rfl (any_of HT_.out (by kernel_rfl)) (fun _ _ _ h => h) (Or.inl ⟨by rfl, ?_⟩) ?_ ?_
             rotate_left; · (intro w'; go_simp; with_reducible rfl)
             rotate_left; · (simp only [Act.put, sx_, wx_]; rfl)
             refine pure_ (i := 11) (N := some 23) (v := ?_) (a' := ?_) z30_12 rfl rfl (any_of HT_.out (by kernel_rfl)) (fun _ _ _ h => h) (Or.inl ⟨by rfl, ?_⟩) ?_ ?_
             rotate_left; · (intro w'; go_simp; with_reducible rfl)
             rotate_left; · (simp only [Act.put, sx_, wx_]; rfl)
             refine pure_ (i := 12) (N := some 24) (v := ?_) (a' := ?_) z30_13 rfl rfl (any_of HT_.out (by kernel_rfl)) (fun _ _ _ h => h) (Or.inl ⟨by rfl, ?_⟩) ?_ ?_
             rotate_left; · (intro w'; go_simp; with_reducible rfl)
             rotate_left; · (simp only [Act.put, sx_, wx_]; rfl)
             refine pure_ (i := 14) (N := some 26) (v := ?_) (a' := ?_) z30_14 rfl rfl (any_of HT_.out (by kernel_rfl)) (fun _ _ _ h => h) (Or.inl ⟨by rfl, ?_⟩) ?_ ?_
             rotate_left; · (intro w'; go_simp; with_reducible rfl)
             rotate_left; · (simp only [Act.put, sx_, wx_]; rfl)
             refine take_ (i := 13) (N := some 25) (v := ?_) (a' := ?_) z30_16 rfl rfl (take_ofW HT_.out HW_.out (by kernel_rfl)) (fun _ _ _ h => h) (Or.inl ⟨by rfl, ?_⟩) hHeld ?_ ?_
             rotate_left
             ·rintro w' ⟨s0, s1, s2, s3⟩
              go_simp
              with_reducible rfl
             rotate_left
             ·simp only [Act.put, sx_, wx_]
              rfl
             refine take_ (i := 15) (N := some 27) (v := ?_) (a' := ?_) z30_17 rfl rfl (take_ofW HT_.out HW_.out (by kernel_rfl)) (fun _ _ _ h => h) (Or.inl ⟨by rfl, ?_⟩) hHeld ?_ ?_
             rotate_left
             ·rintro w' ⟨s0, s1, s2, s3⟩
              go_simp
              with_reducible rfl
             rotate_left
             ·simp only [Act.put, sx_, wx_]
              rfl
             refine pure_ (i := 16) (N := some 28) (v := ?_) (a' := ?_) z30_18 rfl rfl (any_of HT_.out (by kernel_rfl)) (fun _ _ _ h => h) (Or.inl ⟨by rfl, ?_⟩) ?_ ?_
             rotate_left; · (intro w'; go_simp; with_reducible rfl)
             rotate_left; · (simp only [Act.put, sx_, wx_]; rfl)
             refine pure_ (i := 17) (N := some 29) (v := ?_) (a' := ?_) z30_19 rfl rfl (any_of HT_.out (by kernel_rfl)) (fun _ _ _ h => h) (Or.inl ⟨by rfl, ?_⟩) ?_ ?_
             rotate_left; · (intro w'; go_simp; with_reducible rfl)
             rotate_left; · (simp only [Act.put, sx_, wx_]; rfl)
             refine pure_ (i := 18) (N := some 30) (v := ?_) (a' := ?_) z30_20 rfl rfl (any_of HT_.out (by kernel_rfl)) (fun _ _ _ h => h) (Or.inl ⟨by rfl, ?_⟩) ?_ ?_
             rotate_left; · (intro w'; go_simp; with_reducible rfl)
             rotate_left; · (simp only [Act.put, sx_, wx_]; rfl)
             refine pure_ (i := 19) (N := some 31) (v := ?_) (a' := ?_) z30_21 rfl rfl (any_of HT_.out (by kernel_rfl)) (fun _ _ _ h => h) (Or.inl ⟨by rfl, ?_⟩) ?_ ?_
             rotate_left; · (intro w'; go_simp; with_reducible rfl)
             rotate_left; · (simp only [Act.put, sx_, wx_]; rfl)
             refine pure_ (i := 20) (N := some 32) (v := ?_) (a' := ?_) z30_22 rfl rfl (any_of HT_.out (by kernel_rfl)) (fun _ _ _ h => h) (Or.inl ⟨by rfl, ?_⟩) ?_ ?_
             rotate_left; · (intro w'; go_simp; with_reducible rfl)
             rotate_left; · (simp only [Act.put, sx_, wx_]; rfl)
             refine take_ (i := 21) (N := some 33) (v := ?_) (a' := ?_) z30_23 rfl rfl (take_ofW HT_.out HW_.out (by kernel_rfl)) (fun _ _ _ h => h) (Or.inl ⟨by rfl, ?_⟩) hHeld ?_ ?_
             rotate_left
             ·rintro w' ⟨s0, s1, s2, s3⟩
              go_simp
              with_reducible rfl
             rotate_left
             ·simp only [Act.put, sx_, wx_]
              rfl
             refine pure_ (i := 22) (N := some 34) (v := ?_) (a' := ?_) z30_24 rfl rfl (any_of HT_.out (by kernel_rfl)) (fun _ _ _ h => h) (Or.inl ⟨by rfl, ?_⟩) ?_ ?_
             rotate_left; · (intro w'; go_simp; with_reducible rfl)
             rotate_left; · (simp only [Act.put, sx_, wx_]; rfl)
             refine pure_ (i := 23) (N := some 35) (v := ?_) (a' := ?_) z30_25 rfl rfl (any_of HT_.out (by kernel_rfl)) (fun _ _ _ h => h) (Or.inl ⟨by rfl, ?_⟩) ?_ ?_
             rotate_left; · (intro w'; go_simp; with_reducible rfl)
             rotate_left; · (simp only [Act.put, sx_, wx_]; rfl)
             refine pure_ (i := 24) (N := some 36) (v := ?_) (a' := ?_) z30_26 rfl rfl (any_of HT_.out (by kernel_rfl)) (fun _ _ _ h => h) (Or.inl ⟨by rfl, ?_⟩) ?_ ?_
             rotate_left; · (intro w'; go_simp; with_reducible rfl)
             rotate_left; · (simp only [Act.put, sx_, wx_]; rfl)
             refine pure_ (i := 25) (N := some 37) (v := ?_) (a' := ?_) z30_27 rfl rfl (any_of HT_.out (by kernel_rfl)) (fun _ _ _ h => h) (Or.inl ⟨by rfl, ?_⟩) ?_ ?_
             rotate_left; · (intro w'; go_simp; with_reducible rfl)
             rotate_left; · (simp only [Act.put, sx_, wx_]; rfl)
             refine pure_ (i := 26) (N := some 38) (v := undef) (a' := ?_) z30_28 rfl rfl (any_of HT_.out (by kernel_rfl)) (fun _ _ _ h => h) (Or.inr ⟨by rfl, rfl⟩) ?_ ?_
             rotate_left
             ·simp only [Act.put, sx_, wx_]
              rfl
             refine pure_ (i := 27) (N := some 39) (v := undef) (a' := ?_) z30_29 rfl rfl (any_of HT_.out (by kernel_rfl)) (fun _ _ _ h => h) (Or.inr ⟨by rfl, rfl⟩) ?_ ?_
             rotate_left
             ·simp only [Act.put, sx_, wx_]
              rfl
             refine pure_ (i := 28) (N := some 40) (v := undef) (a' := ?_) z30_30 rfl rfl (any_of HT_.out (by kernel_rfl)) (fun _ _ _ h => h) (Or.inr ⟨by rfl, rfl⟩) ?_ ?_
             rotate_left
             ·simp only [Act.put, sx_, wx_]
              rfl
             refine pure_ (i := 29) (N := some 41) (v := undef) (a' := ?_) z30_31 rfl rfl (any_of HT_.out (by kernel_rfl)) (fun _ _ _ h => h) (Or.inr ⟨by rfl, rfl⟩) ?_ ?_
             rotate_left
             ·simp only [Act.put, sx_, wx_]
              rfl
             refine pure_ (i := 30) (N := some 42) (v := ?_) (a' := ?_) z30_32 rfl rfl (any_of HT_.out (by kernel_rfl)) (fun _ _ _ h => h) (Or.inl ⟨by rfl, ?_⟩) ?_ ?_
             rotate_left; · (intro w'; go_simp; with_reducible rfl)
             rotate_left; · (simp only [Act.put, sx_, wx_]; rfl)
             refine done_ (done_of HT_.out (by kernel_rfl)) ?_
             try go_wp2
             first | go_meet | (simp only [<- hji11]; go_meet)
             case rel => exact ⟨_, (true), (by first | rfl | (simp; done) | (simp [*]; done)), (by first | exact H' | (simp only [hji11]; exact H') | (simp only [<- hji11] at H' ⊢; exact H')), ⟨by have := HK1.out; first | omega | exact Nat.le_refl _⟩, ⟨pk_ BK225.out⟩, ⟨be_ HB.out⟩⟩
            ·rw [if_neg c17] at H
             have c17b0 : ((((rd_T57 l0 x7_1).f1).length : Int) == 0) = false := beq_eq_false_iff_ne.mpr c17
             have c17b1 : ((((rd_T57 l0 x7_1).f1).length : Int) != 0) = true := bne_iff_ne.mpr c17
             have c17b2 : ¬ (((rd_T57 l0 x7_1).f1) = []) := fun h_ => c17 (by rw [h_]; rfl)
             replace H := Option.bind_eq_some_iff.mp H
             obtain ⟨t228, A200, H⟩ := H
             replace H : (spec_GoodPosts.j1 k1 l0 l0 (l0.length : Int) x7_1 (!t228)) = some r := H
             have A20 := Aside0.mk A200
             clear A200
             have H' := Aside0.mk H
             clear H
             try go_wp2
             have n0_ : Aside0 (((w6.setCell ⟨gb225, 0, none⟩ (.int .i64 ((rd_T57 l0 x7_1).f0))).setCell ⟨gb225, 1, none⟩ (.slice A224_1 ((rd_T57 l0 x7_1).f1).length c224_1)).heap[gb225]? = some (.cells #[.int .i64 ((rd_T57 l0 x7_1).f0), .slice A224_1 ((rd_T57 l0 x7_1).f1).length c224_1] 57 (0, 0))) := ⟨by (with_reducible repeat (first | refine blk_drewN ?_ _ | refine blk_drew ?_ | refine blk_alloc ?_ _)); refine blk_put (cs := #[.int .i64 ((rd_T57 l0 x7_1).f0), .slice none 0 0]) ?_ 1 _ rfl; (with_reducible repeat (first | refine blk_drewN ?_ _ | refine blk_drew ?_ | refine blk_alloc ?_ _)); refine blk_put (cs := #[.int .i64 0, .slice none 0 0]) ?_ 0 _ rfl; (with_reducible repeat (first | refine blk_drewN ?_ _ | refine blk_drew ?_ | refine blk_alloc ?_ _)); exact BK225.out⟩
             have n1_ : Aside0 (Below w.heap.size w ((w6.setCell ⟨gb225, 0, none⟩ (.int .i64 ((rd_T57 l0 x7_1).f0))).setCell ⟨gb225, 1, none⟩ (.slice A224_1 ((rd_T57 l0 x7_1).f1).length c224_1))) := ⟨be_ HB.out⟩
             (try clear BK225)
             (try clear HB)
             generalize ((w6.setCell ⟨gb225, 0, none⟩ (.int .i64 ((rd_T57 l0 x7_1).f0))).setCell ⟨gb225, 1, none⟩ (.slice A224_1 ((rd_T57 l0 x7_1).f1).length c224_1)) = w21 at n0_ n1_ ⊢
             have BK225 := n0_
             have HB := n1_
             clear n0_ n1_
             replace BK225 := Aside0.mk (blk_drew BK225.out)
             replace HB := Aside0.mk (below_drew1 HB.out)
             have p227 : 0 <= ((ji11) : Int) := of_decide_eq_true as_
             have q227 : (ji11) < (l0.length : Int) := of_decide_eq_true as_
             obtain ⟨ad227, A227_1, c227_1, e227, hx227_0, hx227_1, hl227_1, hi227_1⟩ := at_T57 HR0.out (ji11) p227 q227
             have hw227_1 := hx227_1
             have hw227_0 := hx227_0
             obtain rfl : ad224 = ad227 := (by injection e227)
             replace hx227_0 := (HB.out.cell (World.block_lt_of_cell? w _ hx227_0)).trans hx227_0
             replace hx227_1 := (HB.out.cell (World.block_lt_of_cell? w _ hx227_1)).trans hx227_1
             have HR227_1 := Aside0.mk hi227_1
             have HC227_1 := Aside0.mk hl227_1
             clear hi227_1 hl227_1
             replace p227 := eq_true p227
             replace q227 := eq_true q227
             refine start_ (n := 31) (S := fun w' => w'.cell? ⟨gb225, 0, none⟩ = some (.int .i64 ((rd_T57 l0 x7_1).f0)) /\ w'.cell? ⟨gb225, 1, none⟩ = some (.slice A224_1 ((rd_T57 l0 x7_1).f1).length c224_1) /\ w'.cell? (ad224.add (((ji11)).toNat * 2)) = some (.int .i64 ((rd_T57 l0 (ji11)).f0)) /\ w'.cell? ⟨(ad224.add (((ji11)).toNat * 2)).block, (ad224.add (((ji11)).toNat * 2)).off + 1, none⟩ = some (.slice A227_1 ((rd_T57 l0 (ji11)).f1).length c227_1)) (ds := []) z30_0 (by kernel_rfl) rfl rfl ⟨(blk_cell BK225.out 0).trans rfl, (blk_cell BK225.out 1).trans rfl, ((HB.out.cell (World.block_lt_of_cell? w _ hw227_0)).trans hw227_0), ((HB.out.cell (World.block_lt_of_cell? w _ hw227_1)).trans hw227_1)⟩ (fun hHeld => ?_); refine with_tabW spec_GoodPosts.tab4 spec_GoodPosts.bits4 (fun HT_ HW_ => ?_)
             generalize w21.drew = w22 at BK225 HB HR227_1 hx227_0 hx227_1 hHeld ⊢
             refine pure_ (i := 0) (N := some 12) (v := ?_) (a' := ?_) z30_1 rfl rfl (any_of HT_.out (by kernel_rfl)) (fun _ _ _ h => h) (Or.inl ⟨by rfl, ?_⟩) ?_ ?_
             rotate_left; · (intro w'; go_simp; with_reducible rfl)
             rotate_left; · (simp only [Act.put, sx_, wx_]; rfl)
             refine take_ (i := 1) (N := some 13) (v := ?_) (a' := ?_) z30_2 rfl rfl (take_ofW HT_.out HW_.out (by kernel_rfl)) (fun _ _ _ h => h) (Or.inl ⟨by rfl, ?_⟩) hHeld ?_ ?_
             rotate_left
             ·rintro w' ⟨s0, s1, s2, s3⟩
              go_simp
              with_reducible rfl
             rotate_left
             ·simp only [Act.put, sx_, wx_]
              rfl
             refine one_ (i := 2) (N := some 14) z30_3 rfl rfl (one_of HT_.out (by kernel_rfl)) (by decide) (fun K hK => ?_)
             refine goes_ Try.func67 (by kernel_rfl) rfl #[.int .i64 ((rd_T57 l0 x7_1).f0), .int .i64 0, .int .i64 11] (by rfl) rfl rfl (ag_) ?_
             with_reducible refine (spec_l1In.calls ((rd_T57 l0 x7_1).f0) 0 11 true _ A8.out).mono ?_
             rintro e w' ⟨rfl, ⟨nd, rfl⟩⟩
             refine ⟨_, rfl, ?_⟩
             refine hK.out _ _ ⟨(blk_cell BK225.out 0).trans rfl, (blk_cell BK225.out 1).trans rfl, ((HB.out.cell (World.block_lt_of_cell? w _ hw227_0)).trans hw227_0), ((HB.out.cell (World.block_lt_of_cell? w _ hw227_1)).trans hw227_1)⟩ (fun hHeld => ?_)
             clear hK K
             refine norm_ (a' := ?_) ?_ ?_
             rotate_left
             ·show Act.put _ (some 14) _ = _
              simp only [Act.put, sx_, wx_]
              rfl
             refine pure_ (i := 3) (N := some 15) (v := ?_) (a' := ?_) z30_4 rfl rfl (any_of HT_.out (by kernel_rfl)) (fun _ _ _ h => h) (Or.inl ⟨by rfl, ?_⟩) ?_ ?_
             rotate_left; · (intro w'; go_simp; with_reducible rfl)
             rotate_left; · (simp only [Act.put, sx_, wx_]; rfl)
             refine pure_ (i := 4) (N := some 16) (v := ?_) (a' := ?_) z30_5 rfl rfl (any_of HT_.out (by kernel_rfl)) (fun _ _ _ h => h) (Or.inl ⟨by rfl, ?_⟩) ?_ ?_
             rotate_left; · (intro w'; go_simp; with_reducible rfl)
             rotate_left; · (simp only [Act.put, sx_, wx_]; rfl)
             refine pure_ (i := 5) (N := some 17) (v := ?_) (a' := ?_) z30_6 rfl rfl (any_of HT_.out (by kernel_rfl)) (fun _ _ _ h => h) (Or.inl ⟨by rfl, ?_⟩) ?_ ?_
             rotate_left; · (intro w'; go_simp; with_reducible rfl)
             rotate_left; · (simp only [Act.put, sx_, wx_]; rfl)
             refine pure_ (i := 6) (N := some 18) (v := ?_) (a' := ?_) z30_7 rfl rfl (any_of HT_.out (by kernel_rfl)) (fun _ _ _ h => h) (Or.inl ⟨by rfl, ?_⟩) ?_ ?_
             rotate_left; · (intro w'; go_simp; with_reducible rfl)
             rotate_left; · (simp only [Act.put, sx_, wx_]; rfl)
             refine pure_ (i := 7) (N := some 19) (v := ?_) (a' := ?_) z30_8 rfl rfl (any_of HT_.out (by kernel_rfl)) (fun _ _ _ h => h) (Or.inl ⟨by rfl, ?_⟩) ?_ ?_
             rotate_left; · (intro w'; go_simp; with_reducible rfl)
             rotate_left; · (simp only [Act.put, sx_, wx_]; rfl)
             refine pure_ (i := 8) (N := some 20) (v := ?_) (a' := ?_) z30_9 rfl rfl (any_of HT_.out (by kernel_rfl)) (fun _ _ _ h => h) (Or.inl ⟨by rfl, ?_⟩) ?_ ?_
             rotate_left; · (intro w'; go_simp; with_reducible rfl)
             rotate_left; · (simp only [Act.put, sx_, wx_]; rfl)
             refine pure_ (i := 9) (N := some 21) (v := ?_) (a' := ?_) z30_10 rfl rfl (any_of HT_.out (by kernel_rfl)) (fun _ _ _ h => h) (Or.inl ⟨by rfl, ?_⟩) ?_ ?_
             rotate_left; · (intro w'; go_simp; with_reducible rfl)
             rotate_left; · (simp only [Act.put, sx_, wx_]; rfl)
             refine pure_ (i := 10) (N := some 22) (v := ?_) (a' := ?_) z30_11 rfl rfl (any_of HT_.out (by kernel_rfl)) (fun _ _ _ h => h) (Or.inl ⟨by rfl, ?_⟩) ?_ ?_
             rotate_left; · (intro w'; go_simp; with_reducible rfl)
             rotate_left; · (simp only [Act.put, sx_, wx_]; rfl)
             refine pure_ (i := 11) (N := some 23) (v := ?_) (a' := ?_) z30_12 rfl rfl (any_of HT_.out (by kernel_rfl)) (fun _ _ _ h => h) (Or.inl ⟨by rfl, ?_⟩) ?_ ?_
             rotate_left; · (intro w'; go_simp; with_reducible rfl)
             rotate_left; · (simp only [Act.put, sx_, wx_]; rfl)
             refine pure_ (i := 12) (N := some 24) (v := ?_) (a' := ?_) z30_13 rfl rfl (any_of HT_.out (by kernel_rfl)) (fun _ _ _ h => h) (Or.inl ⟨by rfl, ?_⟩) ?_ ?_
             rotate_left; · (intro w'; go_simp; with_reducible rfl)
             rotate_left; · (simp only [Act.put, sx_, wx_]; rfl)
             refine pure_ (i := 14) (N := some 26) (v := ?_) (a' := ?_) z30_14 rfl rfl (any_of HT_.out (by kernel_rfl)) (fun _ _ _ h => h) (Or.inl ⟨by rfl, ?_⟩) ?_ ?_
             rotate_left; · (intro w'; go_simp; with_reducible rfl)
             rotate_left; · (simp only [Act.put, sx_, wx_]; rfl)
             refine take_ (i := 13) (N := some 25) (v := ?_) (a' := ?_) z30_16 rfl rfl (take_ofW HT_.out HW_.out (by kernel_rfl)) (fun _ _ _ h => h) (Or.inl ⟨by rfl, ?_⟩) hHeld ?_ ?_
             rotate_left
             ·rintro w' ⟨s0, s1, s2, s3⟩
              go_simp
              with_reducible rfl
             rotate_left
             ·simp only [Act.put, sx_, wx_]
              rfl
             refine take_ (i := 15) (N := some 27) (v := ?_) (a' := ?_) z30_17 rfl rfl (take_ofW HT_.out HW_.out (by kernel_rfl)) (fun _ _ _ h => h) (Or.inl ⟨by rfl, ?_⟩) hHeld ?_ ?_
             rotate_left
             ·rintro w' ⟨s0, s1, s2, s3⟩
              go_simp
              with_reducible rfl
             rotate_left
             ·simp only [Act.put, sx_, wx_]
              rfl
             refine pure_ (i := 16) (N := some 28) (v := ?_) (a' := ?_) z30_18 rfl rfl (any_of HT_.out (by kernel_rfl)) (fun _ _ _ h => h) (Or.inl ⟨by rfl, ?_⟩) ?_ ?_
             rotate_left; · (intro w'; go_simp; with_reducible rfl)
             rotate_left; · (simp only [Act.put, sx_, wx_]; rfl)
             refine pure_ (i := 17) (N := some 29) (v := ?_) (a' := ?_) z30_19 rfl rfl (any_of HT_.out (by kernel_rfl)) (fun _ _ _ h => h) (Or.inl ⟨by rfl, ?_⟩) ?_ ?_
             rotate_left; · (intro w'; go_simp; with_reducible rfl)
             rotate_left; · (simp only [Act.put, sx_, wx_]; rfl)
             refine pure_ (i := 18) (N := some 30) (v := ?_) (a' := ?_) z30_20 rfl rfl (any_of HT_.out (by kernel_rfl)) (fun _ _ _ h => h) (Or.inl ⟨by rfl, ?_⟩) ?_ ?_
             rotate_left; · (intro w'; go_simp; with_reducible rfl)
             rotate_left; · (simp only [Act.put, sx_, wx_]; rfl)
             refine pure_ (i := 19) (N := some 31) (v := ?_) (a' := ?_) z30_21 rfl rfl (any_of HT_.out (by kernel_rfl)) (fun _ _ _ h => h) (Or.inl ⟨by rfl, ?_⟩) ?_ ?_
             rotate_left; · (intro w'; go_simp; with_reducible rfl)
             rotate_left; · (simp only [Act.put, sx_, wx_]; rfl)
             refine pure_ (i := 20) (N := some 32) (v := ?_) (a' := ?_) z30_22 rfl rfl (any_of HT_.out (by kernel_rfl)) (fun _ _ _ h => h) (Or.inl ⟨by rfl, ?_⟩) ?_ ?_
             rotate_left; · (intro w'; go_simp; with_reducible rfl)
             rotate_left; · (simp only [Act.put, sx_, wx_]; rfl)
             refine take_ (i := 21) (N := some 33) (v := ?_) (a' := ?_) z30_23 rfl rfl (take_ofW HT_.out HW_.out (by kernel_rfl)) (fun _ _ _ h => h) (Or.inl ⟨by rfl, ?_⟩) hHeld ?_ ?_
             rotate_left
             ·rintro w' ⟨s0, s1, s2, s3⟩
              go_simp
              with_reducible rfl
             rotate_left
             ·simp only [Act.put, sx_, wx_]
              rfl
             refine pure_ (i := 22) (N := some 34) (v := ?_) (a' := ?_) z30_24 rfl rfl (any_of HT_.out (by kernel_rfl)) (fun _ _ _ h => h) (Or.inl ⟨by rfl, ?_⟩) ?_ ?_
             rotate_left; · (intro w'; go_simp; with_reducible rfl)
             rotate_left; · (simp only [Act.put, sx_, wx_]; rfl)
             refine pure_ (i := 23) (N := some 35) (v := ?_) (a' := ?_) z30_25 rfl rfl (any_of HT_.out (by kernel_rfl)) (fun _ _ _ h => h) (Or.inl ⟨by rfl, ?_⟩) ?_ ?_
             rotate_left; · (intro w'; go_simp; with_reducible rfl)
             rotate_left; · (simp only [Act.put, sx_, wx_]; rfl)
             refine pure_ (i := 24) (N := some 36) (v := ?_) (a' := ?_) z30_26 rfl rfl (any_of HT_.out (by kernel_rfl)) (fun _ _ _ h => h) (Or.inl ⟨by rfl, ?_⟩) ?_ ?_
             rotate_left; · (intro w'; go_simp; with_reducible rfl)
             rotate_left; · (simp only [Act.put, sx_, wx_]; rfl)
             refine pure_ (i := 25) (N := some 37) (v := ?_) (a' := ?_) z30_27 rfl rfl (any_of HT_.out (by kernel_rfl)) (fun _ _ _ h => h) (Or.inl ⟨by rfl, ?_⟩) ?_ ?_
             rotate_left; · (intro w'; go_simp; with_reducible rfl)
             rotate_left; · (simp only [Act.put, sx_, wx_]; rfl)
             refine pure_ (i := 26) (N := some 38) (v := ?_) (a' := ?_) z30_28 rfl rfl (any_of HT_.out (by kernel_rfl)) (fun _ _ _ h => h) (Or.inl ⟨by rfl, ?_⟩) ?_ ?_
             rotate_left; · (intro w'; go_simp; with_reducible rfl)
             rotate_left; · (simp only [Act.put, sx_, wx_]; rfl)
             refine take_ (i := 27) (N := some 39) (v := ?_) (a' := ?_) z30_29 rfl rfl (take_ofW HT_.out HW_.out (by kernel_rfl)) (fun _ _ _ h => h) (Or.inl ⟨by rfl, ?_⟩) hHeld ?_ ?_
             rotate_left
             ·rintro w' ⟨s0, s1, s2, s3⟩
              go_simp
              with_reducible rfl
             rotate_left
             ·simp only [Act.put, sx_, wx_]
              rfl
             refine one_ (i := 28) (N := some 40) z30_30 rfl rfl (one_of HT_.out (by kernel_rfl)) (by decide) (fun K hK => ?_)
             refine goes_ Try.func68 (by kernel_rfl) rfl #[.slice A224_1 ((rd_T57 l0 x7_1).f1).length c224_1, .int .i64 0, .int .i64 19] (by rfl) rfl rfl (ag_) ?_
             with_reducible refine (spec_l1Rising.calls k1 _ _ ((rd_T57 l0 x7_1).f1) 0 19 t228 _ ?side1 ?side2 A20.out).mono ?_
             (case side1 => repeat (first | exact (Kd.C_below HR224_1.out (be_ HB.out)) | (with_reducible refine Kd.C_alloc ?_ _) | (with_reducible refine Kd.C_drewN ?_ _) | (with_reducible refine Kd.C_drew ?_)))
             (case side2 => exact HC224_1.out)
             rintro e w' ⟨rfl, ⟨nd, rfl⟩⟩
             refine ⟨_, rfl, ?_⟩
             refine hK.out _ _ ⟨(blk_cell BK225.out 0).trans rfl, (blk_cell BK225.out 1).trans rfl, ((HB.out.cell (World.block_lt_of_cell? w _ hw227_0)).trans hw227_0), ((HB.out.cell (World.block_lt_of_cell? w _ hw227_1)).trans hw227_1)⟩ (fun hHeld => ?_)
             clear hK K
             refine norm_ (a' := ?_) ?_ ?_
             rotate_left
             ·show Act.put _ (some 40) _ = _
              simp only [Act.put, sx_, wx_]
              rfl
             refine pure_ (i := 29) (N := some 41) (v := ?_) (a' := ?_) z30_31 rfl rfl (any_of HT_.out (by kernel_rfl)) (fun _ _ _ h => h) (Or.inl ⟨by rfl, ?_⟩) ?_ ?_
             rotate_left; · (intro w'; go_simp; with_reducible rfl)
             rotate_left; · (simp only [Act.put, sx_, wx_]; rfl)
             refine pure_ (i := 30) (N := some 42) (v := ?_) (a' := ?_) z30_32 rfl rfl (any_of HT_.out (by kernel_rfl)) (fun _ _ _ h => h) (Or.inl ⟨by rfl, ?_⟩) ?_ ?_
             rotate_left; · (intro w'; go_simp; with_reducible rfl)
             rotate_left; · (simp only [Act.put, sx_, wx_]; rfl)
             refine done_ (done_of HT_.out (by kernel_rfl)) ?_
             try go_wp2
             first | go_meet | (simp only [<- hji11]; go_meet)
             case rel => exact ⟨_, (!t228), (by first | rfl | (simp; done) | (simp [*]; done)), (by first | exact H' | (simp only [hji11]; exact H') | (simp only [<- hji11] at H' ⊢; exact H')), ⟨by have := HK1.out; first | omega | exact Nat.le_refl _⟩, ⟨pk_ BK225.out⟩, ⟨be_ HB.out⟩⟩
          ·rw [if_neg c13] at H
           exact absurd H (by simp)
         ·rw [if_neg c12] at H
          exact absurd H (by simp)
        ·rw [if_neg c10] at H
         have c10b0 : decide (0 < x7_1) = false := decide_eq_false c10
         clear c10
         (first | rw [c10b0] | (simp only [i64_w, i32_w]; rw [c10b0]) | rw [c10b1] | skip)
         by_cases c23 : (((rd_T57 l0 x7_1).f1).length : Int) = 0
         ·rw [if_pos c23] at H
          have c23b0 : ((((rd_T57 l0 x7_1).f1).length : Int) == 0) = true := beq_iff_eq.mpr c23
          have c23b1 : ((((rd_T57 l0 x7_1).f1).length : Int) != 0) = false := bne_eq_false_iff_eq.mpr c23
          clear c23
          have H' := Aside0.mk H
          clear H
          try go_wp2
          have n0_ : Aside0 (((w6.setCell ⟨gb225, 0, none⟩ (.int .i64 ((rd_T57 l0 x7_1).f0))).setCell ⟨gb225, 1, none⟩ (.slice A224_1 ((rd_T57 l0 x7_1).f1).length c224_1)).heap[gb225]? = some (.cells #[.int .i64 ((rd_T57 l0 x7_1).f0), .slice A224_1 ((rd_T57 l0 x7_1).f1).length c224_1] 57 (0, 0))) := ⟨by (with_reducible repeat (first | refine blk_drewN ?_ _ | refine blk_drew ?_ | refine blk_alloc ?_ _)); refine blk_put (cs := #[.int .i64 ((rd_T57 l0 x7_1).f0), .slice none 0 0]) ?_ 1 _ rfl; (with_reducible repeat (first | refine blk_drewN ?_ _ | refine blk_drew ?_ | refine blk_alloc ?_ _)); refine blk_put (cs := #[.int .i64 0, .slice none 0 0]) ?_ 0 _ rfl; (with_reducible repeat (first | refine blk_drewN ?_ _ | refine blk_drew ?_ | refine blk_alloc ?_ _)); exact BK225.out⟩
          have n1_ : Aside0 (Below w.heap.size w ((w6.setCell ⟨gb225, 0, none⟩ (.int .i64 ((rd_T57 l0 x7_1).f0))).setCell ⟨gb225, 1, none⟩ (.slice A224_1 ((rd_T57 l0 x7_1).f1).length c224_1))) := ⟨be_ HB.out⟩
          (try clear BK225)
          (try clear HB)
          generalize ((w6.setCell ⟨gb225, 0, none⟩ (.int .i64 ((rd_T57 l0 x7_1).f0))).setCell ⟨gb225, 1, none⟩ (.slice A224_1 ((rd_T57 l0 x7_1).f1).length c224_1)) = w24 at n0_ n1_ ⊢
          have BK225 := n0_
          have HB := n1_
          clear n0_ n1_
          replace BK225 := Aside0.mk (blk_drew BK225.out)
          replace HB := Aside0.mk (below_drew1 HB.out)
          refine start_ (n := 31) (S := fun w' => w'.cell? ⟨gb225, 0, none⟩ = some (.int .i64 ((rd_T57 l0 x7_1).f0)) /\ w'.cell? ⟨gb225, 1, none⟩ = some (.slice A224_1 ((rd_T57 l0 x7_1).f1).length c224_1)) (ds := []) z30_0 (by kernel_rfl) rfl rfl ⟨(blk_cell BK225.out 0).trans rfl, (blk_cell BK225.out 1).trans rfl⟩ (fun hHeld => ?_); refine with_tabW spec_GoodPosts.tab4 spec_GoodPosts.bits4 (fun HT_ HW_ => ?_)
          generalize w24.drew = w25 at BK225 HB hHeld ⊢
          refine pure_ (i := 0) (N := some 12) (v := ?_) (a' := ?_) z30_1 rfl rfl (any_of HT_.out (by kernel_rfl)) (fun _ _ _ h => h) (Or.inl ⟨by rfl, ?_⟩) ?_ ?_
          rotate_left; · (intro w'; go_simp; with_reducible rfl)
          rotate_left; · (simp only [Act.put, sx_, wx_]; rfl)
          refine take_ (i := 1) (N := some 13) (v := ?_) (a' := ?_) z30_2 rfl rfl (take_ofW HT_.out HW_.out (by kernel_rfl)) (fun _ _ _ h => h) (Or.inl ⟨by rfl, ?_⟩) hHeld ?_ ?_
          rotate_left
          ·rintro w' ⟨s0, s1⟩
           go_simp
           with_reducible rfl
          rotate_left
          ·simp only [Act.put, sx_, wx_]
           rfl
          refine one_ (i := 2) (N := some 14) z30_3 rfl rfl (one_of HT_.out (by kernel_rfl)) (by decide) (fun K hK => ?_)
          refine goes_ Try.func67 (by kernel_rfl) rfl #[.int .i64 ((rd_T57 l0 x7_1).f0), .int .i64 0, .int .i64 11] (by rfl) rfl rfl (ag_) ?_
          with_reducible refine (spec_l1In.calls ((rd_T57 l0 x7_1).f0) 0 11 true _ A8.out).mono ?_
          rintro e w' ⟨rfl, ⟨nd, rfl⟩⟩
          refine ⟨_, rfl, ?_⟩
          refine hK.out _ _ ⟨(blk_cell BK225.out 0).trans rfl, (blk_cell BK225.out 1).trans rfl⟩ (fun hHeld => ?_)
          clear hK K
          refine norm_ (a' := ?_) ?_ ?_
          rotate_left
          ·show Act.put _ (some 14) _ = _
           simp only [Act.put, sx_, wx_]
           rfl
          refine pure_ (i := 3) (N := some 15) (v := ?_) (a' := ?_) z30_4 rfl rfl (any_of HT_.out (by kernel_rfl)) (fun _ _ _ h => h) (Or.inl ⟨by rfl, ?_⟩) ?_ ?_
          rotate_left; · (intro w'; go_simp; with_reducible rfl)
          rotate_left; · (simp only [Act.put, sx_, wx_]; rfl)
          refine pure_ (i := 4) (N := some 16) (v := ?_) (a' := ?_) z30_5 rfl rfl (any_of HT_.out (by kernel_rfl)) (fun _ _ _ h => h) (Or.inl ⟨by rfl, ?_⟩) ?_ ?_
          rotate_left; · (intro w'; go_simp; with_reducible rfl)
          rotate_left; · (simp only [Act.put, sx_, wx_]; rfl)
          refine pure_ (i := 5) (N := some 17) (v := ?_) (a' := ?_) z30_6 rfl rfl (any_of HT_.out (by kernel_rfl)) (fun _ _ _ h => h) (Or.inl ⟨by rfl, ?_⟩) ?_ ?_
          rotate_left; · (intro w'; go_simp; with_reducible rfl)
          rotate_left; · (simp only [Act.put, sx_, wx_]; rfl)
          refine pure_ (i := 6) (N := some 18) (v := ?_) (a' := ?_) z30_7 rfl rfl (any_of HT_.out (by kernel_rfl)) (fun _ _ _ h => h) (Or.inl ⟨by rfl, ?_⟩) ?_ ?_
          rotate_left; · (intro w'; go_simp; with_reducible rfl)
          rotate_left; · (simp only [Act.put, sx_, wx_]; rfl)
          refine pure_ (i := 7) (N := some 19) (v := ?_) (a' := ?_) z30_8 rfl rfl (any_of HT_.out (by kernel_rfl)) (fun _ _ _ h => h) (Or.inl ⟨by rfl, ?_⟩) ?_ ?_
          rotate_left; · (intro w'; go_simp; with_reducible rfl)
          rotate_left; · (simp only [Act.put, sx_, wx_]; rfl)
          refine pure_ (i := 8) (N := some 20) (v := undef) (a' := ?_) z30_9 rfl rfl (any_of HT_.out (by kernel_rfl)) (fun _ _ _ h => h) (Or.inr ⟨by rfl, rfl⟩) ?_ ?_
          rotate_left
          ·simp only [Act.put, sx_, wx_]
           rfl
          refine pure_ (i := 9) (N := some 21) (v := undef) (a' := ?_) z30_10 rfl rfl (any_of HT_.out (by kernel_rfl)) (fun _ _ _ h => h) (Or.inr ⟨by rfl, rfl⟩) ?_ ?_
          rotate_left
          ·simp only [Act.put, sx_, wx_]
           rfl
          refine pure_ (i := 10) (N := some 22) (v := undef) (a' := ?_) z30_11 rfl rfl (any_of HT_.out (by kernel_rfl)) (fun _ _ _ h => h) (Or.inr ⟨by rfl, rfl⟩) ?_ ?_
          rotate_left
          ·simp only [Act.put, sx_, wx_]
           rfl
          refine pure_ (i := 11) (N := some 23) (v := undef) (a' := ?_) z30_12 rfl rfl (any_of HT_.out (by kernel_rfl)) (fun _ _ _ h => h) (Or.inr ⟨by rfl, rfl⟩) ?_ ?_
          rotate_left
          ·simp only [Act.put, sx_, wx_]
           rfl
          refine pure_ (i := 12) (N := some 24) (v := undef) (a' := ?_) z30_13 rfl rfl (any_of HT_.out (by kernel_rfl)) (fun _ _ _ h => h) (Or.inr ⟨by rfl, rfl⟩) ?_ ?_
          rotate_left
          ·simp only [Act.put, sx_, wx_]
           rfl
          refine pure_ (i := 13) (N := some 25) (v := undef) (a' := ?_) z30_15 rfl rfl (any_of HT_.out (by kernel_rfl)) (fun _ _ _ h => h) (Or.inr ⟨by rfl, rfl⟩) ?_ ?_
          rotate_left
          ·simp only [Act.put, sx_, wx_]
           rfl
          refine pure_ (i := 14) (N := some 26) (v := undef) (a' := ?_) z30_16 rfl rfl (any_of HT_.out (by kernel_rfl)) (fun _ _ _ h => h) (Or.inr ⟨by rfl, rfl⟩) ?_ ?_
          rotate_left
          ·simp only [Act.put, sx_, wx_]
           rfl
          refine pure_ (i := 15) (N := some 27) (v := undef) (a' := ?_) z30_17 rfl rfl (any_of HT_.out (by kernel_rfl)) (fun _ _ _ h => h) (Or.inr ⟨by rfl, rfl⟩) ?_ ?_
          rotate_left
          ·simp only [Act.put, sx_, wx_]
           rfl
          refine pure_ (i := 16) (N := some 28) (v := undef) (a' := ?_) z30_18 rfl rfl (any_of HT_.out (by kernel_rfl)) (fun _ _ _ h => h) (Or.inr ⟨by rfl, rfl⟩) ?_ ?_
          rotate_left
          ·simp only [Act.put, sx_, wx_]
           rfl
          refine pure_ (i := 17) (N := some 29) (v := ?_) (a' := ?_) z30_19 rfl rfl (any_of HT_.out (by kernel_rfl)) (fun _ _ _ h => h) (Or.inl ⟨by rfl, ?_⟩) ?_ ?_
          rotate_left; · (intro w'; go_simp; with_reducible rfl)
          rotate_left; · (simp only [Act.put, sx_, wx_]; rfl)
          refine pure_ (i := 18) (N := some 30) (v := ?_) (a' := ?_) z30_20 rfl rfl (any_of HT_.out (by kernel_rfl)) (fun _ _ _ h => h) (Or.inl ⟨by rfl, ?_⟩) ?_ ?_
          rotate_left; · (intro w'; go_simp; with_reducible rfl)
          rotate_left; · (simp only [Act.put, sx_, wx_]; rfl)
          refine pure_ (i := 19) (N := some 31) (v := ?_) (a' := ?_) z30_21 rfl rfl (any_of HT_.out (by kernel_rfl)) (fun _ _ _ h => h) (Or.inl ⟨by rfl, ?_⟩) ?_ ?_
          rotate_left; · (intro w'; go_simp; with_reducible rfl)
          rotate_left; · (simp only [Act.put, sx_, wx_]; rfl)
          refine pure_ (i := 20) (N := some 32) (v := ?_) (a' := ?_) z30_22 rfl rfl (any_of HT_.out (by kernel_rfl)) (fun _ _ _ h => h) (Or.inl ⟨by rfl, ?_⟩) ?_ ?_
          rotate_left; · (intro w'; go_simp; with_reducible rfl)
          rotate_left; · (simp only [Act.put, sx_, wx_]; rfl)
          refine take_ (i := 21) (N := some 33) (v := ?_) (a' := ?_) z30_23 rfl rfl (take_ofW HT_.out HW_.out (by kernel_rfl)) (fun _ _ _ h => h) (Or.inl ⟨by rfl, ?_⟩) hHeld ?_ ?_
          rotate_left
          ·rintro w' ⟨s0, s1⟩
           go_simp
           with_reducible rfl
          rotate_left
          ·simp only [Act.put, sx_, wx_]
           rfl
          refine pure_ (i := 22) (N := some 34) (v := ?_) (a' := ?_) z30_24 rfl rfl (any_of HT_.out (by kernel_rfl)) (fun _ _ _ h => h) (Or.inl ⟨by rfl, ?_⟩) ?_ ?_
          rotate_left; · (intro w'; go_simp; with_reducible rfl)
          rotate_left; · (simp only [Act.put, sx_, wx_]; rfl)
          refine pure_ (i := 23) (N := some 35) (v := ?_) (a' := ?_) z30_25 rfl rfl (any_of HT_.out (by kernel_rfl)) (fun _ _ _ h => h) (Or.inl ⟨by rfl, ?_⟩) ?_ ?_
          rotate_left; · (intro w'; go_simp; with_reducible rfl)
          rotate_left; · (simp only [Act.put, sx_, wx_]; rfl)
          refine pure_ (i := 24) (N := some 36) (v := ?_) (a' := ?_) z30_26 rfl rfl (any_of HT_.out (by kernel_rfl)) (fun _ _ _ h => h) (Or.inl ⟨by rfl, ?_⟩) ?_ ?_
          rotate_left; · (intro w'; go_simp; with_reducible rfl)
          rotate_left; · (simp only [Act.put, sx_, wx_]; rfl)
          refine pure_ (i := 25) (N := some 37) (v := ?_) (a' := ?_) z30_27 rfl rfl (any_of HT_.out (by kernel_rfl)) (fun _ _ _ h => h) (Or.inl ⟨by rfl, ?_⟩) ?_ ?_
          rotate_left; · (intro w'; go_simp; with_reducible rfl)
          rotate_left; · (simp only [Act.put, sx_, wx_]; rfl)
          refine pure_ (i := 26) (N := some 38) (v := undef) (a' := ?_) z30_28 rfl rfl (any_of HT_.out (by kernel_rfl)) (fun _ _ _ h => h) (Or.inr ⟨by rfl, rfl⟩) ?_ ?_
          rotate_left
          ·simp only [Act.put, sx_, wx_]
           rfl
          refine pure_ (i := 27) (N := some 39) (v := undef) (a' := ?_) z30_29 rfl rfl (any_of HT_.out (by kernel_rfl)) (fun _ _ _ h => h) (Or.inr ⟨by rfl, rfl⟩) ?_ ?_
          rotate_left
          ·simp only [Act.put, sx_, wx_]
           rfl
          refine pure_ (i := 28) (N := some 40) (v := undef) (a' := ?_) z30_30 rfl rfl (any_of HT_.out (by kernel_rfl)) (fun _ _ _ h => h) (Or.inr ⟨by rfl, rfl⟩) ?_ ?_
          rotate_left
          ·simp only [Act.put, sx_, wx_]
           rfl
          refine pure_ (i := 29) (N := some 41) (v := undef) (a' := ?_) z30_31 rfl rfl (any_of HT_.out (by kernel_rfl)) (fun _ _ _ h => h) (Or.inr ⟨by rfl, rfl⟩) ?_ ?_
          rotate_left
          ·simp only [Act.put, sx_, wx_]
           rfl
          refine pure_ (i := 30) (N := some 42) (v := ?_) (a' := ?_) z30_32 rfl rfl (any_of HT_.out (by kernel_rfl)) (fun _ _ _ h => h) (Or.inl ⟨by rfl, ?_⟩) ?_ ?_
          rotate_left; · (intro w'; go_simp; with_reducible rfl)
          rotate_left; · (simp only [Act.put, sx_, wx_]; rfl)
          refine done_ (done_of HT_.out (by kernel_rfl)) ?_
          try go_wp2
          go_meet
          case rel => exact ⟨_, (true), (by first | rfl | (simp; done) | (simp [*]; done)), H', ⟨by have := HK1.out; first | omega | exact Nat.le_refl _⟩, ⟨pk_ BK225.out⟩, ⟨be_ HB.out⟩⟩
         ·rw [if_neg c23] at H
          have c23b0 : ((((rd_T57 l0 x7_1).f1).length : Int) == 0) = false := beq_eq_false_iff_ne.mpr c23
          have c23b1 : ((((rd_T57 l0 x7_1).f1).length : Int) != 0) = true := bne_iff_ne.mpr c23
          have c23b2 : ¬ (((rd_T57 l0 x7_1).f1) = []) := fun h_ => c23 (by rw [h_]; rfl)
          replace H := Option.bind_eq_some_iff.mp H
          obtain ⟨t229, A260, H⟩ := H
          replace H : (spec_GoodPosts.j1 k1 l0 l0 (l0.length : Int) x7_1 (!t229)) = some r := H
          have A26 := Aside0.mk A260
          clear A260
          have H' := Aside0.mk H
          clear H
          try go_wp2
          have n0_ : Aside0 (((w6.setCell ⟨gb225, 0, none⟩ (.int .i64 ((rd_T57 l0 x7_1).f0))).setCell ⟨gb225, 1, none⟩ (.slice A224_1 ((rd_T57 l0 x7_1).f1).length c224_1)).heap[gb225]? = some (.cells #[.int .i64 ((rd_T57 l0 x7_1).f0), .slice A224_1 ((rd_T57 l0 x7_1).f1).length c224_1] 57 (0, 0))) := ⟨by (with_reducible repeat (first | refine blk_drewN ?_ _ | refine blk_drew ?_ | refine blk_alloc ?_ _)); refine blk_put (cs := #[.int .i64 ((rd_T57 l0 x7_1).f0), .slice none 0 0]) ?_ 1 _ rfl; (with_reducible repeat (first | refine blk_drewN ?_ _ | refine blk_drew ?_ | refine blk_alloc ?_ _)); refine blk_put (cs := #[.int .i64 0, .slice none 0 0]) ?_ 0 _ rfl; (with_reducible repeat (first | refine blk_drewN ?_ _ | refine blk_drew ?_ | refine blk_alloc ?_ _)); exact BK225.out⟩
          have n1_ : Aside0 (Below w.heap.size w ((w6.setCell ⟨gb225, 0, none⟩ (.int .i64 ((rd_T57 l0 x7_1).f0))).setCell ⟨gb225, 1, none⟩ (.slice A224_1 ((rd_T57 l0 x7_1).f1).length c224_1))) := ⟨be_ HB.out⟩
          (try clear BK225)
          (try clear HB)
          generalize ((w6.setCell ⟨gb225, 0, none⟩ (.int .i64 ((rd_T57 l0 x7_1).f0))).setCell ⟨gb225, 1, none⟩ (.slice A224_1 ((rd_T57 l0 x7_1).f1).length c224_1)) = w27 at n0_ n1_ ⊢
          have BK225 := n0_
          have HB := n1_
          clear n0_ n1_
          replace BK225 := Aside0.mk (blk_drew BK225.out)
          replace HB := Aside0.mk (below_drew1 HB.out)
          refine start_ (n := 31) (S := fun w' => w'.cell? ⟨gb225, 0, none⟩ = some (.int .i64 ((rd_T57 l0 x7_1).f0)) /\ w'.cell? ⟨gb225, 1, none⟩ = some (.slice A224_1 ((rd_T57 l0 x7_1).f1).length c224_1)) (ds := []) z30_0 (by kernel_rfl) rfl rfl ⟨(blk_cell BK225.out 0).trans rfl, (blk_cell BK225.out 1).trans rfl⟩ (fun hHeld => ?_); refine with_tabW spec_GoodPosts.tab4 spec_GoodPosts.bits4 (fun HT_ HW_ => ?_)
          generalize w27.drew = w28 at BK225 HB hHeld ⊢
          refine pure_ (i := 0) (N := some 12) (v := ?_) (a' := ?_) z30_1 rfl rfl (any_of HT_.out (by kernel_rfl)) (fun _ _ _ h => h) (Or.inl ⟨by rfl, ?_⟩) ?_ ?_
          rotate_left; · (intro w'; go_simp; with_reducible rfl)
          rotate_left; · (simp only [Act.put, sx_, wx_]; rfl)
          refine take_ (i := 1) (N := some 13) (v := ?_) (a' := ?_) z30_2 rfl rfl (take_ofW HT_.out HW_.out (by kernel_rfl)) (fun _ _ _ h => h) (Or.inl ⟨by rfl, ?_⟩) hHeld ?_ ?_
          rotate_left
          ·rintro w' ⟨s0, s1⟩
           go_simp
           with_reducible rfl
          rotate_left
          ·simp only [Act.put, sx_, wx_]
           rfl
          refine one_ (i := 2) (N := some 14) z30_3 rfl rfl (one_of HT_.out (by kernel_rfl)) (by decide) (fun K hK => ?_)
          refine goes_ Try.func67 (by kernel_rfl) rfl #[.int .i64 ((rd_T57 l0 x7_1).f0), .int .i64 0, .int .i64 11] (by rfl) rfl rfl (ag_) ?_
          with_reducible refine (spec_l1In.calls ((rd_T57 l0 x7_1).f0) 0 11 true _ A8.out).mono ?_
          rintro e w' ⟨rfl, ⟨nd, rfl⟩⟩
          refine ⟨_, rfl, ?_⟩
          refine hK.out _ _ ⟨(blk_cell BK225.out 0).trans rfl, (blk_cell BK225.out 1).trans rfl⟩ (fun hHeld => ?_)
          clear hK K
          refine norm_ (a' := ?_) ?_ ?_
          rotate_left
          ·show Act.put _ (some 14) _ = _
           simp only [Act.put, sx_, wx_]
           rfl
          refine pure_ (i := 3) (N := some 15) (v := ?_) (a' := ?_) z30_4 rfl rfl (any_of HT_.out (by kernel_rfl)) (fun _ _ _ h => h) (Or.inl ⟨by rfl, ?_⟩) ?_ ?_
          rotate_left; · (intro w'; go_simp; with_reducible rfl)
          rotate_left; · (simp only [Act.put, sx_, wx_]; rfl)
          refine pure_ (i := 4) (N := some 16) (v := ?_) (a' := ?_) z30_5 rfl rfl (any_of HT_.out (by kernel_rfl)) (fun _ _ _ h => h) (Or.inl ⟨by rfl, ?_⟩) ?_ ?_
          rotate_left; · (intro w'; go_simp; with_reducible rfl)
          rotate_left; · (simp only [Act.put, sx_, wx_]; rfl)
          refine pure_ (i := 5) (N := some 17) (v := ?_) (a' := ?_) z30_6 rfl rfl (any_of HT_.out (by kernel_rfl)) (fun _ _ _ h => h) (Or.inl ⟨by rfl, ?_⟩) ?_ ?_
          rotate_left; · (intro w'; go_simp; with_reducible rfl)
          rotate_left; · (simp only [Act.put, sx_, wx_]; rfl)
          refine pure_ (i := 6) (N := some 18) (v := ?_) (a' := ?_) z30_7 rfl rfl (any_of HT_.out (by kernel_rfl)) (fun _ _ _ h => h) (Or.inl ⟨by rfl, ?_⟩) ?_ ?_
          rotate_left; · (intro w'; go_simp; with_reducible rfl)
          rotate_left; · (simp only [Act.put, sx_, wx_]; rfl)
          refine pure_ (i := 7) (N := some 19) (v := ?_) (a' := ?_) z30_8 rfl rfl (any_of HT_.out (by kernel_rfl)) (fun _ _ _ h => h) (Or.inl ⟨by rfl, ?_⟩) ?_ ?_
          rotate_left; · (intro w'; go_simp; with_reducible rfl)
          rotate_left; · (simp only [Act.put, sx_, wx_]; rfl)
          refine pure_ (i := 8) (N := some 20) (v := undef) (a' := ?_) z30_9 rfl rfl (any_of HT_.out (by kernel_rfl)) (fun _ _ _ h => h) (Or.inr ⟨by rfl, rfl⟩) ?_ ?_
          rotate_left
          ·simp only [Act.put, sx_, wx_]
           rfl
          refine pure_ (i := 9) (N := some 21) (v := undef) (a' := ?_) z30_10 rfl rfl (any_of HT_.out (by kernel_rfl)) (fun _ _ _ h => h) (Or.inr ⟨by rfl, rfl⟩) ?_ ?_
          rotate_left
          ·simp only [Act.put, sx_, wx_]
           rfl
          refine pure_ (i := 10) (N := some 22) (v := undef) (a' := ?_) z30_11 rfl rfl (any_of HT_.out (by kernel_rfl)) (fun _ _ _ h => h) (Or.inr ⟨by rfl, rfl⟩) ?_ ?_
          rotate_left
          ·simp only [Act.put, sx_, wx_]
           rfl
          refine pure_ (i := 11) (N := some 23) (v := undef) (a' := ?_) z30_12 rfl rfl (any_of HT_.out (by kernel_rfl)) (fun _ _ _ h => h) (Or.inr ⟨by rfl, rfl⟩) ?_ ?_
          rotate_left
          ·simp only [Act.put, sx_, wx_]
           rfl
          refine pure_ (i := 12) (N := some 24) (v := undef) (a' := ?_) z30_13 rfl rfl (any_of HT_.out (by kernel_rfl)) (fun _ _ _ h => h) (Or.inr ⟨by rfl, rfl⟩) ?_ ?_
          rotate_left
          ·simp only [Act.put, sx_, wx_]
           rfl
          refine pure_ (i := 13) (N := some 25) (v := undef) (a' := ?_) z30_15 rfl rfl (any_of HT_.out (by kernel_rfl)) (fun _ _ _ h => h) (Or.inr ⟨by rfl, rfl⟩) ?_ ?_
          rotate_left
          ·simp only [Act.put, sx_, wx_]
           rfl
          refine pure_ (i := 14) (N := some 26) (v := undef) (a' := ?_) z30_16 rfl rfl (any_of HT_.out (by kernel_rfl)) (fun _ _ _ h => h) (Or.inr ⟨by rfl, rfl⟩) ?_ ?_
          rotate_left
          ·simp only [Act.put, sx_, wx_]
           rfl
          refine pure_ (i := 15) (N := some 27) (v := undef) (a' := ?_) z30_17 rfl rfl (any_of HT_.out (by kernel_rfl)) (fun _ _ _ h => h) (Or.inr ⟨by rfl, rfl⟩) ?_ ?_
          rotate_left
          ·simp only [Act.put, sx_, wx_]
           rfl
          refine pure_ (i := 16) (N := some 28) (v := undef) (a' := ?_) z30_18 rfl rfl (any_of HT_.out (by kernel_rfl)) (fun _ _ _ h => h) (Or.inr ⟨by rfl, rfl⟩) ?_ ?_
          rotate_left
          ·simp only [Act.put, sx_, wx_]
           rfl
          refine pure_ (i := 17) (N := some 29) (v := ?_) (a' := ?_) z30_19 rfl rfl (any_of HT_.out (by kernel_rfl)) (fun _ _ _ h => h) (Or.inl ⟨by rfl, ?_⟩) ?_ ?_
          rotate_left; · (intro w'; go_simp; with_reducible rfl)
          rotate_left; · (simp only [Act.put, sx_, wx_]; rfl)
          refine pure_ (i := 18) (N := some 30) (v := ?_) (a' := ?_) z30_20 rfl rfl (any_of HT_.out (by kernel_rfl)) (fun _ _ _ h => h) (Or.inl ⟨by rfl, ?_⟩) ?_ ?_
          rotate_left; · (intro w'; go_simp; with_reducible rfl)
          rotate_left; · (simp only [Act.put, sx_, wx_]; rfl)
          refine pure_ (i := 19) (N := some 31) (v := ?_) (a' := ?_) z30_21 rfl rfl (any_of HT_.out (by kernel_rfl)) (fun _ _ _ h => h) (Or.inl ⟨by rfl, ?_⟩) ?_ ?_
          rotate_left; · (intro w'; go_simp; with_reducible rfl)
          rotate_left; · (simp only [Act.put, sx_, wx_]; rfl)
          refine pure_ (i := 20) (N := some 32) (v := ?_) (a' := ?_) z30_22 rfl rfl (any_of HT_.out (by kernel_rfl)) (fun _ _ _ h => h) (Or.inl ⟨by rfl, ?_⟩) ?_ ?_
          rotate_left; · (intro w'; go_simp; with_reducible rfl)
          rotate_left; · (simp only [Act.put, sx_, wx_]; rfl)
          refine take_ (i := 21) (N := some 33) (v := ?_) (a' := ?_) z30_23 rfl rfl (take_ofW HT_.out HW_.out (by kernel_rfl)) (fun _ _ _ h => h) (Or.inl ⟨by rfl, ?_⟩) hHeld ?_ ?_
          rotate_left
          ·rintro w' ⟨s0, s1⟩
           go_simp
           with_reducible rfl
          rotate_left
          ·simp only [Act.put, sx_, wx_]
           rfl
          refine pure_ (i := 22) (N := some 34) (v := ?_) (a' := ?_) z30_24 rfl rfl (any_of HT_.out (by kernel_rfl)) (fun _ _ _ h => h) (Or.inl ⟨by rfl, ?_⟩) ?_ ?_
          rotate_left; · (intro w'; go_simp; with_reducible rfl)
          rotate_left; · (simp only [Act.put, sx_, wx_]; rfl)
          refine pure_ (i := 23) (N := some 35) (v := ?_) (a' := ?_) z30_25 rfl rfl (any_of HT_.out (by kernel_rfl)) (fun _ _ _ h => h) (Or.inl ⟨by rfl, ?_⟩) ?_ ?_
          rotate_left; · (intro w'; go_simp; with_reducible rfl)
          rotate_left; · (simp only [Act.put, sx_, wx_]; rfl)
          refine pure_ (i := 24) (N := some 36) (v := ?_) (a' := ?_) z30_26 rfl rfl (any_of HT_.out (by kernel_rfl)) (fun _ _ _ h => h) (Or.inl ⟨by rfl, ?_⟩) ?_ ?_
          rotate_left; · (intro w'; go_simp; with_reducible rfl)
          rotate_left; · (simp only [Act.put, sx_, wx_]; rfl)
          refine pure_ (i := 25) (N := some 37) (v := ?_) (a' := ?_) z30_27 rfl rfl (any_of HT_.out (by kernel_rfl)) (fun _ _ _ h => h) (Or.inl ⟨by rfl, ?_⟩) ?_ ?_
          rotate_left; · (intro w'; go_simp; with_reducible rfl)
          rotate_left; · (simp only [Act.put, sx_, wx_]; rfl)
          refine pure_ (i := 26) (N := some 38) (v := ?_) (a' := ?_) z30_28 rfl rfl (any_of HT_.out (by kernel_rfl)) (fun _ _ _ h => h) (Or.inl ⟨by rfl, ?_⟩) ?_ ?_
          rotate_left; · (intro w'; go_simp; with_reducible rfl)
          rotate_left; · (simp only [Act.put, sx_, wx_]; rfl)
          refine take_ (i := 27) (N := some 39) (v := ?_) (a' := ?_) z30_29 rfl rfl (take_ofW HT_.out HW_.out (by kernel_rfl)) (fun _ _ _ h => h) (Or.inl ⟨by rfl, ?_⟩) hHeld ?_ ?_
          rotate_left
          ·rintro w' ⟨s0, s1⟩
           go_simp
           with_reducible rfl
          rotate_left
          ·simp only [Act.put, sx_, wx_]
           rfl
          refine one_ (i := 28) (N := some 40) z30_30 rfl rfl (one_of HT_.out (by kernel_rfl)) (by decide) (fun K hK => ?_)
          refine goes_ Try.func68 (by kernel_rfl) rfl #[.slice A224_1 ((rd_T57 l0 x7_1).f1).length c224_1, .int .i64 0, .int .i64 19] (by rfl) rfl rfl (ag_) ?_
          with_reducible refine (spec_l1Rising.calls k1 _ _ ((rd_T57 l0 x7_1).f1) 0 19 t229 _ ?side1 ?side2 A26.out).mono ?_
          (case side1 => repeat (first | exact (Kd.C_below HR224_1.out (be_ HB.out)) | (with_reducible refine Kd.C_alloc ?_ _) | (with_reducible refine Kd.C_drewN ?_ _) | (with_reducible refine Kd.C_drew ?_)))
          (case side2 => exact HC224_1.out)
          rintro e w' ⟨rfl, ⟨nd, rfl⟩⟩
          refine ⟨_, rfl, ?_⟩
          refine hK.out _ _ ⟨(blk_cell BK225.out 0).trans rfl, (blk_cell BK225.out 1).trans rfl⟩ (fun hHeld => ?_)
          clear hK K
          refine norm_ (a' := ?_) ?_ ?_
          rotate_left
          ·show Act.put _ (some 40) _ = _
           simp only [Act.put, sx_, wx_]
           rfl
          refine pure_ (i := 29) (N := some 41) (v := ?_) (a' := ?_) z30_31 rfl rfl (any_of HT_.out (by kernel_rfl)) (fun _ _ _ h => h) (Or.inl ⟨by rfl, ?_⟩) ?_ ?_
          rotate_left; · (intro w'; go_simp; with_reducible rfl)
          rotate_left; · (simp only [Act.put, sx_, wx_]; rfl)
          refine pure_ (i := 30) (N := some 42) (v := ?_) (a' := ?_) z30_32 rfl rfl (any_of HT_.out (by kernel_rfl)) (fun _ _ _ h => h) (Or.inl ⟨by rfl, ?_⟩) ?_ ?_
          rotate_left; · (intro w'; go_simp; with_reducible rfl)
          rotate_left; · (simp only [Act.put, sx_, wx_]; rfl)
          refine done_ (done_of HT_.out (by kernel_rfl)) ?_
          try go_wp2
          go_meet
          case rel => exact ⟨_, (!t229), (by first | rfl | (simp; done) | (simp [*]; done)), H', ⟨by have := HK1.out; first | omega | exact Nat.le_refl _⟩, ⟨pk_ BK225.out⟩, ⟨be_ HB.out⟩⟩
       ·replace c9 := Bool.eq_false_iff.mpr c9
        subst c9
        have H1 : (spec_GoodPosts.j1 k1 l0 l0 (l0.length : Int) x7_1 true) = some r := by rw [if_neg (show ¬ (false = true) by decide)] at H; exact H
        clear H
        have H := H1
        clear H1
        have H' := Aside0.mk H
        clear H
        try go_wp2
        have n0_ : Aside0 (((w6.setCell ⟨gb225, 0, none⟩ (.int .i64 ((rd_T57 l0 x7_1).f0))).setCell ⟨gb225, 1, none⟩ (.slice A224_1 ((rd_T57 l0 x7_1).f1).length c224_1)).heap[gb225]? = some (.cells #[.int .i64 ((rd_T57 l0 x7_1).f0), .slice A224_1 ((rd_T57 l0 x7_1).f1).length c224_1] 57 (0, 0))) := ⟨by (with_reducible repeat (first | refine blk_drewN ?_ _ | refine blk_drew ?_ | refine blk_alloc ?_ _)); refine blk_put (cs := #[.int .i64 ((rd_T57 l0 x7_1).f0), .slice none 0 0]) ?_ 1 _ rfl; (with_reducible repeat (first | refine blk_drewN ?_ _ | refine blk_drew ?_ | refine blk_alloc ?_ _)); refine blk_put (cs := #[.int .i64 0, .slice none 0 0]) ?_ 0 _ rfl; (with_reducible repeat (first | refine blk_drewN ?_ _ | refine blk_drew ?_ | refine blk_alloc ?_ _)); exact BK225.out⟩
        have n1_ : Aside0 (Below w.heap.size w ((w6.setCell ⟨gb225, 0, none⟩ (.int .i64 ((rd_T57 l0 x7_1).f0))).setCell ⟨gb225, 1, none⟩ (.slice A224_1 ((rd_T57 l0 x7_1).f1).length c224_1))) := ⟨be_ HB.out⟩
        (try clear BK225)
        (try clear HB)
        generalize ((w6.setCell ⟨gb225, 0, none⟩ (.int .i64 ((rd_T57 l0 x7_1).f0))).setCell ⟨gb225, 1, none⟩ (.slice A224_1 ((rd_T57 l0 x7_1).f1).length c224_1)) = w29 at n0_ n1_ ⊢
        have BK225 := n0_
        have HB := n1_
        clear n0_ n1_
        replace BK225 := Aside0.mk (blk_drew BK225.out)
        replace HB := Aside0.mk (below_drew1 HB.out)
        refine start_ (n := 31) (S := fun w' => w'.cell? ⟨gb225, 0, none⟩ = some (.int .i64 ((rd_T57 l0 x7_1).f0)) /\ w'.cell? ⟨gb225, 1, none⟩ = some (.slice A224_1 ((rd_T57 l0 x7_1).f1).length c224_1)) (ds := []) z30_0 (by kernel_rfl) rfl rfl ⟨(blk_cell BK225.out 0).trans rfl, (blk_cell BK225.out 1).trans rfl⟩ (fun hHeld => ?_); refine with_tabW spec_GoodPosts.tab4 spec_GoodPosts.bits4 (fun HT_ HW_ => ?_)
        generalize w29.drew = w30 at BK225 HB hHeld ⊢
        refine pure_ (i := 0) (N := some 12) (v := ?_) (a' := ?_) z30_1 rfl rfl (any_of HT_.out (by kernel_rfl)) (fun _ _ _ h => h) (Or.inl ⟨by rfl, ?_⟩) ?_ ?_
        rotate_left; · (intro w'; go_simp; with_reducible rfl)
        rotate_left; · (simp only [Act.put, sx_, wx_]; rfl)
        refine take_ (i := 1) (N := some 13) (v := ?_) (a' := ?_) z30_2 rfl rfl (take_ofW HT_.out HW_.out (by kernel_rfl)) (fun _ _ _ h => h) (Or.inl ⟨by rfl, ?_⟩) hHeld ?_ ?_
        rotate_left
        ·rintro w' ⟨s0, s1⟩
         go_simp
         with_reducible rfl
        rotate_left
        ·simp only [Act.put, sx_, wx_]
         rfl
        refine one_ (i := 2) (N := some 14) z30_3 rfl rfl (one_of HT_.out (by kernel_rfl)) (by decide) (fun K hK => ?_)
        refine goes_ Try.func67 (by kernel_rfl) rfl #[.int .i64 ((rd_T57 l0 x7_1).f0), .int .i64 0, .int .i64 11] (by rfl) rfl rfl (ag_) ?_
        with_reducible refine (spec_l1In.calls ((rd_T57 l0 x7_1).f0) 0 11 false _ A8.out).mono ?_
        rintro e w' ⟨rfl, ⟨nd, rfl⟩⟩
        refine ⟨_, rfl, ?_⟩
        refine hK.out _ _ ⟨(blk_cell BK225.out 0).trans rfl, (blk_cell BK225.out 1).trans rfl⟩ (fun hHeld => ?_)
        clear hK K
        refine norm_ (a' := ?_) ?_ ?_
        rotate_left
        ·show Act.put _ (some 14) _ = _
         simp only [Act.put, sx_, wx_]
         rfl
        refine pure_ (i := 3) (N := some 15) (v := ?_) (a' := ?_) z30_4 rfl rfl (any_of HT_.out (by kernel_rfl)) (fun _ _ _ h => h) (Or.inl ⟨by rfl, ?_⟩) ?_ ?_
        rotate_left; · (intro w'; go_simp; with_reducible rfl)
        rotate_left; · (simp only [Act.put, sx_, wx_]; rfl)
        refine pure_ (i := 4) (N := some 16) (v := ?_) (a' := ?_) z30_5 rfl rfl (any_of HT_.out (by kernel_rfl)) (fun _ _ _ h => h) (Or.inl ⟨by rfl, ?_⟩) ?_ ?_
        rotate_left; · (intro w'; go_simp; with_reducible rfl)
        rotate_left; · (simp only [Act.put, sx_, wx_]; rfl)
        refine pure_ (i := 5) (N := some 17) (v := undef) (a' := ?_) z30_6 rfl rfl (any_of HT_.out (by kernel_rfl)) (fun _ _ _ h => h) (Or.inr ⟨by rfl, rfl⟩) ?_ ?_
        rotate_left
        ·simp only [Act.put, sx_, wx_]
         rfl
        refine pure_ (i := 6) (N := some 18) (v := undef) (a' := ?_) z30_7 rfl rfl (any_of HT_.out (by kernel_rfl)) (fun _ _ _ h => h) (Or.inr ⟨by rfl, rfl⟩) ?_ ?_
        rotate_left
        ·simp only [Act.put, sx_, wx_]
         rfl
        refine pure_ (i := 7) (N := some 19) (v := undef) (a' := ?_) z30_8 rfl rfl (any_of HT_.out (by kernel_rfl)) (fun _ _ _ h => h) (Or.inr ⟨by rfl, rfl⟩) ?_ ?_
        rotate_left
        ·simp only [Act.put, sx_, wx_]
         rfl
        refine pure_ (i := 8) (N := some 20) (v := undef) (a' := ?_) z30_9 rfl rfl (any_of HT_.out (by kernel_rfl)) (fun _ _ _ h => h) (Or.inr ⟨by rfl, rfl⟩) ?_ ?_
        rotate_left
        ·simp only [Act.put, sx_, wx_]
         rfl
        refine pure_ (i := 9) (N := some 21) (v := undef) (a' := ?_) z30_10 rfl rfl (any_of HT_.out (by kernel_rfl)) (fun _ _ _ h => h) (Or.inr ⟨by rfl, rfl⟩) ?_ ?_
        rotate_left
        ·simp only [Act.put, sx_, wx_]
         rfl
        refine pure_ (i := 10) (N := some 22) (v := undef) (a' := ?_) z30_11 rfl rfl (any_of HT_.out (by kernel_rfl)) (fun _ _ _ h => h) (Or.inr ⟨by rfl, rfl⟩) ?_ ?_
        rotate_left
        ·simp only [Act.put, sx_, wx_]
         rfl
        refine pure_ (i := 11) (N := some 23) (v := undef) (a' := ?_) z30_12 rfl rfl (any_of HT_.out (by kernel_rfl)) (fun _ _ _ h => h) (Or.inr ⟨by rfl, rfl⟩) ?_ ?_
        rotate_left
        ·simp only [Act.put, sx_, wx_]
         rfl
        refine pure_ (i := 12) (N := some 24) (v := undef) (a' := ?_) z30_13 rfl rfl (any_of HT_.out (by kernel_rfl)) (fun _ _ _ h => h) (Or.inr ⟨by rfl, rfl⟩) ?_ ?_
        rotate_left
        ·simp only [Act.put, sx_, wx_]
         rfl
        refine pure_ (i := 13) (N := some 25) (v := undef) (a' := ?_) z30_15 rfl rfl (any_of HT_.out (by kernel_rfl)) (fun _ _ _ h => h) (Or.inr ⟨by rfl, rfl⟩) ?_ ?_
        rotate_left
        ·simp only [Act.put, sx_, wx_]
         rfl
        refine pure_ (i := 14) (N := some 26) (v := undef) (a' := ?_) z30_16 rfl rfl (any_of HT_.out (by kernel_rfl)) (fun _ _ _ h => h) (Or.inr ⟨by rfl, rfl⟩) ?_ ?_
        rotate_left
        ·simp only [Act.put, sx_, wx_]
         rfl
        refine pure_ (i := 15) (N := some 27) (v := undef) (a' := ?_) z30_17 rfl rfl (any_of HT_.out (by kernel_rfl)) (fun _ _ _ h => h) (Or.inr ⟨by rfl, rfl⟩) ?_ ?_
        rotate_left
        ·simp only [Act.put, sx_, wx_]
         rfl
        refine pure_ (i := 16) (N := some 28) (v := undef) (a' := ?_) z30_18 rfl rfl (any_of HT_.out (by kernel_rfl)) (fun _ _ _ h => h) (Or.inr ⟨by rfl, rfl⟩) ?_ ?_
        rotate_left
        ·simp only [Act.put, sx_, wx_]
         rfl
        refine pure_ (i := 17) (N := some 29) (v := undef) (a' := ?_) z30_19 rfl rfl (any_of HT_.out (by kernel_rfl)) (fun _ _ _ h => h) (Or.inr ⟨by rfl, rfl⟩) ?_ ?_
        rotate_left
        ·simp only [Act.put, sx_, wx_]
         rfl
        refine pure_ (i := 18) (N := some 30) (v := ?_) (a' := ?_) z30_20 rfl rfl (any_of HT_.out (by kernel_rfl)) (fun _ _ _ h => h) (Or.inl ⟨by rfl, ?_⟩) ?_ ?_
        rotate_left; · (intro w'; go_simp; with_reducible rfl)
        rotate_left; · (simp only [Act.put, sx_, wx_]; rfl)
        refine pure_ (i := 19) (N := some 31) (v := ?_) (a' := ?_) z30_21 rfl rfl (any_of HT_.out (by kernel_rfl)) (fun _ _ _ h => h) (Or.inl ⟨by rfl, ?_⟩) ?_ ?_
        rotate_left; · (intro w'; go_simp; with_reducible rfl)
        rotate_left; · (simp only [Act.put, sx_, wx_]; rfl)
        refine pure_ (i := 20) (N := some 32) (v := undef) (a' := ?_) z30_22 rfl rfl (any_of HT_.out (by kernel_rfl)) (fun _ _ _ h => h) (Or.inr ⟨by rfl, rfl⟩) ?_ ?_
        rotate_left
        ·simp only [Act.put, sx_, wx_]
         rfl
        refine pure_ (i := 21) (N := some 33) (v := undef) (a' := ?_) z30_23 rfl rfl (any_of HT_.out (by kernel_rfl)) (fun _ _ _ h => h) (Or.inr ⟨by rfl, rfl⟩) ?_ ?_
        rotate_left
        ·simp only [Act.put, sx_, wx_]
         rfl
        refine pure_ (i := 22) (N := some 34) (v := undef) (a' := ?_) z30_24 rfl rfl (any_of HT_.out (by kernel_rfl)) (fun _ _ _ h => h) (Or.inr ⟨by rfl, rfl⟩) ?_ ?_
        rotate_left
        ·simp only [Act.put, sx_, wx_]
         rfl
        refine pure_ (i := 23) (N := some 35) (v := undef) (a' := ?_) z30_25 rfl rfl (any_of HT_.out (by kernel_rfl)) (fun _ _ _ h => h) (Or.inr ⟨by rfl, rfl⟩) ?_ ?_
        rotate_left
        ·simp only [Act.put, sx_, wx_]
         rfl
        refine pure_ (i := 24) (N := some 36) (v := ?_) (a' := ?_) z30_26 rfl rfl (any_of HT_.out (by kernel_rfl)) (fun _ _ _ h => h) (Or.inl ⟨by rfl, ?_⟩) ?_ ?_
        rotate_left; · (intro w'; go_simp; with_reducible rfl)
        rotate_left; · (simp only [Act.put, sx_, wx_]; rfl)
        refine pure_ (i := 25) (N := some 37) (v := ?_) (a' := ?_) z30_27 rfl rfl (any_of HT_.out (by kernel_rfl)) (fun _ _ _ h => h) (Or.inl ⟨by rfl, ?_⟩) ?_ ?_
        rotate_left; · (intro w'; go_simp; with_reducible rfl)
        rotate_left; · (simp only [Act.put, sx_, wx_]; rfl)
        refine pure_ (i := 26) (N := some 38) (v := undef) (a' := ?_) z30_28 rfl rfl (any_of HT_.out (by kernel_rfl)) (fun _ _ _ h => h) (Or.inr ⟨by rfl, rfl⟩) ?_ ?_
        rotate_left
        ·simp only [Act.put, sx_, wx_]
         rfl
        refine pure_ (i := 27) (N := some 39) (v := undef) (a' := ?_) z30_29 rfl rfl (any_of HT_.out (by kernel_rfl)) (fun _ _ _ h => h) (Or.inr ⟨by rfl, rfl⟩) ?_ ?_
        rotate_left
        ·simp only [Act.put, sx_, wx_]
         rfl
        refine pure_ (i := 28) (N := some 40) (v := undef) (a' := ?_) z30_30 rfl rfl (any_of HT_.out (by kernel_rfl)) (fun _ _ _ h => h) (Or.inr ⟨by rfl, rfl⟩) ?_ ?_
        rotate_left
        ·simp only [Act.put, sx_, wx_]
         rfl
        refine pure_ (i := 29) (N := some 41) (v := undef) (a' := ?_) z30_31 rfl rfl (any_of HT_.out (by kernel_rfl)) (fun _ _ _ h => h) (Or.inr ⟨by rfl, rfl⟩) ?_ ?_
        rotate_left
        ·simp only [Act.put, sx_, wx_]
         rfl
        refine pure_ (i := 30) (N := some 42) (v := ?_) (a' := ?_) z30_32 rfl rfl (any_of HT_.out (by kernel_rfl)) (fun _ _ _ h => h) (Or.inl ⟨by rfl, ?_⟩) ?_ ?_
        rotate_left; · (intro w'; go_simp; with_reducible rfl)
        rotate_left; · (simp only [Act.put, sx_, wx_]; rfl)
        refine done_ (done_of HT_.out (by kernel_rfl)) ?_
        try go_wp2
        go_meet
        case rel => exact ⟨_, (true), (by first | rfl | (simp; done) | (simp [*]; done)), H', ⟨by have := HK1.out; first | omega | exact Nat.le_refl _⟩, ⟨pk_ BK225.out⟩, ⟨be_ HB.out⟩⟩
      case rest =>
       clear HC5
       (try clear c2); (try clear p2); (try clear c6); (try clear c9); (try clear c22); (try clear c23); (try clear c23b0); (try clear c23b1); (try clear c23b2)
       obtain ⟨kq, x42_4, rfl, HA, HJ4, BK225, HB⟩ := hcut
       cases kq with
       | zero => exact absurd HA.out (by simp [spec_GoodPosts.j1])
       | succ kj4 =>
        have H := HA.out
        clear HA
        simp only [spec_GoodPosts.j1] at H
        by_cases c31 : x42_4 = true
        ·subst c31
         have H1 : (some false) = some r := by rw [if_pos rfl] at H; exact H
         clear H
         have H := H1
         clear H1
         obtain rfl := Option.some.inj H
         go_wp2
         go_ret
         exact ⟨ew_, by repeat (first | (with_reducible first | exact HB.out | apply below_alloc | apply pw_below_drewN | apply below_drew1 | refine below_set ?_ GE225.out) | exact HB.out)⟩
        ·replace c31 := Bool.eq_false_iff.mpr c31
         subst c31
         have H1 : (spec_GoodPosts.l0 kj4 l0 l0 (l0.length : Int) (wrap64 (x7_1 + 1))) = some r := by rw [if_neg (show ¬ (false = true) by decide)] at H; exact H
         clear H
         have H := H1
         clear H1
         have H' := Aside0.mk H
         clear H
         go_wp2
         go_roundg kj4
         case measure => have := HK1.out; have := HJ4.out; omega
         case rel => exact ⟨(wrap64 (x7_1 + 1)), (by first | rfl | (simp; done) | (simp [*]; done)), H', ⟨by have := HK1.out; have := HJ4.out; omega⟩, ⟨be_ HB.out⟩⟩
     ·rw [if_neg c4] at H
      exact absurd H (by simp)
    ·rw [if_neg c3] at H
     exact absurd H (by simp)
   ·rw [if_neg c2] at H
    have c2b0 : decide (x7_1 < (l0.length : Int)) = false := decide_eq_false c2
    clear c2
    obtain rfl := Option.some.inj H
    go_wp2
    go_ret
    exact ⟨ew_, by repeat (first | (with_reducible first | exact HB.out | apply below_alloc | apply pw_below_drewN | apply below_drew1) | exact HB.out)⟩
open Go.Proofs.Ytcopakljdenolaa.Gen   -- compacted234
def impl_within.f (a0 : Int) (a1 : Int) (a2 : Int) : Option (Bool) := if a0 ≥ a1 then (some (decide (a0 <= a2))) else (some false)
theorem impl_within.calls (a0 : Int) (a1 : Int) (a2 : Int) (r : Bool) (w : World) (h : impl_within.f a0 a1 a2 = some r) :
  Calls Try.prog 70 #[.int .i64 a0, .int .i64 a1, .int .i64 a2] w fun e w' => e = .returned (.bool r) /\ Drawn0 w w' := by
 have H : (if a0 ≥ a1 then (some (decide (a0 <= a2))) else (some false)) = some r := h
 clear h
 by_cases c4 : a0 ≥ a1
 ·rw [if_pos c4] at H
  have c4b0 : decide (a1 <= a0) = true := decide_eq_true c4
  clear c4
  obtain rfl := Option.some.inj H
  go_enter Try.func70, Try.ntmps70
  go_wp2
  go_ret
  exact ⟨by first | rfl | (simp; done) | (simp [*]; done), by repeat (first | exact Drawn0.refl _ | apply Drawn0.step)⟩
 ·rw [if_neg c4] at H
  have c4b0 : decide (a1 <= a0) = false := decide_eq_false c4
  clear c4
  obtain rfl := Option.some.inj H
  go_enter Try.func70, Try.ntmps70
  go_wp2
  go_ret
  exact ⟨by first | rfl | (simp; done) | (simp [*]; done), by repeat (first | exact Drawn0.refl _ | apply Drawn0.step)⟩
open Go.Proofs.Ytcopakljdenolaa.Gen   -- compacted234
mutual
def impl_GoodPosts.l0 : Nat -> List (S57) -> List (S57) -> Int -> Int -> Option (Bool)
 | 0, _, _, _, _ => none
 | k + 1, x0, x10, x11, x12 => if x12 < x11 then (if 0 <= x12 then (if x12 < (x10.length : Int) then ((impl_within.f ((rd_T57 x10 x12).f0) 0 11).bind fun t252 => (if t252 = true then (if x12 > 0 then (if 0 <= (wrap64 (x12 - 1)) then (if (wrap64 (x12 - 1)) < (x0.length : Int) then (if ((rd_T57 x0 (wrap64 (x12 - 1))).f0) ≥ ((rd_T57 x10 x12).f0) then (impl_GoodPosts.j1 k x0 x10 x11 x12 true ((rd_T57 x10 x12).f0) ((rd_T57 x10 x12).f1)) else ((impl_within.f (((rd_T57 x10 x12).f1).length : Int) 1 20).bind fun t254 => (impl_GoodPosts.j1 k x0 x10 x11 x12 (!t254) ((rd_T57 x10 x12).f0) ((rd_T57 x10 x12).f1)))) else (none)) else (none)) else ((impl_within.f (((rd_T57 x10 x12).f1).length : Int) 1 20).bind fun t255 => (impl_GoodPosts.j1 k x0 x10 x11 x12 (!t255) ((rd_T57 x10 x12).f0) ((rd_T57 x10 x12).f1)))) else (impl_GoodPosts.j1 k x0 x10 x11 x12 true ((rd_T57 x10 x12).f0) ((rd_T57 x10 x12).f1)))) else (none)) else (none)) else (some true)
def impl_GoodPosts.j1 : Nat -> List (S57) -> List (S57) -> Int -> Int -> Bool -> Int -> List Int -> Option (Bool)
 | 0, _, _, _, _, _, _, _ => none
 | k + 1, x0, x10, x11, x12, x42, x252000, x252001 => if x42 = true then (some false) else (impl_GoodPosts.l1 k x0 x10 x11 x12 x252001 (x252001.length : Int) 0 x252000 x252001)
def impl_GoodPosts.l1 : Nat -> List (S57) -> List (S57) -> Int -> Int -> List Int -> Int -> Int -> Int -> List Int -> Option (Bool)
 | 0, _, _, _, _, _, _, _, _, _ => none
 | k + 1, x0, x10, x11, x12, x44, x45, x46, x252000, x252001 => if x46 < x45 then (if 0 <= x46 then (if x46 < (x44.length : Int) then ((impl_within.f (rd x44 x46) 0 19).bind fun t257 => (if t257 = true then (if x46 > 0 then (if 0 <= (wrap64 (x46 - 1)) then (if (wrap64 (x46 - 1)) < (x252001.length : Int) then (if (rd x252001 (wrap64 (x46 - 1))) ≥ (rd x44 x46) then (some false) else (impl_GoodPosts.l1 k x0 x10 x11 x12 x44 x45 (wrap64 (x46 + 1)) x252000 x252001)) else (none)) else (none)) else (impl_GoodPosts.l1 k x0 x10 x11 x12 x44 x45 (wrap64 (x46 + 1)) x252000 x252001)) else (some false))) else (none)) else (none)) else (impl_GoodPosts.l0 k x0 x10 x11 (wrap64 (x12 + 1)))
end
def impl_GoodPosts.f (k : Nat) (l0 : List (S57)) : Option (Bool) := if (l0.length : Int) > 12 then (some false) else (impl_GoodPosts.l0 k l0 l0 (l0.length : Int) 0)
theorem impl_GoodPosts.mono_l : ∀ k, (∀ y0 y1 y2 y3, LeO (impl_GoodPosts.l0 k y0 y1 y2 y3) (impl_GoodPosts.l0 (k + 1) y0 y1 y2 y3)) /\ (∀ y0 y1 y2 y3 y4 y5 y6, LeO (impl_GoodPosts.j1 k y0 y1 y2 y3 y4 y5 y6) (impl_GoodPosts.j1 (k + 1) y0 y1 y2 y3 y4 y5 y6)) /\ (∀ y0 y1 y2 y3 y4 y5 y6 y7 y8, LeO (impl_GoodPosts.l1 k y0 y1 y2 y3 y4 y5 y6 y7 y8) (impl_GoodPosts.l1 (k + 1) y0 y1 y2 y3 y4 y5 y6 y7 y8))
 | 0 => ⟨fun _ _ _ _ r h => by simp [impl_GoodPosts.l0] at h, fun _ _ _ _ _ _ _ r h => by simp [impl_GoodPosts.j1] at h, fun _ _ _ _ _ _ _ _ _ r h => by simp [impl_GoodPosts.l1] at h⟩
 | k + 1 => by
  obtain ⟨ih0, ih1, ih2⟩ := impl_GoodPosts.mono_l k
  refine ⟨?_, ?_, ?_⟩
  ·intro y0 y1 y2 y3
   unfold impl_GoodPosts.l0
   repeat' (with_reducible first | exact ih0 _ _ _ _ | exact ih1 _ _ _ _ _ _ _ | exact ih2 _ _ _ _ _ _ _ _ _ | exact LeO.refl _ | exact LeO.none _ | refine LeO.ite ?_ ?_ | refine LeO.bind ?_ (fun _ => ?_))
  ·intro y0 y1 y2 y3 y4 y5 y6
   unfold impl_GoodPosts.j1
   repeat' (with_reducible first | exact ih0 _ _ _ _ | exact ih1 _ _ _ _ _ _ _ | exact ih2 _ _ _ _ _ _ _ _ _ | exact LeO.refl _ | exact LeO.none _ | refine LeO.ite ?_ ?_ | refine LeO.bind ?_ (fun _ => ?_))
  ·intro y0 y1 y2 y3 y4 y5 y6 y7 y8
   unfold impl_GoodPosts.l1
   repeat' (with_reducible first | exact ih0 _ _ _ _ | exact ih1 _ _ _ _ _ _ _ | exact ih2 _ _ _ _ _ _ _ _ _ | exact LeO.refl _ | exact LeO.none _ | refine LeO.ite ?_ ?_ | refine LeO.bind ?_ (fun _ => ?_))
theorem impl_GoodPosts.mono : ∀ a0 k, LeO (impl_GoodPosts.f k a0) (impl_GoodPosts.f (k + 1) a0) := by
 intro a0 k
 obtain ⟨ih0, ih1, ih2⟩ := impl_GoodPosts.mono_l k
 unfold impl_GoodPosts.f
 repeat' (with_reducible first | exact ih0 _ _ _ _ | exact ih1 _ _ _ _ _ _ _ | exact ih2 _ _ _ _ _ _ _ _ _ | exact LeO.refl _ | exact LeO.none _ | refine LeO.ite ?_ ?_ | refine LeO.bind ?_ (fun _ => ?_))
theorem impl_GoodPosts.calls (k : Nat) (A0 : Option Addr) (c0 : Nat) (l0 : List (S57)) (r : Bool) (w : World) (hr0 : Kd.C k57 w A0 l0.length l0) (hc0 : l0.length <= c0) (h : impl_GoodPosts.f k l0 = some r) :
  Calls Try.prog 32 #[.slice A0 l0.length c0] w fun e w' => e = .returned (.bool r) /\ Below w.heap.size w w' := by
 have hu57 := Try.underlying57
 have HR0 := Aside0.mk hr0
 have HC0 := Aside0.mk hc0
 clear hr0 hc0
 have HB := Aside0.mk (Below.refl w.heap.size w)
 have H : (if (l0.length : Int) > 12 then (some false) else (impl_GoodPosts.l0 k l0 l0 (l0.length : Int) 0)) = some r := h
 clear h
 by_cases c2 : (l0.length : Int) > 12
 ·rw [if_pos c2] at H
  have c2b0 : decide (12 < (l0.length : Int)) = true := decide_eq_true c2
  have c2b1 : decide (12 < l0.length) = true := decide_eq_true (by omega)
  clear c2
  obtain rfl := Option.some.inj H
  go_enter Try.func32, Try.ntmps32
  go_wp2
  repeat (go_quiet (fail); try go_wp2)
  go_ret
  exact ⟨ew_, by repeat (first | (with_reducible first | exact HB.out | apply below_alloc | apply pw_below_drewN | apply below_drew1) | exact HB.out)⟩
 ·rw [if_neg c2] at H
  have c2b0 : decide (12 < (l0.length : Int)) = false := decide_eq_false c2
  have c2b1 : decide (12 < l0.length) = false := decide_eq_false (by omega)
  clear c2
  have H' := Aside0.mk H
  clear H
  go_enter Try.func32, Try.ntmps32
  go_wp2
  repeat (go_quiet (fail); try go_wp2)
  go_loopg [12] k (fun kq v12 w' => ∃ (x12_1 : Int), v12 = .int .i64 x12_1 /\ Aside0 (impl_GoodPosts.l0 kq l0 l0 (l0.length : Int) x12_1 = some r) /\ Aside0 (kq <= k) /\ Aside0 (Below w.heap.size w w'))
  case atStart => exact ⟨(0), (by first | rfl | (simp; done) | (simp [*]; done)), H', ⟨Nat.le_refl _⟩, ⟨be_ HB.out⟩⟩
  case round =>
   clear H'
   (try clear c2); (try clear c2b0); (try clear c2b1); (try clear p2)
   obtain ⟨x12_1, rfl, HA, HK1, HB⟩ := hrel
   cases gk with
   | zero => exact absurd HA.out (by simp [impl_GoodPosts.l0])
   | succ k1 =>
    have H := HA.out
    clear HA
    simp only [impl_GoodPosts.l0] at H
    by_cases c3 : x12_1 < (l0.length : Int)
    ·rw [if_pos c3] at H
     have c3b0 : decide (x12_1 < (l0.length : Int)) = true := decide_eq_true c3
     clear c3
     by_cases c4 : 0 <= x12_1
     ·rw [if_pos c4] at H
      have c4b0 : decide (0 <= x12_1) = true := decide_eq_true c4
      clear c4
      by_cases c5 : x12_1 < (l0.length : Int)
      ·rw [if_pos c5] at H
       have c5b0 : decide (x12_1 < (l0.length : Int)) = true := decide_eq_true c5
       clear c5
       have HC6 := Aside0.mk H
       clear H
       have p250 : 0 <= (x12_1 : Int) := of_decide_eq_true as_
       have q250 : x12_1 < (l0.length : Int) := of_decide_eq_true as_
       obtain ⟨ad250, A250_1, c250_1, e250, hx250_0, hx250_1, hl250_1, hi250_1⟩ := at_T57 HR0.out x12_1 p250 q250
       cases e250
       replace hx250_0 := (HB.out.cell (World.block_lt_of_cell? w _ hx250_0)).trans hx250_0
       replace hx250_1 := (HB.out.cell (World.block_lt_of_cell? w _ hx250_1)).trans hx250_1
       have HR250_1 := Aside0.mk hi250_1
       have HC250_1 := Aside0.mk hl250_1
       clear hi250_1 hl250_1
       replace p250 := eq_true p250
       replace q250 := eq_true q250
       go_upto_region 6 with (first | ((with_reducible refine gate_dst (N := 4) rfl ?_); (try (refine gate_guard (by rfl) ?_; dsimp only)); refine box_event ?hg (N := 4) ?hd (cs := #[.int .i64 0, .slice none 0 0]) (t := 57) ?hr ?_; (case hd => rfl); (case hg => rfl); (case hr => first | (go_simp; done) | (go_simp; rfl)); intro gb251 hg w7 hbox hb; have n0_ := Aside0.mk (bs_ HB.out hb); have n1_ := Aside0.mk (hbox); have n2_ := Aside0.mk ((by rw [hg]; exact (bw_ HB.out) : w.heap.size <= gb251)); have n3_ := Aside0.mk ((by rw [hg]; exact (bw_ HB.out) : w.heap.size <= gb251)); clear HB; have HB := n0_; have BK251 := n1_; have GW251 := n2_; have GE251 := n3_; clear n0_ n1_ n2_ n3_; clear hb hbox hg; have hcz8_0 : w7.cell? ⟨gb251, 0, none⟩ = some (.int .i64 0) := (blk_cell BK251.out 0).trans rfl; have hcz8_1 : w7.cell? ⟨gb251, 1, none⟩ = some (.slice none 0 0) := (blk_cell BK251.out 1).trans rfl; have hfz8_0 := blk_frozen BK251.out 0; have hfz8_1 := blk_frozen BK251.out 1))
       repeat (go_quiet (first | ((with_reducible refine gate_dst (N := 4) rfl ?_); (try (refine gate_guard (by rfl) ?_; dsimp only)); refine box_event ?hg (N := 4) ?hd (cs := #[.int .i64 0, .slice none 0 0]) (t := 57) ?hr ?_; (case hd => rfl); (case hg => rfl); (case hr => first | (go_simp; done) | (go_simp; rfl)); intro gb251 hg w7 hbox hb; have n0_ := Aside0.mk (bs_ HB.out hb); have n1_ := Aside0.mk (hbox); have n2_ := Aside0.mk ((by rw [hg]; exact (bw_ HB.out) : w.heap.size <= gb251)); have n3_ := Aside0.mk ((by rw [hg]; exact (bw_ HB.out) : w.heap.size <= gb251)); clear HB; have HB := n0_; have BK251 := n1_; have GW251 := n2_; have GE251 := n3_; clear n0_ n1_ n2_ n3_; clear hb hbox hg; have hcz8_0 : w7.cell? ⟨gb251, 0, none⟩ = some (.int .i64 0) := (blk_cell BK251.out 0).trans rfl; have hcz8_1 : w7.cell? ⟨gb251, 1, none⟩ = some (.slice none 0 0) := (blk_cell BK251.out 1).trans rfl; have hfz8_0 := blk_frozen BK251.out 0; have hfz8_1 := blk_frozen BK251.out 1)); go_upto_region 6 with (first | ((with_reducible refine gate_dst (N := 4) rfl ?_); (try (refine gate_guard (by rfl) ?_; dsimp only)); refine box_event ?hg (N := 4) ?hd (cs := #[.int .i64 0, .slice none 0 0]) (t := 57) ?hr ?_; (case hd => rfl); (case hg => rfl); (case hr => first | (go_simp; done) | (go_simp; rfl)); intro gb251 hg w7 hbox hb; have n0_ := Aside0.mk (bs_ HB.out hb); have n1_ := Aside0.mk (hbox); have n2_ := Aside0.mk ((by rw [hg]; exact (bw_ HB.out) : w.heap.size <= gb251)); have n3_ := Aside0.mk ((by rw [hg]; exact (bw_ HB.out) : w.heap.size <= gb251)); clear HB; have HB := n0_; have BK251 := n1_; have GW251 := n2_; have GE251 := n3_; clear n0_ n1_ n2_ n3_; clear hb hbox hg; have hcz8_0 : w7.cell? ⟨gb251, 0, none⟩ = some (.int .i64 0) := (blk_cell BK251.out 0).trans rfl; have hcz8_1 : w7.cell? ⟨gb251, 1, none⟩ = some (.slice none 0 0) := (blk_cell BK251.out 1).trans rfl; have hfz8_0 := blk_frozen BK251.out 0; have hfz8_1 := blk_frozen BK251.out 1)))
       (try simp only [Act.put, List.setIfInBounds_toArray, List.set_cons_zero, List.set_cons_succ])
       go_cut [42] (fun v42 wc => ∃ (kq : Nat) (x42_5 : Bool), v42 = .bool x42_5 /\ Aside0 (impl_GoodPosts.j1 kq l0 l0 (l0.length : Int) x12_1 x42_5 ((rd_T57 l0 x12_1).f0) ((rd_T57 l0 x12_1).f1) = some r) /\ Aside0 (kq <= k1) /\ Aside0 (wc.heap[gb251]? = some (.cells #[.int .i64 ((rd_T57 l0 x12_1).f0), (.slice A250_1 ((rd_T57 l0 x12_1).f1).length c250_1)] 57 (0, 0))) /\ Aside0 (Below w.heap.size w wc))
       case first =>
        have H := HC6.out
        clear HC6
        replace H := Option.bind_eq_some_iff.mp H
        obtain ⟨t252, A90, H⟩ := H
        replace H : (if t252 = true then (if x12_1 > 0 then (if 0 <= (wrap64 (x12_1 - 1)) then (if (wrap64 (x12_1 - 1)) < (l0.length : Int) then (if ((rd_T57 l0 (wrap64 (x12_1 - 1))).f0) ≥ ((rd_T57 l0 x12_1).f0) then (impl_GoodPosts.j1 k1 l0 l0 (l0.length : Int) x12_1 true ((rd_T57 l0 x12_1).f0) ((rd_T57 l0 x12_1).f1)) else ((impl_within.f (((rd_T57 l0 x12_1).f1).length : Int) 1 20).bind fun t254 => (impl_GoodPosts.j1 k1 l0 l0 (l0.length : Int) x12_1 (!t254) ((rd_T57 l0 x12_1).f0) ((rd_T57 l0 x12_1).f1)))) else (none)) else (none)) else ((impl_within.f (((rd_T57 l0 x12_1).f1).length : Int) 1 20).bind fun t255 => (impl_GoodPosts.j1 k1 l0 l0 (l0.length : Int) x12_1 (!t255) ((rd_T57 l0 x12_1).f0) ((rd_T57 l0 x12_1).f1)))) else (impl_GoodPosts.j1 k1 l0 l0 (l0.length : Int) x12_1 true ((rd_T57 l0 x12_1).f0) ((rd_T57 l0 x12_1).f1))) = some r := H
        have A9 := Aside0.mk A90
        clear A90
        by_cases c10 : t252 = true
        ·subst c10
         have H1 : (if x12_1 > 0 then (if 0 <= (wrap64 (x12_1 - 1)) then (if (wrap64 (x12_1 - 1)) < (l0.length : Int) then (if ((rd_T57 l0 (wrap64 (x12_1 - 1))).f0) ≥ ((rd_T57 l0 x12_1).f0) then (impl_GoodPosts.j1 k1 l0 l0 (l0.length : Int) x12_1 true ((rd_T57 l0 x12_1).f0) ((rd_T57 l0 x12_1).f1)) else ((impl_within.f (((rd_T57 l0 x12_1).f1).length : Int) 1 20).bind fun t254 => (impl_GoodPosts.j1 k1 l0 l0 (l0.length : Int) x12_1 (!t254) ((rd_T57 l0 x12_1).f0) ((rd_T57 l0 x12_1).f1)))) else (none)) else (none)) else ((impl_within.f (((rd_T57 l0 x12_1).f1).length : Int) 1 20).bind fun t255 => (impl_GoodPosts.j1 k1 l0 l0 (l0.length : Int) x12_1 (!t255) ((rd_T57 l0 x12_1).f0) ((rd_T57 l0 x12_1).f1)))) = some r := by rw [if_pos rfl] at H; exact H
         clear H
         have H := H1
         clear H1
         by_cases c11 : x12_1 > 0
         ·rw [if_pos c11] at H
          have c11b0 : decide (0 < x12_1) = true := decide_eq_true c11
          clear c11
          (first | rw [c11b0] | (simp only [i64_w, i32_w]; rw [c11b0]) | rw [c11b1] | skip)
          obtain ⟨ji12, hji12⟩ : ∃ j_ : Int, (wrap64 (x12_1 - 1)) = j_ := ⟨_, rfl⟩
          replace H : (if 0 <= (ji12) then (if (ji12) < (l0.length : Int) then (if ((rd_T57 l0 (ji12)).f0) ≥ ((rd_T57 l0 x12_1).f0) then (impl_GoodPosts.j1 k1 l0 l0 (l0.length : Int) x12_1 true ((rd_T57 l0 x12_1).f0) ((rd_T57 l0 x12_1).f1)) else ((impl_within.f (((rd_T57 l0 x12_1).f1).length : Int) 1 20).bind fun t254 => (impl_GoodPosts.j1 k1 l0 l0 (l0.length : Int) x12_1 (!t254) ((rd_T57 l0 x12_1).f0) ((rd_T57 l0 x12_1).f1)))) else (none)) else (none)) = some r := by first | (rw [hji12] at H; exact H) | (simp only [hji12] at H ⊢; exact H)
          (try rw [hji12] at A9)
          have hji12w : (IntKind.i64.wrap (x12_1 - 1)) = ji12 := (i64_w _).trans hji12
          by_cases c13 : 0 <= (ji12)
          ·rw [if_pos c13] at H
           have c13b0 : decide (0 <= (ji12)) = true := decide_eq_true c13
           clear c13
           by_cases c14 : (ji12) < (l0.length : Int)
           ·rw [if_pos c14] at H
            have c14b0 : decide ((ji12) < (l0.length : Int)) = true := decide_eq_true c14
            clear c14
            by_cases c15 : ((rd_T57 l0 (ji12)).f0) ≥ ((rd_T57 l0 x12_1).f0)
            ·rw [if_pos c15] at H
             have c15b0 : decide (((rd_T57 l0 x12_1).f0) <= ((rd_T57 l0 (ji12)).f0)) = true := decide_eq_true c15
             clear c15
             have H' := Aside0.mk H
             clear H
             have hcz16_0 : w7.cell? ⟨gb251, 0, none⟩ = some (.int .i64 0) := (blk_cell BK251.out 0).trans rfl
             have hcz16_1 : w7.cell? ⟨gb251, 1, none⟩ = some (.slice none 0 0) := (blk_cell BK251.out 1).trans rfl
             have hfz16_0 := blk_frozen BK251.out 0
             have hfz16_1 := blk_frozen BK251.out 1
             go_wp2_with (first | (go_at_call 70; (with_reducible refine (impl_within.calls ((rd_T57 l0 x12_1).f0) 0 11 true _ A9.out).mono ?_); rintro e w' ⟨rfl, ⟨nd, rfl⟩⟩; (try first | exact ⟨rfl, _, World.drewN_drewN _ _ _⟩ | exact ⟨rfl, _, Eq.trans (World.drewN_drewN _ _ _) (congrArg (World.drewN _) (Nat.add_assoc _ _ _))⟩); have p253 : 0 <= ((ji12) : Int) := of_decide_eq_true as_; have q253 : (ji12) < (l0.length : Int) := of_decide_eq_true as_; obtain ⟨ad253, A253_1, c253_1, e253, hx253_0, hx253_1, hl253_1, hi253_1⟩ := at_T57 HR0.out (ji12) p253 q253; obtain rfl : ad250 = ad253 := (by injection e253); have hn253_0 : ad250.block ≠ gb251 := Nat.ne_of_lt (Nat.lt_of_lt_of_le (by have := World.block_lt_of_cell? _ _ hx253_0; first | rwa [add_block] at this | exact this) GW251.out); have hn253_1 : ad250.block ≠ gb251 := Nat.ne_of_lt (Nat.lt_of_lt_of_le (by have := World.block_lt_of_cell? _ _ hx253_0; first | rwa [add_block] at this | exact this) GW251.out); replace hx253_0 := (HB.out.cell (World.block_lt_of_cell? w _ hx253_0)).trans hx253_0; replace hx253_1 := (HB.out.cell (World.block_lt_of_cell? w _ hx253_1)).trans hx253_1; have HR253_1 := Aside0.mk hi253_1; have HC253_1 := Aside0.mk hl253_1; clear hi253_1 hl253_1; replace hx253_0 := (cell_far (p := ⟨gb251, 0, none⟩) (by first | (rw [add_block]; exact hn253_0) | (show (Addr.add _ _).block ≠ _; rw [add_block]; exact hn253_0) | exact hn253_0) (.int .i64 ((rd_T57 l0 x12_1).f0))).trans hx253_0; replace hx253_1 := (cell_far (p := ⟨gb251, 0, none⟩) (by first | (rw [add_block]; exact hn253_0) | (show (Addr.add _ _).block ≠ _; rw [add_block]; exact hn253_0) | exact hn253_0) (.int .i64 ((rd_T57 l0 x12_1).f0))).trans hx253_1; replace hx253_0 := (cell_far (p := ⟨gb251, 1, none⟩) (by first | (rw [add_block]; exact hn253_1) | (show (Addr.add _ _).block ≠ _; rw [add_block]; exact hn253_1) | exact hn253_1) (.slice A250_1 ((rd_T57 l0 x12_1).f1).length c250_1)).trans hx253_0; replace hx253_1 := (cell_far (p := ⟨gb251, 1, none⟩) (by first | (rw [add_block]; exact hn253_1) | (show (Addr.add _ _).block ≠ _; rw [add_block]; exact hn253_1) | exact hn253_1) (.slice A250_1 ((rd_T57 l0 x12_1).f1).length c250_1)).trans hx253_1; (try have hy253_0 := fun (n_ : Nat) => (show ((((w7.drewN n_).setCell ⟨gb251, 0, none⟩ (.int .i64 ((rd_T57 l0 x12_1).f0))).setCell ⟨gb251, 1, none⟩ (.slice A250_1 ((rd_T57 l0 x12_1).f1).length c250_1))).cell? _ = some _ from hx253_0)); (try have hy253_1 := fun (n_ : Nat) => (show ((((w7.drewN n_).setCell ⟨gb251, 0, none⟩ (.int .i64 ((rd_T57 l0 x12_1).f0))).setCell ⟨gb251, 1, none⟩ (.slice A250_1 ((rd_T57 l0 x12_1).f1).length c250_1))).cell? _ = some _ from hx253_1)); clear hn253_0; clear hn253_1; replace p253 := eq_true p253; replace q253 := eq_true q253))
             repeat (go_quiet (first | (go_at_call 70; (with_reducible refine (impl_within.calls ((rd_T57 l0 x12_1).f0) 0 11 true _ A9.out).mono ?_); rintro e w' ⟨rfl, ⟨nd, rfl⟩⟩; (try first | exact ⟨rfl, _, World.drewN_drewN _ _ _⟩ | exact ⟨rfl, _, Eq.trans (World.drewN_drewN _ _ _) (congrArg (World.drewN _) (Nat.add_assoc _ _ _))⟩); have p253 : 0 <= ((ji12) : Int) := of_decide_eq_true as_; have q253 : (ji12) < (l0.length : Int) := of_decide_eq_true as_; obtain ⟨ad253, A253_1, c253_1, e253, hx253_0, hx253_1, hl253_1, hi253_1⟩ := at_T57 HR0.out (ji12) p253 q253; obtain rfl : ad250 = ad253 := (by injection e253); have hn253_0 : ad250.block ≠ gb251 := Nat.ne_of_lt (Nat.lt_of_lt_of_le (by have := World.block_lt_of_cell? _ _ hx253_0; first | rwa [add_block] at this | exact this) GW251.out); have hn253_1 : ad250.block ≠ gb251 := Nat.ne_of_lt (Nat.lt_of_lt_of_le (by have := World.block_lt_of_cell? _ _ hx253_0; first | rwa [add_block] at this | exact this) GW251.out); replace hx253_0 := (HB.out.cell (World.block_lt_of_cell? w _ hx253_0)).trans hx253_0; replace hx253_1 := (HB.out.cell (World.block_lt_of_cell? w _ hx253_1)).trans hx253_1; have HR253_1 := Aside0.mk hi253_1; have HC253_1 := Aside0.mk hl253_1; clear hi253_1 hl253_1; replace hx253_0 := (cell_far (p := ⟨gb251, 0, none⟩) (by first | (rw [add_block]; exact hn253_0) | (show (Addr.add _ _).block ≠ _; rw [add_block]; exact hn253_0) | exact hn253_0) (.int .i64 ((rd_T57 l0 x12_1).f0))).trans hx253_0; replace hx253_1 := (cell_far (p := ⟨gb251, 0, none⟩) (by first | (rw [add_block]; exact hn253_0) | (show (Addr.add _ _).block ≠ _; rw [add_block]; exact hn253_0) | exact hn253_0) (.int .i64 ((rd_T57 l0 x12_1).f0))).trans hx253_1; replace hx253_0 := (cell_far (p := ⟨gb251, 1, none⟩) (by first | (rw [add_block]; exact hn253_1) | (show (Addr.add _ _).block ≠ _; rw [add_block]; exact hn253_1) | exact hn253_1) (.slice A250_1 ((rd_T57 l0 x12_1).f1).length c250_1)).trans hx253_0; replace hx253_1 := (cell_far (p := ⟨gb251, 1, none⟩) (by first | (rw [add_block]; exact hn253_1) | (show (Addr.add _ _).block ≠ _; rw [add_block]; exact hn253_1) | exact hn253_1) (.slice A250_1 ((rd_T57 l0 x12_1).f1).length c250_1)).trans hx253_1; (try have hy253_0 := fun (n_ : Nat) => (show ((((w7.drewN n_).setCell ⟨gb251, 0, none⟩ (.int .i64 ((rd_T57 l0 x12_1).f0))).setCell ⟨gb251, 1, none⟩ (.slice A250_1 ((rd_T57 l0 x12_1).f1).length c250_1))).cell? _ = some _ from hx253_0)); (try have hy253_1 := fun (n_ : Nat) => (show ((((w7.drewN n_).setCell ⟨gb251, 0, none⟩ (.int .i64 ((rd_T57 l0 x12_1).f0))).setCell ⟨gb251, 1, none⟩ (.slice A250_1 ((rd_T57 l0 x12_1).f1).length c250_1))).cell? _ = some _ from hx253_1)); clear hn253_0; clear hn253_1; replace p253 := eq_true p253; replace q253 := eq_true q253)); try go_wp2_with (first | (go_at_call 70; (with_reducible refine (impl_within.calls ((rd_T57 l0 x12_1).f0) 0 11 true _ A9.out).mono ?_); rintro e w' ⟨rfl, ⟨nd, rfl⟩⟩; (try first | exact ⟨rfl, _, World.drewN_drewN _ _ _⟩ | exact ⟨rfl, _, Eq.trans (World.drewN_drewN _ _ _) (congrArg (World.drewN _) (Nat.add_assoc _ _ _))⟩); have p253 : 0 <= ((ji12) : Int) := of_decide_eq_true as_; have q253 : (ji12) < (l0.length : Int) := of_decide_eq_true as_; obtain ⟨ad253, A253_1, c253_1, e253, hx253_0, hx253_1, hl253_1, hi253_1⟩ := at_T57 HR0.out (ji12) p253 q253; obtain rfl : ad250 = ad253 := (by injection e253); have hn253_0 : ad250.block ≠ gb251 := Nat.ne_of_lt (Nat.lt_of_lt_of_le (by have := World.block_lt_of_cell? _ _ hx253_0; first | rwa [add_block] at this | exact this) GW251.out); have hn253_1 : ad250.block ≠ gb251 := Nat.ne_of_lt (Nat.lt_of_lt_of_le (by have := World.block_lt_of_cell? _ _ hx253_0; first | rwa [add_block] at this | exact this) GW251.out); replace hx253_0 := (HB.out.cell (World.block_lt_of_cell? w _ hx253_0)).trans hx253_0; replace hx253_1 := (HB.out.cell (World.block_lt_of_cell? w _ hx253_1)).trans hx253_1; have HR253_1 := Aside0.mk hi253_1; have HC253_1 := Aside0.mk hl253_1; clear hi253_1 hl253_1; replace hx253_0 := (cell_far (p := ⟨gb251, 0, none⟩) (by first | (rw [add_block]; exact hn253_0) | (show (Addr.add _ _).block ≠ _; rw [add_block]; exact hn253_0) | exact hn253_0) (.int .i64 ((rd_T57 l0 x12_1).f0))).trans hx253_0; replace hx253_1 := (cell_far (p := ⟨gb251, 0, none⟩) (by first | (rw [add_block]; exact hn253_0) | (show (Addr.add _ _).block ≠ _; rw [add_block]; exact hn253_0) | exact hn253_0) (.int .i64 ((rd_T57 l0 x12_1).f0))).trans hx253_1; replace hx253_0 := (cell_far (p := ⟨gb251, 1, none⟩) (by first | (rw [add_block]; exact hn253_1) | (show (Addr.add _ _).block ≠ _; rw [add_block]; exact hn253_1) | exact hn253_1) (.slice A250_1 ((rd_T57 l0 x12_1).f1).length c250_1)).trans hx253_0; replace hx253_1 := (cell_far (p := ⟨gb251, 1, none⟩) (by first | (rw [add_block]; exact hn253_1) | (show (Addr.add _ _).block ≠ _; rw [add_block]; exact hn253_1) | exact hn253_1) (.slice A250_1 ((rd_T57 l0 x12_1).f1).length c250_1)).trans hx253_1; (try have hy253_0 := fun (n_ : Nat) => (show ((((w7.drewN n_).setCell ⟨gb251, 0, none⟩ (.int .i64 ((rd_T57 l0 x12_1).f0))).setCell ⟨gb251, 1, none⟩ (.slice A250_1 ((rd_T57 l0 x12_1).f1).length c250_1))).cell? _ = some _ from hx253_0)); (try have hy253_1 := fun (n_ : Nat) => (show ((((w7.drewN n_).setCell ⟨gb251, 0, none⟩ (.int .i64 ((rd_T57 l0 x12_1).f0))).setCell ⟨gb251, 1, none⟩ (.slice A250_1 ((rd_T57 l0 x12_1).f1).length c250_1))).cell? _ = some _ from hx253_1)); clear hn253_0; clear hn253_1; replace p253 := eq_true p253; replace q253 := eq_true q253)))
             first | go_meet | (simp only [<- hji12]; go_meet)
             case rel => exact ⟨_, (true), (by first | rfl | (simp; done) | (simp [*]; done)), (by first | exact H' | (simp only [hji12]; exact H') | (simp only [<- hji12] at H' ⊢; exact H')), ⟨by have := HK1.out; first | omega | exact Nat.le_refl _⟩, ⟨by (with_reducible repeat (first | refine blk_drewN ?_ _ | refine blk_drew ?_ | refine blk_alloc ?_ _)); refine blk_put (cs := #[.int .i64 ((rd_T57 l0 x12_1).f0), .slice none 0 0]) ?_ 1 _ rfl; (with_reducible repeat (first | refine blk_drewN ?_ _ | refine blk_drew ?_ | refine blk_alloc ?_ _)); refine blk_put (cs := #[.int .i64 0, .slice none 0 0]) ?_ 0 _ rfl; (with_reducible repeat (first | refine blk_drewN ?_ _ | refine blk_drew ?_ | refine blk_alloc ?_ _)); exact BK251.out⟩, ⟨be_ HB.out⟩⟩
            ·rw [if_neg c15] at H
             have c15b0 : decide (((rd_T57 l0 x12_1).f0) <= ((rd_T57 l0 (ji12)).f0)) = false := decide_eq_false c15
             clear c15
             replace H := Option.bind_eq_some_iff.mp H
             obtain ⟨t254, A170, H⟩ := H
             replace H : (impl_GoodPosts.j1 k1 l0 l0 (l0.length : Int) x12_1 (!t254) ((rd_T57 l0 x12_1).f0) ((rd_T57 l0 x12_1).f1)) = some r := H
             have A17 := Aside0.mk A170
             clear A170
             have H' := Aside0.mk H
             clear H
             have hcz18_0 : w7.cell? ⟨gb251, 0, none⟩ = some (.int .i64 0) := (blk_cell BK251.out 0).trans rfl
             have hcz18_1 : w7.cell? ⟨gb251, 1, none⟩ = some (.slice none 0 0) := (blk_cell BK251.out 1).trans rfl
             have hfz18_0 := blk_frozen BK251.out 0
             have hfz18_1 := blk_frozen BK251.out 1
             go_wp2_with (first | (go_at_call 70; (with_reducible refine (impl_within.calls ((rd_T57 l0 x12_1).f0) 0 11 true _ A9.out).mono ?_); rintro e w' ⟨rfl, ⟨nd, rfl⟩⟩; (try first | exact ⟨rfl, _, World.drewN_drewN _ _ _⟩ | exact ⟨rfl, _, Eq.trans (World.drewN_drewN _ _ _) (congrArg (World.drewN _) (Nat.add_assoc _ _ _))⟩); have p253 : 0 <= ((ji12) : Int) := of_decide_eq_true as_; have q253 : (ji12) < (l0.length : Int) := of_decide_eq_true as_; obtain ⟨ad253, A253_1, c253_1, e253, hx253_0, hx253_1, hl253_1, hi253_1⟩ := at_T57 HR0.out (ji12) p253 q253; obtain rfl : ad250 = ad253 := (by injection e253); have hn253_0 : ad250.block ≠ gb251 := Nat.ne_of_lt (Nat.lt_of_lt_of_le (by have := World.block_lt_of_cell? _ _ hx253_0; first | rwa [add_block] at this | exact this) GW251.out); have hn253_1 : ad250.block ≠ gb251 := Nat.ne_of_lt (Nat.lt_of_lt_of_le (by have := World.block_lt_of_cell? _ _ hx253_0; first | rwa [add_block] at this | exact this) GW251.out); replace hx253_0 := (HB.out.cell (World.block_lt_of_cell? w _ hx253_0)).trans hx253_0; replace hx253_1 := (HB.out.cell (World.block_lt_of_cell? w _ hx253_1)).trans hx253_1; have HR253_1 := Aside0.mk hi253_1; have HC253_1 := Aside0.mk hl253_1; clear hi253_1 hl253_1; replace hx253_0 := (cell_far (p := ⟨gb251, 0, none⟩) (by first | (rw [add_block]; exact hn253_0) | (show (Addr.add _ _).block ≠ _; rw [add_block]; exact hn253_0) | exact hn253_0) (.int .i64 ((rd_T57 l0 x12_1).f0))).trans hx253_0; replace hx253_1 := (cell_far (p := ⟨gb251, 0, none⟩) (by first | (rw [add_block]; exact hn253_0) | (show (Addr.add _ _).block ≠ _; rw [add_block]; exact hn253_0) | exact hn253_0) (.int .i64 ((rd_T57 l0 x12_1).f0))).trans hx253_1; replace hx253_0 := (cell_far (p := ⟨gb251, 1, none⟩) (by first | (rw [add_block]; exact hn253_1) | (show (Addr.add _ _).block ≠ _; rw [add_block]; exact hn253_1) | exact hn253_1) (.slice A250_1 ((rd_T57 l0 x12_1).f1).length c250_1)).trans hx253_0; replace hx253_1 := (cell_far (p := ⟨gb251, 1, none⟩) (by first | (rw [add_block]; exact hn253_1) | (show (Addr.add _ _).block ≠ _; rw [add_block]; exact hn253_1) | exact hn253_1) (.slice A250_1 ((rd_T57 l0 x12_1).f1).length c250_1)).trans hx253_1; (try have hy253_0 := fun (n_ : Nat) => (show ((((w7.drewN n_).setCell ⟨gb251, 0, none⟩ (.int .i64 ((rd_T57 l0 x12_1).f0))).setCell ⟨gb251, 1, none⟩ (.slice A250_1 ((rd_T57 l0 x12_1).f1).length c250_1))).cell? _ = some _ from hx253_0)); (try have hy253_1 := fun (n_ : Nat) => (show ((((w7.drewN n_).setCell ⟨gb251, 0, none⟩ (.int .i64 ((rd_T57 l0 x12_1).f0))).setCell ⟨gb251, 1, none⟩ (.slice A250_1 ((rd_T57 l0 x12_1).f1).length c250_1))).cell? _ = some _ from hx253_1)); clear hn253_0; clear hn253_1; replace p253 := eq_true p253; replace q253 := eq_true q253) | (go_at_call 70; (with_reducible refine (impl_within.calls (((rd_T57 l0 x12_1).f1).length : Int) 1 20 t254 _ A17.out).mono ?_); rintro e w' ⟨rfl, ⟨nd, rfl⟩⟩; (try first | exact ⟨rfl, _, World.drewN_drewN _ _ _⟩ | exact ⟨rfl, _, Eq.trans (World.drewN_drewN _ _ _) (congrArg (World.drewN _) (Nat.add_assoc _ _ _))⟩)))
             repeat (go_quiet (first | (go_at_call 70; (with_reducible refine (impl_within.calls ((rd_T57 l0 x12_1).f0) 0 11 true _ A9.out).mono ?_); rintro e w' ⟨rfl, ⟨nd, rfl⟩⟩; (try first | exact ⟨rfl, _, World.drewN_drewN _ _ _⟩ | exact ⟨rfl, _, Eq.trans (World.drewN_drewN _ _ _) (congrArg (World.drewN _) (Nat.add_assoc _ _ _))⟩); have p253 : 0 <= ((ji12) : Int) := of_decide_eq_true as_; have q253 : (ji12) < (l0.length : Int) := of_decide_eq_true as_; obtain ⟨ad253, A253_1, c253_1, e253, hx253_0, hx253_1, hl253_1, hi253_1⟩ := at_T57 HR0.out (ji12) p253 q253; obtain rfl : ad250 = ad253 := (by injection e253); have hn253_0 : ad250.block ≠ gb251 := Nat.ne_of_lt (Nat.lt_of_lt_of_le (by have := World.block_lt_of_cell? _ _ hx253_0; first | rwa [add_block] at this | exact this) GW251.out); have hn253_1 : ad250.block ≠ gb251 := Nat.ne_of_lt (Nat.lt_of_lt_of_le (by have := World.block_lt_of_cell? _ _ hx253_0; first | rwa [add_block] at this | exact this) GW251.out); replace hx253_0 := (HB.out.cell (World.block_lt_of_cell? w _ hx253_0)).trans hx253_0; replace hx253_1 := (HB.out.cell (World.block_lt_of_cell? w _ hx253_1)).trans hx253_1; have HR253_1 := Aside0.mk hi253_1; have HC253_1 := Aside0.mk hl253_1; clear hi253_1 hl253_1; replace hx253_0 := (cell_far (p := ⟨gb251, 0, none⟩) (by first | (rw [add_block]; exact hn253_0) | (show (Addr.add _ _).block ≠ _; rw [add_block]; exact hn253_0) | exact hn253_0) (.int .i64 ((rd_T57 l0 x12_1).f0))).trans hx253_0; replace hx253_1 := (cell_far (p := ⟨gb251, 0, none⟩) (by first | (rw [add_block]; exact hn253_0) | (show (Addr.add _ _).block ≠ _; rw [add_block]; exact hn253_0) | exact hn253_0) (.int .i64 ((rd_T57 l0 x12_1).f0))).trans hx253_1; replace hx253_0 := (cell_far (p := ⟨gb251, 1, none⟩) (by first | (rw [add_block]; exact hn253_1) | (show (Addr.add _ _).block ≠ _; rw [add_block]; exact hn253_1) | exact hn253_1) (.slice A250_1 ((rd_T57 l0 x12_1).f1).length c250_1)).trans hx253_0; replace hx253_1 := (cell_far (p := ⟨gb251, 1, none⟩) (by first | (rw [add_block]; exact hn253_1) | (show (Addr.add _ _).block ≠ _; rw [add_block]; exact hn253_1) | exact hn253_1) (.slice A250_1 ((rd_T57 l0 x12_1).f1).length c250_1)).trans hx253_1; (try have hy253_0 := fun (n_ : Nat) => (show ((((w7.drewN n_).setCell ⟨gb251, 0, none⟩ (.int .i64 ((rd_T57 l0 x12_1).f0))).setCell ⟨gb251, 1, none⟩ (.slice A250_1 ((rd_T57 l0 x12_1).f1).length c250_1))).cell? _ = some _ from hx253_0)); (try have hy253_1 := fun (n_ : Nat) => (show ((((w7.drewN n_).setCell ⟨gb251, 0, none⟩ (.int .i64 ((rd_T57 l0 x12_1).f0))).setCell ⟨gb251, 1, none⟩ (.slice A250_1 ((rd_T57 l0 x12_1).f1).length c250_1))).cell? _ = some _ from hx253_1)); clear hn253_0; clear hn253_1; replace p253 := eq_true p253; replace q253 := eq_true q253) | (go_at_call 70; (with_reducible refine (impl_within.calls (((rd_T57 l0 x12_1).f1).length : Int) 1 20 t254 _ A17.out).mono ?_); rintro e w' ⟨rfl, ⟨nd, rfl⟩⟩; (try first | exact ⟨rfl, _, World.drewN_drewN _ _ _⟩ | exact ⟨rfl, _, Eq.trans (World.drewN_drewN _ _ _) (congrArg (World.drewN _) (Nat.add_assoc _ _ _))⟩))); try go_wp2_with (first | (go_at_call 70; (with_reducible refine (impl_within.calls ((rd_T57 l0 x12_1).f0) 0 11 true _ A9.out).mono ?_); rintro e w' ⟨rfl, ⟨nd, rfl⟩⟩; (try first | exact ⟨rfl, _, World.drewN_drewN _ _ _⟩ | exact ⟨rfl, _, Eq.trans (World.drewN_drewN _ _ _) (congrArg (World.drewN _) (Nat.add_assoc _ _ _))⟩); have p253 : 0 <= ((ji12) : Int) := of_decide_eq_true as_; have q253 : (ji12) < (l0.length : Int) := of_decide_eq_true as_; obtain ⟨ad253, A253_1, c253_1, e253, hx253_0, hx253_1, hl253_1, hi253_1⟩ := at_T57 HR0.out (ji12) p253 q253; obtain rfl : ad250 = ad253 := (by injection e253); have hn253_0 : ad250.block ≠ gb251 := Nat.ne_of_lt (Nat.lt_of_lt_of_le (by have := World.block_lt_of_cell? _ _ hx253_0; first | rwa [add_block] at this | exact this) GW251.out); have hn253_1 : ad250.block ≠ gb251 := Nat.ne_of_lt (Nat.lt_of_lt_of_le (by have := World.block_lt_of_cell? _ _ hx253_0; first | rwa [add_block] at this | exact this) GW251.out); replace hx253_0 := (HB.out.cell (World.block_lt_of_cell? w _ hx253_0)).trans hx253_0; replace hx253_1 := (HB.out.cell (World.block_lt_of_cell? w _ hx253_1)).trans hx253_1; have HR253_1 := Aside0.mk hi253_1; have HC253_1 := Aside0.mk hl253_1; clear hi253_1 hl253_1; replace hx253_0 := (cell_far (p := ⟨gb251, 0, none⟩) (by first | (rw [add_block]; exact hn253_0) | (show (Addr.add _ _).block ≠ _; rw [add_block]; exact hn253_0) | exact hn253_0) (.int .i64 ((rd_T57 l0 x12_1).f0))).trans hx253_0; replace hx253_1 := (cell_far (p := ⟨gb251, 0, none⟩) (by first | (rw [add_block]; exact hn253_0) | (show (Addr.add _ _).block ≠ _; rw [add_block]; exact hn253_0) | exact hn253_0) (.int .i64 ((rd_T57 l0 x12_1).f0))).trans hx253_1; replace hx253_0 := (cell_far (p := ⟨gb251, 1, none⟩) (by first | (rw [add_block]; exact hn253_1) | (show (Addr.add _ _).block ≠ _; rw [add_block]; exact hn253_1) | exact hn253_1) (.slice A250_1 ((rd_T57 l0 x12_1).f1).length c250_1)).trans hx253_0; replace hx253_1 := (cell_far (p := ⟨gb251, 1, none⟩) (by first | (rw [add_block]; exact hn253_1) | (show (Addr.add _ _).block ≠ _; rw [add_block]; exact hn253_1) | exact hn253_1) (.slice A250_1 ((rd_T57 l0 x12_1).f1).length c250_1)).trans hx253_1; (try have hy253_0 := fun (n_ : Nat) => (show ((((w7.drewN n_).setCell ⟨gb251, 0, none⟩ (.int .i64 ((rd_T57 l0 x12_1).f0))).setCell ⟨gb251, 1, none⟩ (.slice A250_1 ((rd_T57 l0 x12_1).f1).length c250_1))).cell? _ = some _ from hx253_0)); (try have hy253_1 := fun (n_ : Nat) => (show ((((w7.drewN n_).setCell ⟨gb251, 0, none⟩ (.int .i64 ((rd_T57 l0 x12_1).f0))).setCell ⟨gb251, 1, none⟩ (.slice A250_1 ((rd_T57 l0 x12_1).f1).length c250_1))).cell? _ = some _ from hx253_1)); clear hn253_0; clear hn253_1; replace p253 := eq_true p253; replace q253 := eq_true q253) | (go_at_call 70; (with_reducible refine (impl_within.calls (((rd_T57 l0 x12_1).f1).length : Int) 1 20 t254 _ A17.out).mono ?_); rintro e w' ⟨rfl, ⟨nd, rfl⟩⟩; (try first | exact ⟨rfl, _, World.drewN_drewN _ _ _⟩ | exact ⟨rfl, _, Eq.trans (World.drewN_drewN _ _ _) (congrArg (World.drewN _) (Nat.add_assoc _ _ _))⟩))))
             first | go_meet | (simp only [<- hji12]; go_meet)
             case rel => exact ⟨_, (!t254), (by first | rfl | (simp; done) | (simp [*]; done)), (by first | exact H' | (simp only [hji12]; exact H') | (simp only [<- hji12] at H' ⊢; exact H')), ⟨by have := HK1.out; first | omega | exact Nat.le_refl _⟩, ⟨by (with_reducible repeat (first | refine blk_drewN ?_ _ | refine blk_drew ?_ | refine blk_alloc ?_ _)); refine blk_put (cs := #[.int .i64 ((rd_T57 l0 x12_1).f0), .slice none 0 0]) ?_ 1 _ rfl; (with_reducible repeat (first | refine blk_drewN ?_ _ | refine blk_drew ?_ | refine blk_alloc ?_ _)); refine blk_put (cs := #[.int .i64 0, .slice none 0 0]) ?_ 0 _ rfl; (with_reducible repeat (first | refine blk_drewN ?_ _ | refine blk_drew ?_ | refine blk_alloc ?_ _)); exact BK251.out⟩, ⟨be_ HB.out⟩⟩
           ·rw [if_neg c14] at H
            exact absurd H (by simp)
          ·rw [if_neg c13] at H
           exact absurd H (by simp)
         ·rw [if_neg c11] at H
          have c11b0 : decide (0 < x12_1) = false := decide_eq_false c11
          clear c11
          (first | rw [c11b0] | (simp only [i64_w, i32_w]; rw [c11b0]) | rw [c11b1] | skip)
          replace H := Option.bind_eq_some_iff.mp H
          obtain ⟨t255, A190, H⟩ := H
          replace H : (impl_GoodPosts.j1 k1 l0 l0 (l0.length : Int) x12_1 (!t255) ((rd_T57 l0 x12_1).f0) ((rd_T57 l0 x12_1).f1)) = some r := H
          have A19 := Aside0.mk A190
          clear A190
          have H' := Aside0.mk H
          clear H
          have hcz20_0 : w7.cell? ⟨gb251, 0, none⟩ = some (.int .i64 0) := (blk_cell BK251.out 0).trans rfl
          have hcz20_1 : w7.cell? ⟨gb251, 1, none⟩ = some (.slice none 0 0) := (blk_cell BK251.out 1).trans rfl
          have hfz20_0 := blk_frozen BK251.out 0
          have hfz20_1 := blk_frozen BK251.out 1
          go_wp2_with (first | (go_at_call 70; (with_reducible refine (impl_within.calls ((rd_T57 l0 x12_1).f0) 0 11 true _ A9.out).mono ?_); rintro e w' ⟨rfl, ⟨nd, rfl⟩⟩; (try first | exact ⟨rfl, _, World.drewN_drewN _ _ _⟩ | exact ⟨rfl, _, Eq.trans (World.drewN_drewN _ _ _) (congrArg (World.drewN _) (Nat.add_assoc _ _ _))⟩)) | (go_at_call 70; (with_reducible refine (impl_within.calls (((rd_T57 l0 x12_1).f1).length : Int) 1 20 t255 _ A19.out).mono ?_); rintro e w' ⟨rfl, ⟨nd, rfl⟩⟩; (try first | exact ⟨rfl, _, World.drewN_drewN _ _ _⟩ | exact ⟨rfl, _, Eq.trans (World.drewN_drewN _ _ _) (congrArg (World.drewN _) (Nat.add_assoc _ _ _))⟩)))
          repeat (go_quiet (first | (go_at_call 70; (with_reducible refine (impl_within.calls ((rd_T57 l0 x12_1).f0) 0 11 true _ A9.out).mono ?_); rintro e w' ⟨rfl, ⟨nd, rfl⟩⟩; (try first | exact ⟨rfl, _, World.drewN_drewN _ _ _⟩ | exact ⟨rfl, _, Eq.trans (World.drewN_drewN _ _ _) (congrArg (World.drewN _) (Nat.add_assoc _ _ _))⟩)) | (go_at_call 70; (with_reducible refine (impl_within.calls (((rd_T57 l0 x12_1).f1).length : Int) 1 20 t255 _ A19.out).mono ?_); rintro e w' ⟨rfl, ⟨nd, rfl⟩⟩; (try first | exact ⟨rfl, _, World.drewN_drewN _ _ _⟩ | exact ⟨rfl, _, Eq.trans (World.drewN_drewN _ _ _) (congrArg (World.drewN _) (Nat.add_assoc _ _ _))⟩))); try go_wp2_with (first | (go_at_call 70; (with_reducible refine (impl_within.calls ((rd_T57 l0 x12_1).f0) 0 11 true _ A9.out).mono ?_); rintro e w' ⟨rfl, ⟨nd, rfl⟩⟩; (try first | exact ⟨rfl, _, World.drewN_drewN _ _ _⟩ | exact ⟨rfl, _, Eq.trans (World.drewN_drewN _ _ _) (congrArg (World.drewN _) (Nat.add_assoc _ _ _))⟩)) | (go_at_call 70; (with_reducible refine (impl_within.calls (((rd_T57 l0 x12_1).f1).length : Int) 1 20 t255 _ A19.out).mono ?_); rintro e w' ⟨rfl, ⟨nd, rfl⟩⟩; (try first | exact ⟨rfl, _, World.drewN_drewN _ _ _⟩ | exact ⟨rfl, _, Eq.trans (World.drewN_drewN _ _ _) (congrArg (World.drewN _) (Nat.add_assoc _ _ _))⟩))))
          go_meet
          case rel => exact ⟨_, (!t255), (by first | rfl | (simp; done) | (simp [*]; done)), H', ⟨by have := HK1.out; first | omega | exact Nat.le_refl _⟩, ⟨by (with_reducible repeat (first | refine blk_drewN ?_ _ | refine blk_drew ?_ | refine blk_alloc ?_ _)); refine blk_put (cs := #[.int .i64 ((rd_T57 l0 x12_1).f0), .slice none 0 0]) ?_ 1 _ rfl; (with_reducible repeat (first | refine blk_drewN ?_ _ | refine blk_drew ?_ | refine blk_alloc ?_ _)); refine blk_put (cs := #[.int .i64 0, .slice none 0 0]) ?_ 0 _ rfl; (with_reducible repeat (first | refine blk_drewN ?_ _ | refine blk_drew ?_ | refine blk_alloc ?_ _)); exact BK251.out⟩, ⟨be_ HB.out⟩⟩
        ·replace c10 := Bool.eq_false_iff.mpr c10
         subst c10
         have H1 : (impl_GoodPosts.j1 k1 l0 l0 (l0.length : Int) x12_1 true ((rd_T57 l0 x12_1).f0) ((rd_T57 l0 x12_1).f1)) = some r := by rw [if_neg (show ¬ (false = true) by decide)] at H; exact H
         clear H
         have H := H1
         clear H1
         have H' := Aside0.mk H
         clear H
         have hcz21_0 : w7.cell? ⟨gb251, 0, none⟩ = some (.int .i64 0) := (blk_cell BK251.out 0).trans rfl
         have hcz21_1 : w7.cell? ⟨gb251, 1, none⟩ = some (.slice none 0 0) := (blk_cell BK251.out 1).trans rfl
         have hfz21_0 := blk_frozen BK251.out 0
         have hfz21_1 := blk_frozen BK251.out 1
         go_wp2_with (first | (go_at_call 70; (with_reducible refine (impl_within.calls ((rd_T57 l0 x12_1).f0) 0 11 false _ A9.out).mono ?_); rintro e w' ⟨rfl, ⟨nd, rfl⟩⟩; (try first | exact ⟨rfl, _, World.drewN_drewN _ _ _⟩ | exact ⟨rfl, _, Eq.trans (World.drewN_drewN _ _ _) (congrArg (World.drewN _) (Nat.add_assoc _ _ _))⟩)))
         repeat (go_quiet (first | (go_at_call 70; (with_reducible refine (impl_within.calls ((rd_T57 l0 x12_1).f0) 0 11 false _ A9.out).mono ?_); rintro e w' ⟨rfl, ⟨nd, rfl⟩⟩; (try first | exact ⟨rfl, _, World.drewN_drewN _ _ _⟩ | exact ⟨rfl, _, Eq.trans (World.drewN_drewN _ _ _) (congrArg (World.drewN _) (Nat.add_assoc _ _ _))⟩))); try go_wp2_with (first | (go_at_call 70; (with_reducible refine (impl_within.calls ((rd_T57 l0 x12_1).f0) 0 11 false _ A9.out).mono ?_); rintro e w' ⟨rfl, ⟨nd, rfl⟩⟩; (try first | exact ⟨rfl, _, World.drewN_drewN _ _ _⟩ | exact ⟨rfl, _, Eq.trans (World.drewN_drewN _ _ _) (congrArg (World.drewN _) (Nat.add_assoc _ _ _))⟩))))
         go_meet
         case rel => exact ⟨_, (true), (by first | rfl | (simp; done) | (simp [*]; done)), H', ⟨by have := HK1.out; first | omega | exact Nat.le_refl _⟩, ⟨by (with_reducible repeat (first | refine blk_drewN ?_ _ | refine blk_drew ?_ | refine blk_alloc ?_ _)); refine blk_put (cs := #[.int .i64 ((rd_T57 l0 x12_1).f0), .slice none 0 0]) ?_ 1 _ rfl; (with_reducible repeat (first | refine blk_drewN ?_ _ | refine blk_drew ?_ | refine blk_alloc ?_ _)); refine blk_put (cs := #[.int .i64 0, .slice none 0 0]) ?_ 0 _ rfl; (with_reducible repeat (first | refine blk_drewN ?_ _ | refine blk_drew ?_ | refine blk_alloc ?_ _)); exact BK251.out⟩, ⟨be_ HB.out⟩⟩
       case rest =>
        clear HC6
        (try clear c1); (try clear c2); (try clear c2b0); (try clear c2b1); (try clear p2); (try clear q2); (try clear hx2); (try clear c3); (try clear c3b0); (try clear c4); (try clear c4b0); (try clear c5); (try clear c5b0); (try clear p6); (try clear c10); (try clear c11); (try clear c11b0); (try clear c11b1); (try clear c13); (try clear c13b0); (try clear c14); (try clear c14b0); (try clear c15); (try clear c15b0); (try clear hcz16_0); (try clear hcz16_1); (try clear hcz18_0); (try clear hcz18_1); (try clear hcz20_0); (try clear hcz20_1); (try clear hcz21_0); (try clear hcz21_1); (try clear hcz8_0); (try clear hcz8_1); (try clear hfz16_0); (try clear hfz16_1); (try clear hfz18_0); (try clear hfz18_1); (try clear hfz20_0); (try clear hfz20_1); (try clear hfz21_0); (try clear hfz21_1); (try clear hfz8_0); (try clear hfz8_1); (try clear hx250_0); (try clear hx250_1); (try clear hx253_0); (try clear hx253_1); (try clear p2); (try clear p250); (try clear p253); (try clear q250); (try clear q253)
        obtain ⟨kq, x42_5, rfl, HA, HJ5, BK251, HB⟩ := hcut
        cases kq with
        | zero => exact absurd HA.out (by simp [impl_GoodPosts.j1])
        | succ kj5 =>
         have H := HA.out
         clear HA
         simp only [impl_GoodPosts.j1] at H
         by_cases c22 : x42_5 = true
         ·subst c22
          have H1 : (some false) = some r := by rw [if_pos rfl] at H; exact H
          clear H
          have H := H1
          clear H1
          obtain rfl := Option.some.inj H
          go_wp2
          repeat (go_quiet (fail); try go_wp2)
          go_ret
          exact ⟨ew_, by repeat (first | (with_reducible first | exact HB.out | apply below_alloc | apply pw_below_drewN | apply below_drew1 | refine below_set ?_ GE251.out) | exact HB.out)⟩
         ·replace c22 := Bool.eq_false_iff.mpr c22
          subst c22
          have H1 : (impl_GoodPosts.l1 kj5 l0 l0 (l0.length : Int) x12_1 ((rd_T57 l0 x12_1).f1) (((rd_T57 l0 x12_1).f1).length : Int) 0 ((rd_T57 l0 x12_1).f0) ((rd_T57 l0 x12_1).f1)) = some r := by rw [if_neg (show ¬ (false = true) by decide)] at H; exact H
          clear H
          have H := H1
          clear H1
          have H' := Aside0.mk H
          clear H
          have hcz23_0 : wc.cell? ⟨gb251, 0, none⟩ = some (.int .i64 ((rd_T57 l0 x12_1).f0)) := (blk_cell BK251.out 0).trans rfl
          have hcz23_1 : wc.cell? ⟨gb251, 1, none⟩ = some (.slice A250_1 ((rd_T57 l0 x12_1).f1).length c250_1) := (blk_cell BK251.out 1).trans rfl
          have hfz23_0 := blk_frozen BK251.out 0
          have hfz23_1 := blk_frozen BK251.out 1
          go_wp2
          repeat (go_quiet (fail); try go_wp2)
          go_loopg [46] kj5 (fun kq v46 w' => ∃ (x46_3 : Int), v46 = .int .i64 x46_3 /\ Aside0 (impl_GoodPosts.l1 kq l0 l0 (l0.length : Int) x12_1 ((rd_T57 l0 x12_1).f1) (((rd_T57 l0 x12_1).f1).length : Int) x46_3 ((rd_T57 l0 x12_1).f0) ((rd_T57 l0 x12_1).f1) = some r) /\ Aside0 (kq <= kj5) /\ Aside0 (w'.heap[gb251]? = some (.cells #[.int .i64 ((rd_T57 l0 x12_1).f0), (.slice A250_1 ((rd_T57 l0 x12_1).f1).length c250_1)] 57 (0, 0))) /\ Aside0 (Below w.heap.size w w'))
          case atStart => exact ⟨(0), (by first | rfl | (simp; done) | (simp [*]; done)), H', ⟨Nat.le_refl _⟩, ⟨pk_ BK251.out⟩, ⟨be_ HB.out⟩⟩
          case round =>
           clear H'
           (try clear c1); (try clear c2); (try clear c2b0); (try clear c2b1); (try clear p2); (try clear q2); (try clear hx2); (try clear c3); (try clear c3b0); (try clear c4); (try clear c4b0); (try clear c5); (try clear c5b0); (try clear p6); (try clear c10); (try clear c11); (try clear c11b0); (try clear c11b1); (try clear c13); (try clear c13b0); (try clear c14); (try clear c14b0); (try clear c15); (try clear c15b0); (try clear c22); (try clear hcz16_0); (try clear hcz16_1); (try clear hcz18_0); (try clear hcz18_1); (try clear hcz20_0); (try clear hcz20_1); (try clear hcz21_0); (try clear hcz21_1); (try clear hcz23_0); (try clear hcz23_1); (try clear hcz8_0); (try clear hcz8_1); (try clear hfz16_0); (try clear hfz16_1); (try clear hfz18_0); (try clear hfz18_1); (try clear hfz20_0); (try clear hfz20_1); (try clear hfz21_0); (try clear hfz21_1); (try clear hfz23_0); (try clear hfz23_1); (try clear hfz8_0); (try clear hfz8_1); (try clear hx250_0); (try clear hx250_1); (try clear hx253_0); (try clear hx253_1); (try clear p2); (try clear p250); (try clear p253); (try clear p6); (try clear q2); (try clear q250); (try clear q253)
           obtain ⟨x46_3, rfl, HA, HK3, BK251, HB⟩ := hrel
           cases gk with
           | zero => exact absurd HA.out (by simp [impl_GoodPosts.l1])
           | succ k3 =>
            have H := HA.out
            clear HA
            simp only [impl_GoodPosts.l1] at H
            by_cases c24 : x46_3 < (((rd_T57 l0 x12_1).f1).length : Int)
            ·rw [if_pos c24] at H
             have c24b0 : decide (x46_3 < (((rd_T57 l0 x12_1).f1).length : Int)) = true := decide_eq_true c24
             clear c24
             by_cases c25 : 0 <= x46_3
             ·rw [if_pos c25] at H
              have c25b0 : decide (0 <= x46_3) = true := decide_eq_true c25
              clear c25
              by_cases c26 : x46_3 < (((rd_T57 l0 x12_1).f1).length : Int)
              ·rw [if_pos c26] at H
               have c26b0 : decide (x46_3 < (((rd_T57 l0 x12_1).f1).length : Int)) = true := decide_eq_true c26
               clear c26
               replace H := Option.bind_eq_some_iff.mp H
               obtain ⟨t257, A270, H⟩ := H
               replace H : (if t257 = true then (if x46_3 > 0 then (if 0 <= (wrap64 (x46_3 - 1)) then (if (wrap64 (x46_3 - 1)) < (((rd_T57 l0 x12_1).f1).length : Int) then (if (rd ((rd_T57 l0 x12_1).f1) (wrap64 (x46_3 - 1))) ≥ (rd ((rd_T57 l0 x12_1).f1) x46_3) then (some false) else (impl_GoodPosts.l1 k3 l0 l0 (l0.length : Int) x12_1 ((rd_T57 l0 x12_1).f1) (((rd_T57 l0 x12_1).f1).length : Int) (wrap64 (x46_3 + 1)) ((rd_T57 l0 x12_1).f0) ((rd_T57 l0 x12_1).f1))) else (none)) else (none)) else (impl_GoodPosts.l1 k3 l0 l0 (l0.length : Int) x12_1 ((rd_T57 l0 x12_1).f1) (((rd_T57 l0 x12_1).f1).length : Int) (wrap64 (x46_3 + 1)) ((rd_T57 l0 x12_1).f0) ((rd_T57 l0 x12_1).f1))) else (some false)) = some r := H
               have A27 := Aside0.mk A270
               clear A270
               by_cases c28 : t257 = true
               ·subst c28
                have H1 : (if x46_3 > 0 then (if 0 <= (wrap64 (x46_3 - 1)) then (if (wrap64 (x46_3 - 1)) < (((rd_T57 l0 x12_1).f1).length : Int) then (if (rd ((rd_T57 l0 x12_1).f1) (wrap64 (x46_3 - 1))) ≥ (rd ((rd_T57 l0 x12_1).f1) x46_3) then (some false) else (impl_GoodPosts.l1 k3 l0 l0 (l0.length : Int) x12_1 ((rd_T57 l0 x12_1).f1) (((rd_T57 l0 x12_1).f1).length : Int) (wrap64 (x46_3 + 1)) ((rd_T57 l0 x12_1).f0) ((rd_T57 l0 x12_1).f1))) else (none)) else (none)) else (impl_GoodPosts.l1 k3 l0 l0 (l0.length : Int) x12_1 ((rd_T57 l0 x12_1).f1) (((rd_T57 l0 x12_1).f1).length : Int) (wrap64 (x46_3 + 1)) ((rd_T57 l0 x12_1).f0) ((rd_T57 l0 x12_1).f1))) = some r := by rw [if_pos rfl] at H; exact H
                clear H
                have H := H1
                clear H1
                by_cases c29 : x46_3 > 0
                ·rw [if_pos c29] at H
                 have c29b0 : decide (0 < x46_3) = true := decide_eq_true c29
                 clear c29
                 obtain ⟨ji30, hji30⟩ : ∃ j_ : Int, (wrap64 (x46_3 - 1)) = j_ := ⟨_, rfl⟩
                 replace H : (if 0 <= (ji30) then (if (ji30) < (((rd_T57 l0 x12_1).f1).length : Int) then (if (rd ((rd_T57 l0 x12_1).f1) (ji30)) ≥ (rd ((rd_T57 l0 x12_1).f1) x46_3) then (some false) else (impl_GoodPosts.l1 k3 l0 l0 (l0.length : Int) x12_1 ((rd_T57 l0 x12_1).f1) (((rd_T57 l0 x12_1).f1).length : Int) (wrap64 (x46_3 + 1)) ((rd_T57 l0 x12_1).f0) ((rd_T57 l0 x12_1).f1))) else (none)) else (none)) = some r := by first | (rw [hji30] at H; exact H) | (simp only [hji30] at H ⊢; exact H)
                 (try rw [hji30] at A27)
                 have hji30w : (IntKind.i64.wrap (x46_3 - 1)) = ji30 := (i64_w _).trans hji30
                 by_cases c31 : 0 <= (ji30)
                 ·rw [if_pos c31] at H
                  have c31b0 : decide (0 <= (ji30)) = true := decide_eq_true c31
                  clear c31
                  by_cases c32 : (ji30) < (((rd_T57 l0 x12_1).f1).length : Int)
                  ·rw [if_pos c32] at H
                   have c32b0 : decide ((ji30) < (((rd_T57 l0 x12_1).f1).length : Int)) = true := decide_eq_true c32
                   clear c32
                   by_cases c33 : (rd ((rd_T57 l0 x12_1).f1) (ji30)) ≥ (rd ((rd_T57 l0 x12_1).f1) x46_3)
                   ·rw [if_pos c33] at H
                    have c33b0 : decide ((rd ((rd_T57 l0 x12_1).f1) x46_3) <= (rd ((rd_T57 l0 x12_1).f1) (ji30))) = true := decide_eq_true c33
                    clear c33
                    obtain rfl := Option.some.inj H
                    have p256 : 0 <= (x46_3 : Int) := of_decide_eq_true as_
                    have q256 : x46_3 < (((rd_T57 l0 x12_1).f1).length : Int) := of_decide_eq_true as_
                    obtain ⟨ad256, e256, hx256_0⟩ := Kd.at_int HR250_1.out x46_3 p256 q256
                    cases e256
                    replace hx256_0 := (HB.out.cell (World.block_lt_of_cell? w _ hx256_0)).trans hx256_0
                    replace p256 := eq_true p256
                    replace q256 := eq_true q256
                    go_wp2_with (first | (go_at_call 70; (with_reducible refine (impl_within.calls (rd ((rd_T57 l0 x12_1).f1) x46_3) 0 19 true _ A27.out).mono ?_); rintro e w' ⟨rfl, ⟨nd, rfl⟩⟩; (try first | exact ⟨rfl, _, World.drewN_drewN _ _ _⟩ | exact ⟨rfl, _, Eq.trans (World.drewN_drewN _ _ _) (congrArg (World.drewN _) (Nat.add_assoc _ _ _))⟩); have hcz34_0 : wr.cell? ⟨gb251, 0, none⟩ = some (.int .i64 ((rd_T57 l0 x12_1).f0)) := (blk_cell BK251.out 0).trans rfl; have hcz34_1 : wr.cell? ⟨gb251, 1, none⟩ = some (.slice (some ad256) ((rd_T57 l0 x12_1).f1).length c250_1) := (blk_cell BK251.out 1).trans rfl; have hfz34_0 := blk_frozen BK251.out 0; have hfz34_1 := blk_frozen BK251.out 1; have p258 : 0 <= ((ji30) : Int) := of_decide_eq_true as_; have q258 : (ji30) < (((rd_T57 l0 x12_1).f1).length : Int) := of_decide_eq_true as_; obtain ⟨ad258, e258, hx258_0⟩ := Kd.at_int HR250_1.out (ji30) p258 q258; obtain rfl : ad256 = ad258 := (by injection e258); replace hx258_0 := (HB.out.cell (World.block_lt_of_cell? w _ hx258_0)).trans hx258_0; replace p258 := eq_true p258; replace q258 := eq_true q258))
                    repeat (go_quiet (first | (go_at_call 70; (with_reducible refine (impl_within.calls (rd ((rd_T57 l0 x12_1).f1) x46_3) 0 19 true _ A27.out).mono ?_); rintro e w' ⟨rfl, ⟨nd, rfl⟩⟩; (try first | exact ⟨rfl, _, World.drewN_drewN _ _ _⟩ | exact ⟨rfl, _, Eq.trans (World.drewN_drewN _ _ _) (congrArg (World.drewN _) (Nat.add_assoc _ _ _))⟩); have hcz34_0 : wr.cell? ⟨gb251, 0, none⟩ = some (.int .i64 ((rd_T57 l0 x12_1).f0)) := (blk_cell BK251.out 0).trans rfl; have hcz34_1 : wr.cell? ⟨gb251, 1, none⟩ = some (.slice (some ad256) ((rd_T57 l0 x12_1).f1).length c250_1) := (blk_cell BK251.out 1).trans rfl; have hfz34_0 := blk_frozen BK251.out 0; have hfz34_1 := blk_frozen BK251.out 1; have p258 : 0 <= ((ji30) : Int) := of_decide_eq_true as_; have q258 : (ji30) < (((rd_T57 l0 x12_1).f1).length : Int) := of_decide_eq_true as_; obtain ⟨ad258, e258, hx258_0⟩ := Kd.at_int HR250_1.out (ji30) p258 q258; obtain rfl : ad256 = ad258 := (by injection e258); replace hx258_0 := (HB.out.cell (World.block_lt_of_cell? w _ hx258_0)).trans hx258_0; replace p258 := eq_true p258; replace q258 := eq_true q258)); try go_wp2_with (first | (go_at_call 70; (with_reducible refine (impl_within.calls (rd ((rd_T57 l0 x12_1).f1) x46_3) 0 19 true _ A27.out).mono ?_); rintro e w' ⟨rfl, ⟨nd, rfl⟩⟩; (try first | exact ⟨rfl, _, World.drewN_drewN _ _ _⟩ | exact ⟨rfl, _, Eq.trans (World.drewN_drewN _ _ _) (congrArg (World.drewN _) (Nat.add_assoc _ _ _))⟩); have hcz34_0 : wr.cell? ⟨gb251, 0, none⟩ = some (.int .i64 ((rd_T57 l0 x12_1).f0)) := (blk_cell BK251.out 0).trans rfl; have hcz34_1 : wr.cell? ⟨gb251, 1, none⟩ = some (.slice (some ad256) ((rd_T57 l0 x12_1).f1).length c250_1) := (blk_cell BK251.out 1).trans rfl; have hfz34_0 := blk_frozen BK251.out 0; have hfz34_1 := blk_frozen BK251.out 1; have p258 : 0 <= ((ji30) : Int) := of_decide_eq_true as_; have q258 : (ji30) < (((rd_T57 l0 x12_1).f1).length : Int) := of_decide_eq_true as_; obtain ⟨ad258, e258, hx258_0⟩ := Kd.at_int HR250_1.out (ji30) p258 q258; obtain rfl : ad256 = ad258 := (by injection e258); replace hx258_0 := (HB.out.cell (World.block_lt_of_cell? w _ hx258_0)).trans hx258_0; replace p258 := eq_true p258; replace q258 := eq_true q258)))
                    go_ret
                    exact ⟨by first | rfl | (simp [errW_none, errW_some] <;> rfl) | (simp only [<- hji30]; first | rfl | (simp [errW_none, errW_some] <;> rfl)) | (simp [*, errW_none, errW_some] <;> rfl), by repeat (first | (with_reducible first | exact HB.out | apply below_alloc | apply pw_below_drewN | apply below_drew1 | refine below_set ?_ GE251.out) | exact HB.out)⟩
                   ·rw [if_neg c33] at H
                    have c33b0 : decide ((rd ((rd_T57 l0 x12_1).f1) x46_3) <= (rd ((rd_T57 l0 x12_1).f1) (ji30))) = false := decide_eq_false c33
                    clear c33
                    have H' := Aside0.mk H
                    clear H
                    have p256 : 0 <= (x46_3 : Int) := of_decide_eq_true as_
                    have q256 : x46_3 < (((rd_T57 l0 x12_1).f1).length : Int) := of_decide_eq_true as_
                    obtain ⟨ad256, e256, hx256_0⟩ := Kd.at_int HR250_1.out x46_3 p256 q256
                    cases e256
                    replace hx256_0 := (HB.out.cell (World.block_lt_of_cell? w _ hx256_0)).trans hx256_0
                    replace p256 := eq_true p256
                    replace q256 := eq_true q256
                    go_wp2_with (first | (go_at_call 70; (with_reducible refine (impl_within.calls (rd ((rd_T57 l0 x12_1).f1) x46_3) 0 19 true _ A27.out).mono ?_); rintro e w' ⟨rfl, ⟨nd, rfl⟩⟩; (try first | exact ⟨rfl, _, World.drewN_drewN _ _ _⟩ | exact ⟨rfl, _, Eq.trans (World.drewN_drewN _ _ _) (congrArg (World.drewN _) (Nat.add_assoc _ _ _))⟩); have hcz35_0 : wr.cell? ⟨gb251, 0, none⟩ = some (.int .i64 ((rd_T57 l0 x12_1).f0)) := (blk_cell BK251.out 0).trans rfl; have hcz35_1 : wr.cell? ⟨gb251, 1, none⟩ = some (.slice (some ad256) ((rd_T57 l0 x12_1).f1).length c250_1) := (blk_cell BK251.out 1).trans rfl; have hfz35_0 := blk_frozen BK251.out 0; have hfz35_1 := blk_frozen BK251.out 1; have p258 : 0 <= ((ji30) : Int) := of_decide_eq_true as_; have q258 : (ji30) < (((rd_T57 l0 x12_1).f1).length : Int) := of_decide_eq_true as_; obtain ⟨ad258, e258, hx258_0⟩ := Kd.at_int HR250_1.out (ji30) p258 q258; obtain rfl : ad256 = ad258 := (by injection e258); replace hx258_0 := (HB.out.cell (World.block_lt_of_cell? w _ hx258_0)).trans hx258_0; replace p258 := eq_true p258; replace q258 := eq_true q258))
                    repeat (go_quiet (first | (go_at_call 70; (with_reducible refine (impl_within.calls (rd ((rd_T57 l0 x12_1).f1) x46_3) 0 19 true _ A27.out).mono ?_); rintro e w' ⟨rfl, ⟨nd, rfl⟩⟩; (try first | exact ⟨rfl, _, World.drewN_drewN _ _ _⟩ | exact ⟨rfl, _, Eq.trans (World.drewN_drewN _ _ _) (congrArg (World.drewN _) (Nat.add_assoc _ _ _))⟩); have hcz35_0 : wr.cell? ⟨gb251, 0, none⟩ = some (.int .i64 ((rd_T57 l0 x12_1).f0)) := (blk_cell BK251.out 0).trans rfl; have hcz35_1 : wr.cell? ⟨gb251, 1, none⟩ = some (.slice (some ad256) ((rd_T57 l0 x12_1).f1).length c250_1) := (blk_cell BK251.out 1).trans rfl; have hfz35_0 := blk_frozen BK251.out 0; have hfz35_1 := blk_frozen BK251.out 1; have p258 : 0 <= ((ji30) : Int) := of_decide_eq_true as_; have q258 : (ji30) < (((rd_T57 l0 x12_1).f1).length : Int) := of_decide_eq_true as_; obtain ⟨ad258, e258, hx258_0⟩ := Kd.at_int HR250_1.out (ji30) p258 q258; obtain rfl : ad256 = ad258 := (by injection e258); replace hx258_0 := (HB.out.cell (World.block_lt_of_cell? w _ hx258_0)).trans hx258_0; replace p258 := eq_true p258; replace q258 := eq_true q258)); try go_wp2_with (first | (go_at_call 70; (with_reducible refine (impl_within.calls (rd ((rd_T57 l0 x12_1).f1) x46_3) 0 19 true _ A27.out).mono ?_); rintro e w' ⟨rfl, ⟨nd, rfl⟩⟩; (try first | exact ⟨rfl, _, World.drewN_drewN _ _ _⟩ | exact ⟨rfl, _, Eq.trans (World.drewN_drewN _ _ _) (congrArg (World.drewN _) (Nat.add_assoc _ _ _))⟩); have hcz35_0 : wr.cell? ⟨gb251, 0, none⟩ = some (.int .i64 ((rd_T57 l0 x12_1).f0)) := (blk_cell BK251.out 0).trans rfl; have hcz35_1 : wr.cell? ⟨gb251, 1, none⟩ = some (.slice (some ad256) ((rd_T57 l0 x12_1).f1).length c250_1) := (blk_cell BK251.out 1).trans rfl; have hfz35_0 := blk_frozen BK251.out 0; have hfz35_1 := blk_frozen BK251.out 1; have p258 : 0 <= ((ji30) : Int) := of_decide_eq_true as_; have q258 : (ji30) < (((rd_T57 l0 x12_1).f1).length : Int) := of_decide_eq_true as_; obtain ⟨ad258, e258, hx258_0⟩ := Kd.at_int HR250_1.out (ji30) p258 q258; obtain rfl : ad256 = ad258 := (by injection e258); replace hx258_0 := (HB.out.cell (World.block_lt_of_cell? w _ hx258_0)).trans hx258_0; replace p258 := eq_true p258; replace q258 := eq_true q258)))
                    go_roundg k3
                    case measure => have := HK1.out; have := HJ5.out; have := HK3.out; omega
                    case rel => exact ⟨(wrap64 (x46_3 + 1)), (by first | rfl | (simp; done) | (simp [*]; done)), H', ⟨by have := HK1.out; have := HJ5.out; have := HK3.out; omega⟩, ⟨pk_ BK251.out⟩, ⟨be_ HB.out⟩⟩
                  ·rw [if_neg c32] at H
                   exact absurd H (by simp)
                 ·rw [if_neg c31] at H
                  exact absurd H (by simp)
                ·rw [if_neg c29] at H
                 have c29b0 : decide (0 < x46_3) = false := decide_eq_false c29
                 clear c29
                 have H' := Aside0.mk H
                 clear H
                 have p256 : 0 <= (x46_3 : Int) := of_decide_eq_true as_
                 have q256 : x46_3 < (((rd_T57 l0 x12_1).f1).length : Int) := of_decide_eq_true as_
                 obtain ⟨ad256, e256, hx256_0⟩ := Kd.at_int HR250_1.out x46_3 p256 q256
                 cases e256
                 replace hx256_0 := (HB.out.cell (World.block_lt_of_cell? w _ hx256_0)).trans hx256_0
                 replace p256 := eq_true p256
                 replace q256 := eq_true q256
                 go_wp2_with (first | (go_at_call 70; (with_reducible refine (impl_within.calls (rd ((rd_T57 l0 x12_1).f1) x46_3) 0 19 true _ A27.out).mono ?_); rintro e w' ⟨rfl, ⟨nd, rfl⟩⟩; (try first | exact ⟨rfl, _, World.drewN_drewN _ _ _⟩ | exact ⟨rfl, _, Eq.trans (World.drewN_drewN _ _ _) (congrArg (World.drewN _) (Nat.add_assoc _ _ _))⟩)))
                 repeat (go_quiet (first | (go_at_call 70; (with_reducible refine (impl_within.calls (rd ((rd_T57 l0 x12_1).f1) x46_3) 0 19 true _ A27.out).mono ?_); rintro e w' ⟨rfl, ⟨nd, rfl⟩⟩; (try first | exact ⟨rfl, _, World.drewN_drewN _ _ _⟩ | exact ⟨rfl, _, Eq.trans (World.drewN_drewN _ _ _) (congrArg (World.drewN _) (Nat.add_assoc _ _ _))⟩))); try go_wp2_with (first | (go_at_call 70; (with_reducible refine (impl_within.calls (rd ((rd_T57 l0 x12_1).f1) x46_3) 0 19 true _ A27.out).mono ?_); rintro e w' ⟨rfl, ⟨nd, rfl⟩⟩; (try first | exact ⟨rfl, _, World.drewN_drewN _ _ _⟩ | exact ⟨rfl, _, Eq.trans (World.drewN_drewN _ _ _) (congrArg (World.drewN _) (Nat.add_assoc _ _ _))⟩))))
                 go_roundg k3
                 case measure => have := HK1.out; have := HJ5.out; have := HK3.out; omega
                 case rel => exact ⟨(wrap64 (x46_3 + 1)), (by first | rfl | (simp; done) | (simp [*]; done)), H', ⟨by have := HK1.out; have := HJ5.out; have := HK3.out; omega⟩, ⟨pk_ BK251.out⟩, ⟨be_ HB.out⟩⟩
               ·replace c28 := Bool.eq_false_iff.mpr c28
                subst c28
                have H1 : (some false) = some r := by rw [if_neg (show ¬ (false = true) by decide)] at H; exact H
                clear H
                have H := H1
                clear H1
                obtain rfl := Option.some.inj H
                have p256 : 0 <= (x46_3 : Int) := of_decide_eq_true as_
                have q256 : x46_3 < (((rd_T57 l0 x12_1).f1).length : Int) := of_decide_eq_true as_
                obtain ⟨ad256, e256, hx256_0⟩ := Kd.at_int HR250_1.out x46_3 p256 q256
                cases e256
                replace hx256_0 := (HB.out.cell (World.block_lt_of_cell? w _ hx256_0)).trans hx256_0
                replace p256 := eq_true p256
                replace q256 := eq_true q256
                go_wp2_with (first | (go_at_call 70; (with_reducible refine (impl_within.calls (rd ((rd_T57 l0 x12_1).f1) x46_3) 0 19 false _ A27.out).mono ?_); rintro e w' ⟨rfl, ⟨nd, rfl⟩⟩; (try first | exact ⟨rfl, _, World.drewN_drewN _ _ _⟩ | exact ⟨rfl, _, Eq.trans (World.drewN_drewN _ _ _) (congrArg (World.drewN _) (Nat.add_assoc _ _ _))⟩)))
                repeat (go_quiet (first | (go_at_call 70; (with_reducible refine (impl_within.calls (rd ((rd_T57 l0 x12_1).f1) x46_3) 0 19 false _ A27.out).mono ?_); rintro e w' ⟨rfl, ⟨nd, rfl⟩⟩; (try first | exact ⟨rfl, _, World.drewN_drewN _ _ _⟩ | exact ⟨rfl, _, Eq.trans (World.drewN_drewN _ _ _) (congrArg (World.drewN _) (Nat.add_assoc _ _ _))⟩))); try go_wp2_with (first | (go_at_call 70; (with_reducible refine (impl_within.calls (rd ((rd_T57 l0 x12_1).f1) x46_3) 0 19 false _ A27.out).mono ?_); rintro e w' ⟨rfl, ⟨nd, rfl⟩⟩; (try first | exact ⟨rfl, _, World.drewN_drewN _ _ _⟩ | exact ⟨rfl, _, Eq.trans (World.drewN_drewN _ _ _) (congrArg (World.drewN _) (Nat.add_assoc _ _ _))⟩))))
                go_ret
                exact ⟨ew_, by repeat (first | (with_reducible first | exact HB.out | apply below_alloc | apply pw_below_drewN | apply below_drew1 | refine below_set ?_ GE251.out) | exact HB.out)⟩
              ·rw [if_neg c26] at H
               exact absurd H (by simp)
             ·rw [if_neg c25] at H
              exact absurd H (by simp)
            ·rw [if_neg c24] at H
             have c24b0 : decide (x46_3 < (((rd_T57 l0 x12_1).f1).length : Int)) = false := decide_eq_false c24
             clear c24
             have H' := Aside0.mk H
             clear H
             go_wp2
             repeat (go_quiet (fail); try go_wp2)
             go_roundg k3
             case measure => have := HK1.out; have := HJ5.out; have := HK3.out; omega
             case rel => exact ⟨(wrap64 (x12_1 + 1)), (by first | rfl | (simp; done) | (simp [*]; done)), H', ⟨by have := HK1.out; have := HJ5.out; have := HK3.out; omega⟩, ⟨be_ HB.out⟩⟩
      ·rw [if_neg c5] at H
       exact absurd H (by simp)
     ·rw [if_neg c4] at H
      exact absurd H (by simp)
    ·rw [if_neg c3] at H
     have c3b0 : decide (x12_1 < (l0.length : Int)) = false := decide_eq_false c3
     clear c3
     obtain rfl := Option.some.inj H
     go_wp2
     repeat (go_quiet (fail); try go_wp2)
     go_ret
     exact ⟨ew_, by repeat (first | (with_reducible first | exact HB.out | apply below_alloc | apply pw_below_drewN | apply below_drew1) | exact HB.out)⟩
open Go.Proofs.Ytcopakljdenolaa.Gen   -- compacted234
def spec_l1Has.l0 : Nat -> Int -> List Int -> Int -> Int -> Option (Bool)
 | 0, _, _, _, _ => none
 | k + 1, x1, x7, x8, x9 => if x9 < x8 then (if 0 <= x9 then (if x9 < (x7.length : Int) then (if (rd x7 x9) = x1 then (some true) else (spec_l1Has.l0 k x1 x7 x8 (wrap64 (x9 + 1)))) else (none)) else (none)) else (some false)
def spec_l1Has.f (k : Nat) (l0 : List Int) (a1 : Int) : Option (Bool) := spec_l1Has.l0 k a1 l0 (l0.length : Int) 0
theorem spec_l1Has.mono_l : ∀ k, (∀ y0 y1 y2 y3, LeO (spec_l1Has.l0 k y0 y1 y2 y3) (spec_l1Has.l0 (k + 1) y0 y1 y2 y3))
 | 0 => fun _ _ _ _ r h => by simp [spec_l1Has.l0] at h
 | k + 1 => by
  have ih0 := spec_l1Has.mono_l k
  ·intro y0 y1 y2 y3
   unfold spec_l1Has.l0
   repeat' (with_reducible first | exact ih0 _ _ _ _ | exact LeO.refl _ | exact LeO.none _ | refine LeO.ite ?_ ?_ | refine LeO.bind ?_ (fun _ => ?_))
theorem spec_l1Has.mono : ∀ a0 a1 k, LeO (spec_l1Has.f k a0 a1) (spec_l1Has.f (k + 1) a0 a1) := by
 intro a0 a1 k
 have ih0 := spec_l1Has.mono_l k
 unfold spec_l1Has.f
 repeat' (with_reducible first | exact ih0 _ _ _ _ | exact LeO.refl _ | exact LeO.none _ | refine LeO.ite ?_ ?_ | refine LeO.bind ?_ (fun _ => ?_))
theorem spec_l1Has.calls (k : Nat) (A0 : Option Addr) (c0 : Nat) (l0 : List Int) (a1 : Int) (r : Bool) (w : World) (hr0 : Kd.C (Kd.int .i64) w A0 l0.length l0) (hc0 : l0.length <= c0) (h : spec_l1Has.f k l0 a1 = some r) :
  Calls Try.prog 99 #[.slice A0 l0.length c0, .int .i64 a1] w fun e w' => e = .returned (.bool r) /\ Drawn0 w w' := by
 have HR0 := Aside0.mk hr0
 have HC0 := Aside0.mk hc0
 clear hr0 hc0
 have H : (spec_l1Has.l0 k a1 l0 (l0.length : Int) 0) = some r := h
 clear h
 have H' := Aside0.mk H
 clear H
 go_enter Try.func99, Try.ntmps99
 go_wp2
 go_loopg [9] k (fun kq v9 w' => ∃ (x9_1 : Int), v9 = .int .i64 x9_1 /\ Aside0 (spec_l1Has.l0 kq a1 l0 (l0.length : Int) x9_1 = some r) /\ Aside0 (kq <= k) /\ Drawn0 w w')
 case atStart => exact ⟨(0), (by first | rfl | (simp; done) | (simp [*]; done)), H', ⟨Nat.le_refl _⟩, by repeat (first | exact Drawn0.refl _ | apply Drawn0.step)⟩
 case round =>
  clear H'
  (try clear p2)
  obtain ⟨x9_1, rfl, HA, HK1, ⟨m1, rfl⟩⟩ := hrel
  cases gk with
  | zero => exact absurd HA.out (by simp [spec_l1Has.l0])
  | succ k1 =>
   have H := HA.out
   clear HA
   simp only [spec_l1Has.l0] at H
   by_cases c3 : x9_1 < (l0.length : Int)
   ·rw [if_pos c3] at H
    have c3b0 : decide (x9_1 < (l0.length : Int)) = true := decide_eq_true c3
    clear c3
    by_cases c4 : 0 <= x9_1
    ·rw [if_pos c4] at H
     have c4b0 : decide (0 <= x9_1) = true := decide_eq_true c4
     clear c4
     by_cases c5 : x9_1 < (l0.length : Int)
     ·rw [if_pos c5] at H
      have c5b0 : decide (x9_1 < (l0.length : Int)) = true := decide_eq_true c5
      clear c5
      by_cases c6 : (rd l0 x9_1) = a1
      ·rw [if_pos c6] at H
       have c6b0 : ((rd l0 x9_1) == a1) = true := beq_iff_eq.mpr c6
       have c6b1 : ((rd l0 x9_1) != a1) = false := bne_eq_false_iff_eq.mpr c6
       clear c6
       obtain rfl := Option.some.inj H
       have p277 : 0 <= (x9_1 : Int) := of_decide_eq_true as_
       have q277 : x9_1 < (l0.length : Int) := of_decide_eq_true as_
       obtain ⟨ad277, e277, hx277_0⟩ := Kd.at_int HR0.out x9_1 p277 q277
       cases e277
       replace p277 := eq_true p277
       replace q277 := eq_true q277
       go_wp2
       go_ret
       exact ⟨by first | rfl | (simp; done) | (simp [*]; done), by repeat (first | exact Drawn0.refl _ | apply Drawn0.step)⟩
      ·rw [if_neg c6] at H
       have c6b0 : ((rd l0 x9_1) == a1) = false := beq_eq_false_iff_ne.mpr c6
       have c6b1 : ((rd l0 x9_1) != a1) = true := bne_iff_ne.mpr c6
       have H' := Aside0.mk H
       clear H
       have p277 : 0 <= (x9_1 : Int) := of_decide_eq_true as_
       have q277 : x9_1 < (l0.length : Int) := of_decide_eq_true as_
       obtain ⟨ad277, e277, hx277_0⟩ := Kd.at_int HR0.out x9_1 p277 q277
       cases e277
       replace p277 := eq_true p277
       replace q277 := eq_true q277
       go_wp2
       go_roundg k1
       case measure => have := HK1.out; omega
       case rel => exact ⟨(wrap64 (x9_1 + 1)), (by first | rfl | (simp; done) | (simp [*]; done)), H', ⟨by have := HK1.out; omega⟩, by repeat (first | exact Drawn0.refl _ | apply Drawn0.step)⟩
     ·rw [if_neg c5] at H
      exact absurd H (by simp)
    ·rw [if_neg c4] at H
     exact absurd H (by simp)
   ·rw [if_neg c3] at H
    have c3b0 : decide (x9_1 < (l0.length : Int)) = false := decide_eq_false c3
    clear c3
    obtain rfl := Option.some.inj H
    go_wp2
    go_ret
    exact ⟨by first | rfl | (simp; done) | (simp [*]; done), by repeat (first | exact Drawn0.refl _ | apply Drawn0.step)⟩
end Go.Proofs.Ytcopakljdenolaa.Fn
