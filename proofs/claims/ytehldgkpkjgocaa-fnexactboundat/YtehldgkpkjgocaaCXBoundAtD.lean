/- The law FnExactBoundAt holds of the given program: at every input it answers true and leaves its arguments as they were; no condition. -/
import Derived.Test.YtehldgkpkjgocaaWWords
import Derived.Test.YtehldgkpkjgocaaWMore
import Derived.OpenShut
import Derived.WideShapes
import Derived.Lib.Strings
import Derived.ChangeArms
import Derived.ChangeSame
import Derived.Deep.Slices
import Derived.Deep.Strs
import Derived.Deep.Fields
import Derived.Lib.SmallJoins
import Derived.Test.YtehldgkpkjgocaaRows
import Derived.WalkKit
import Derived.ProofKit
import Derived.ShutString
import Derived.ChangeOld
import Derived.Below
import Derived.SizedLaws
import Derived.Carry
import Derived.Test.YtehldgkpkjgocaaCXBoundAtA
import Derived.Test.YtehldgkpkjgocaaCXBoundAtB
import Derived.Test.YtehldgkpkjgocaaCXBoundAtC
namespace Go.Proofs.Ytehldgkpkjgocaa.Fn
open Go.RowKit Go.Proofs.YtehldgkpkjgocaaW.PrintWords Go.Proofs.YtehldgkpkjgocaaW.PrintLast Go.Proofs.YtehldgkpkjgocaaW.PrintMore
attribute [local go_sem] max2_int min2_int max_two min_two max_three min_three max_four min_four   -- for this text's walks alone
set_option linter.unusedVariables false
set_option linter.unusedSimpArgs false

/-! ### impl_bound: function 45 -/
def impl_bound.l0 : Nat → Int → Int → List (List (S43)) → Int → Int → Option (Int)
  | 0, _, _, _, _, _ => none
  | k + 1, x1, x5, x8, x9, x10 => if x10 < x9 then (if 0 ≤ x10 then (if x10 < (x8.length : Int) then (if x1 < ((rd_L4 x8 x10).length : Int) then (if 0 ≤ x1 then (impl_bound.l0 k x1 (wrap64 (x5 + ((rd_T43 (rd_L4 x8 x10) x1).f1))) x8 x9 (wrap64 (x10 + 1))) else (none)) else (impl_bound.l0 k x1 x5 x8 x9 (wrap64 (x10 + 1)))) else (none)) else (none)) else (some x5)
def impl_bound.f (k : Nat) (l0 : List (List (S43))) (a1 : Int) : Option (Int) := impl_bound.l0 k a1 0 l0 (l0.length : Int) 0
theorem impl_bound.mono_l : ∀ k, (∀ y0 y1 y2 y3 y4, LeO (impl_bound.l0 k y0 y1 y2 y3 y4) (impl_bound.l0 (k + 1) y0 y1 y2 y3 y4))
  | 0 => fun _ _ _ _ _ r h => by simp [impl_bound.l0] at h
  | k + 1 => by
    have ih0 := impl_bound.mono_l k
    · intro y0 y1 y2 y3 y4
      unfold impl_bound.l0
      repeat' first
      | (with_reducible exact ih0 _ _ _ _ _)
      | (with_reducible exact LeO.refl _)
      | (with_reducible exact LeO.none _)
      | (with_reducible refine LeO.ite ?_ ?_)
      | (with_reducible refine LeO.bind ?_ (fun _ => ?_))
      | exact ih0 _ _ _ _ _
      | exact LeO.none _
      | refine LeO.ite ?_ ?_
      | refine LeO.bind ?_ (fun _ => ?_)
theorem impl_bound.mono : ∀ a0 a1 k, LeO (impl_bound.f k a0 a1) (impl_bound.f (k + 1) a0 a1) := by
  intro a0 a1 k
  have ih0 := impl_bound.mono_l k
  unfold impl_bound.f
  repeat' first
      | (with_reducible exact ih0 _ _ _ _ _)
      | (with_reducible exact LeO.refl _)
      | (with_reducible exact LeO.none _)
      | (with_reducible refine LeO.ite ?_ ?_)
      | (with_reducible refine LeO.bind ?_ (fun _ => ?_))
      | exact ih0 _ _ _ _ _
      | exact LeO.none _
      | refine LeO.ite ?_ ?_
      | refine LeO.bind ?_ (fun _ => ?_)
set_option maxHeartbeats 8000000 in
set_option maxRecDepth 100000 in
theorem impl_bound.calls (k : Nat) (A0 : Option Addr) (c0 : Nat) (l0 : List (List (S43))) (a1 : Int) (r : Int) (w : World) (hr0 : Kd.C (Kd.slice 43 k43) w A0 l0.length l0) (hc0 : l0.length ≤ c0) (h : impl_bound.f k l0 a1 = some r) :
    Calls Try.prog 45 #[.slice A0 l0.length c0, .int .i64 a1] w fun e w' => e = .returned (.int .i64 r) ∧ Drawn0 w w' := by
  have HR0 := Aside0.mk hr0
  have HC0 := Aside0.mk hc0
  clear hr0 hc0
  have H : (impl_bound.l0 k a1 0 l0 (l0.length : Int) 0) = some r := h
  clear h
  have H' := Aside0.mk H
  clear H
  go_enter Try.func45, Try.ntmps45
  go_wp2
  go_loopg [5, 10] k (fun kq v5 v10 w' => ∃ (x5_1 : Int) (x10_1 : Int), v5 = .int .i64 x5_1 ∧ v10 = .int .i64 x10_1 ∧ Aside0 (impl_bound.l0 kq a1 x5_1 l0 (l0.length : Int) x10_1 = some r) ∧ Aside0 (kq ≤ k) ∧ Drawn0 w w')
  case atStart => exact ⟨(0), (0), (by first | rfl | (simp; done) | (simp [*]; done)), (by first | rfl | (simp; done) | (simp [*]; done)), H', ⟨Nat.le_refl _⟩, by repeat (first | exact Drawn0.refl _ | apply Drawn0.step)⟩
  case round =>
    clear H'
    try clear p2
    obtain ⟨x5_1, x10_1, rfl, rfl, HA, HK1, ⟨m1, rfl⟩⟩ := hrel
    cases gk with
    | zero => exact absurd HA.out (by simp [impl_bound.l0])
    | succ k1 =>
      have H := HA.out
      clear HA
      simp only [impl_bound.l0] at H
      by_cases c3 : x10_1 < (l0.length : Int)
      · rw [if_pos c3] at H
        have c3b0 : decide (x10_1 < (l0.length : Int)) = true := decide_eq_true c3
        clear c3
        by_cases c4 : 0 ≤ x10_1
        · rw [if_pos c4] at H
          have c4b0 : decide (0 ≤ x10_1) = true := decide_eq_true c4
          clear c4
          by_cases c5 : x10_1 < (l0.length : Int)
          · rw [if_pos c5] at H
            have c5b0 : decide (x10_1 < (l0.length : Int)) = true := decide_eq_true c5
            clear c5
            by_cases c6 : a1 < ((rd_L4 l0 x10_1).length : Int)
            · rw [if_pos c6] at H
              have c6b0 : decide (a1 < ((rd_L4 l0 x10_1).length : Int)) = true := decide_eq_true c6
              clear c6
              by_cases c7 : 0 ≤ a1
              · rw [if_pos c7] at H
                have c7b0 : decide (0 ≤ a1) = true := decide_eq_true c7
                clear c7
                have H' := Aside0.mk H
                clear H
                have p177 : 0 ≤ (x10_1 : Int) := of_decide_eq_true (by first | (with_reducible assumption) | assumption)
                have q177 : x10_1 < (l0.length : Int) := of_decide_eq_true (by first | (with_reducible assumption) | assumption)
                obtain ⟨ad177, A177_0, c177_0, e177, hx177_0, hl177_0, hi177_0⟩ := at_L4 HR0.out x10_1 p177 q177
                cases e177
                have HR177_0 := Aside0.mk hi177_0
                have HC177_0 := Aside0.mk hl177_0
                clear hi177_0 hl177_0
                replace p177 := eq_true p177
                replace q177 := eq_true q177
                have p178 : 0 ≤ (a1 : Int) := of_decide_eq_true (by first | (with_reducible assumption) | assumption)
                have q178 : a1 < ((rd_L4 l0 x10_1).length : Int) := of_decide_eq_true (by first | (with_reducible assumption) | assumption)
                obtain ⟨ad178, e178, hx178_0, hx178_1⟩ := at_T43 HR177_0.out a1 p178 q178
                cases e178
                replace p178 := eq_true p178
                replace q178 := eq_true q178
                go_wp2
                go_roundg k1
                case measure => have := HK1.out; omega
                case rel => exact ⟨(wrap64 (x5_1 + ((rd_T43 (rd_L4 l0 x10_1) a1).f1))), (wrap64 (x10_1 + 1)), (by first | rfl | (simp; done) | (simp [*]; done)), (by first | rfl | (simp; done) | (simp [*]; done)), H', ⟨by have := HK1.out; omega⟩, by repeat (first | exact Drawn0.refl _ | apply Drawn0.step)⟩
              · rw [if_neg c7] at H
                exact absurd H (by simp)
            · rw [if_neg c6] at H
              have c6b0 : decide (a1 < ((rd_L4 l0 x10_1).length : Int)) = false := decide_eq_false c6
              clear c6
              have H' := Aside0.mk H
              clear H
              have p177 : 0 ≤ (x10_1 : Int) := of_decide_eq_true (by first | (with_reducible assumption) | assumption)
              have q177 : x10_1 < (l0.length : Int) := of_decide_eq_true (by first | (with_reducible assumption) | assumption)
              obtain ⟨ad177, A177_0, c177_0, e177, hx177_0, hl177_0, hi177_0⟩ := at_L4 HR0.out x10_1 p177 q177
              cases e177
              have HR177_0 := Aside0.mk hi177_0
              have HC177_0 := Aside0.mk hl177_0
              clear hi177_0 hl177_0
              replace p177 := eq_true p177
              replace q177 := eq_true q177
              go_wp2
              go_roundg k1
              case measure => have := HK1.out; omega
              case rel => exact ⟨(x5_1), (wrap64 (x10_1 + 1)), (by first | rfl | (simp; done) | (simp [*]; done)), (by first | rfl | (simp; done) | (simp [*]; done)), H', ⟨by have := HK1.out; omega⟩, by repeat (first | exact Drawn0.refl _ | apply Drawn0.step)⟩
          · rw [if_neg c5] at H
            exact absurd H (by simp)
        · rw [if_neg c4] at H
          exact absurd H (by simp)
      · rw [if_neg c3] at H
        have c3b0 : decide (x10_1 < (l0.length : Int)) = false := decide_eq_false c3
        clear c3
        obtain rfl := Option.some.inj H
        go_wp2
        go_ret
        exact ⟨by first | rfl | (simp; done) | (simp [*]; done), by repeat (first | exact Drawn0.refl _ | apply Drawn0.step)⟩

end Go.Proofs.Ytehldgkpkjgocaa.Fn
namespace Go.Proofs.Ytehldgkpkjgocaa.Fn
open Go.RowKit Go.Proofs.YtehldgkpkjgocaaW.PrintWords Go.Proofs.YtehldgkpkjgocaaW.PrintLast Go.Proofs.YtehldgkpkjgocaaW.PrintMore
attribute [local go_sem] max2_int min2_int max_two min_two max_three min_three max_four min_four   -- for this text's walks alone
set_option linter.unusedVariables false
set_option linter.unusedSimpArgs false

/-! ### impl_BoundAt: function 21 -/
def impl_BoundAt.f (k : Nat) (l0 : List (List (S43))) (a1 : Int) : Option (Int × Bool) := (impl_areRows.f k l0).bind fun t179 => (if t179 = true then ((impl_within.f a1 0 20).bind fun t180 => (if t180 = true then ((impl_bound.f k l0 a1).bind fun t181 => (some (t181, true))) else (some (0, false)))) else (some (0, false)))
theorem impl_BoundAt.mono : ∀ a0 a1 k, LeO (impl_BoundAt.f k a0 a1) (impl_BoundAt.f (k + 1) a0 a1) := by
  intro a0 a1 k
  unfold impl_BoundAt.f
  repeat' first
      | (with_reducible exact impl_areRows.mono _ _)
      | (with_reducible exact impl_bound.mono _ _ _)
      | (with_reducible exact LeO.refl _)
      | (with_reducible exact LeO.none _)
      | (with_reducible refine LeO.ite ?_ ?_)
      | (with_reducible refine LeO.bind ?_ (fun _ => ?_))
      | exact impl_areRows.mono _ _
      | exact impl_bound.mono _ _ _
      | exact LeO.none _
      | refine LeO.ite ?_ ?_
      | refine LeO.bind ?_ (fun _ => ?_)
set_option maxHeartbeats 8000000 in
set_option maxRecDepth 100000 in
theorem impl_BoundAt.calls (k : Nat) (A0 : Option Addr) (c0 : Nat) (l0 : List (List (S43))) (a1 : Int) (r1 : Int) (r2 : Bool) (w : World) (hr0 : Kd.C (Kd.slice 43 k43) w A0 l0.length l0) (hc0 : l0.length ≤ c0) (h : impl_BoundAt.f k l0 a1 = some (r1, r2)) :
    Calls Try.prog 21 #[.slice A0 l0.length c0, .int .i64 a1] w fun e w' => e = .returned (.tuple #[.int .i64 r1, .bool r2]) ∧ Below w.heap.size w w' := by
  have HR0 := Aside0.mk hr0
  have HC0 := Aside0.mk hc0
  clear hr0 hc0
  have HB := Aside0.mk (Below.refl w.heap.size w)
  have H : ((impl_areRows.f k l0).bind fun t179 => (if t179 = true then ((impl_within.f a1 0 20).bind fun t180 => (if t180 = true then ((impl_bound.f k l0 a1).bind fun t181 => (some (t181, true))) else (some (0, false)))) else (some (0, false)))) = some (r1, r2) := h
  clear h
  replace H := Option.bind_eq_some_iff.mp H
  obtain ⟨t179, A30, H⟩ := H
  replace H : (if t179 = true then ((impl_within.f a1 0 20).bind fun t180 => (if t180 = true then ((impl_bound.f k l0 a1).bind fun t181 => (some (t181, true))) else (some (0, false)))) else (some (0, false))) = some (r1, r2) := H
  have A3 := Aside0.mk A30
  clear A30
  by_cases c4 : t179 = true
  · subst c4
    have H1 : ((impl_within.f a1 0 20).bind fun t180 => (if t180 = true then ((impl_bound.f k l0 a1).bind fun t181 => (some (t181, true))) else (some (0, false)))) = some (r1, r2) := by rw [if_pos rfl] at H; exact H
    clear H
    have H := H1
    clear H1
    replace H := Option.bind_eq_some_iff.mp H
    obtain ⟨t180, A50, H⟩ := H
    replace H : (if t180 = true then ((impl_bound.f k l0 a1).bind fun t181 => (some (t181, true))) else (some (0, false))) = some (r1, r2) := H
    have A5 := Aside0.mk A50
    clear A50
    by_cases c6 : t180 = true
    · subst c6
      have H1 : ((impl_bound.f k l0 a1).bind fun t181 => (some (t181, true))) = some (r1, r2) := by rw [if_pos rfl] at H; exact H
      clear H
      have H := H1
      clear H1
      replace H := Option.bind_eq_some_iff.mp H
      obtain ⟨t181, A70, H⟩ := H
      replace H : (some (t181, true)) = some (r1, r2) := H
      have A7 := Aside0.mk A70
      clear A70
      simp only [Option.some.injEq, Prod.mk.injEq] at H
      obtain ⟨rfl, rfl⟩ := H
      go_enter Try.func21, Try.ntmps21
      go_wp2_with (first | ((with_reducible refine gate_callee (f := 42) rfl ?_); refine goesL_ (some 7) rfl rfl Try.func42 (by kernel_rfl) rfl #[.slice A0 l0.length c0] rfl (by (try simp only [List.map_toArray, List.map_cons, List.map_nil]); first | done | rfl | (simp only [List.length_drop, List.length_take]; rfl)) ?_; (with_reducible refine (impl_areRows.calls k _ _ l0 true _ ?side1 ?side2 A3.out).mono ?_); (case side1 => repeat (first | exact HR0.out | (with_reducible refine Kd.C_alloc ?_ _) | (with_reducible refine Kd.C_drewN ?_ _) | (with_reducible refine Kd.C_drew ?_))); (case side2 => exact HC0.out); rintro e w8 ⟨rfl, hb⟩; refine ⟨_, rfl, ?_⟩; have n0_ := Aside0.mk (below_step (by repeat (first | (with_reducible first | exact HB.out | apply below_alloc | apply pw_below_drewN | apply below_drew1) | exact HB.out)) hb); clear HB; have HB := n0_; clear n0_; (try clear hb); (try clear hb2); (try clear hk); (try clear hi)) | (go_at_call 37; (with_reducible refine (impl_within.calls a1 0 20 true _ A5.out).mono ?_); rintro e w' ⟨rfl, ⟨nd, rfl⟩⟩) | ((with_reducible refine gate_callee (f := 45) rfl ?_); refine goesL_ (some 16) rfl rfl Try.func45 (by kernel_rfl) rfl #[.slice A0 l0.length c0, .int .i64 a1] rfl (by (try simp only [List.map_toArray, List.map_cons, List.map_nil]); first | done | rfl | (simp only [List.length_drop, List.length_take]; rfl)) ?_; (with_reducible refine (impl_bound.calls k _ _ l0 a1 t181 _ ?side1 ?side2 A7.out).mono ?_); (case side1 => repeat (first | exact (Kd.C_below HR0.out (by repeat (first | (with_reducible first | exact HB.out | apply below_alloc | apply pw_below_drewN | apply below_drew1) | exact HB.out))) | (with_reducible refine Kd.C_alloc ?_ _) | (with_reducible refine Kd.C_drewN ?_ _) | (with_reducible refine Kd.C_drew ?_))); (case side2 => exact HC0.out); rintro e w' ⟨rfl, ⟨nd, rfl⟩⟩; refine ⟨_, rfl, ?_⟩))
      go_ret2
      exact ⟨by first | rfl | (simp [errW_none, errW_some] <;> rfl) | (simp [*, errW_none, errW_some] <;> rfl), by repeat (first | (with_reducible first | exact HB.out | apply below_alloc | apply pw_below_drewN | apply below_drew1) | exact HB.out)⟩
    · replace c6 := Bool.eq_false_iff.mpr c6
      subst c6
      have H1 : (some (0, false)) = some (r1, r2) := by rw [if_neg (show ¬ (false = true) by decide)] at H; exact H
      clear H
      have H := H1
      clear H1
      simp only [Option.some.injEq, Prod.mk.injEq] at H
      obtain ⟨rfl, rfl⟩ := H
      go_enter Try.func21, Try.ntmps21
      go_wp2_with (first | ((with_reducible refine gate_callee (f := 42) rfl ?_); refine goesL_ (some 7) rfl rfl Try.func42 (by kernel_rfl) rfl #[.slice A0 l0.length c0] rfl (by (try simp only [List.map_toArray, List.map_cons, List.map_nil]); first | done | rfl | (simp only [List.length_drop, List.length_take]; rfl)) ?_; (with_reducible refine (impl_areRows.calls k _ _ l0 true _ ?side1 ?side2 A3.out).mono ?_); (case side1 => repeat (first | exact HR0.out | (with_reducible refine Kd.C_alloc ?_ _) | (with_reducible refine Kd.C_drewN ?_ _) | (with_reducible refine Kd.C_drew ?_))); (case side2 => exact HC0.out); rintro e w9 ⟨rfl, hb⟩; refine ⟨_, rfl, ?_⟩; have n0_ := Aside0.mk (below_step (by repeat (first | (with_reducible first | exact HB.out | apply below_alloc | apply pw_below_drewN | apply below_drew1) | exact HB.out)) hb); clear HB; have HB := n0_; clear n0_; (try clear hb); (try clear hb2); (try clear hk); (try clear hi)) | (go_at_call 37; (with_reducible refine (impl_within.calls a1 0 20 false _ A5.out).mono ?_); rintro e w' ⟨rfl, ⟨nd, rfl⟩⟩))
      go_ret2
      exact ⟨by first | rfl | (simp [errW_none, errW_some] <;> rfl) | (simp [*, errW_none, errW_some] <;> rfl), by repeat (first | (with_reducible first | exact HB.out | apply below_alloc | apply pw_below_drewN | apply below_drew1) | exact HB.out)⟩
  · replace c4 := Bool.eq_false_iff.mpr c4
    subst c4
    have H1 : (some (0, false)) = some (r1, r2) := by rw [if_neg (show ¬ (false = true) by decide)] at H; exact H
    clear H
    have H := H1
    clear H1
    simp only [Option.some.injEq, Prod.mk.injEq] at H
    obtain ⟨rfl, rfl⟩ := H
    go_enter Try.func21, Try.ntmps21
    go_wp2_with (first | ((with_reducible refine gate_callee (f := 42) rfl ?_); refine goesL_ (some 7) rfl rfl Try.func42 (by kernel_rfl) rfl #[.slice A0 l0.length c0] rfl (by (try simp only [List.map_toArray, List.map_cons, List.map_nil]); first | done | rfl | (simp only [List.length_drop, List.length_take]; rfl)) ?_; (with_reducible refine (impl_areRows.calls k _ _ l0 false _ ?side1 ?side2 A3.out).mono ?_); (case side1 => repeat (first | exact HR0.out | (with_reducible refine Kd.C_alloc ?_ _) | (with_reducible refine Kd.C_drewN ?_ _) | (with_reducible refine Kd.C_drew ?_))); (case side2 => exact HC0.out); rintro e w10 ⟨rfl, hb⟩; refine ⟨_, rfl, ?_⟩; have n0_ := Aside0.mk (below_step (by repeat (first | (with_reducible first | exact HB.out | apply below_alloc | apply pw_below_drewN | apply below_drew1) | exact HB.out)) hb); clear HB; have HB := n0_; clear n0_; (try clear hb); (try clear hb2); (try clear hk); (try clear hi)))
    go_ret2
    exact ⟨by first | rfl | (simp [errW_none, errW_some] <;> rfl) | (simp [*, errW_none, errW_some] <;> rfl), by repeat (first | (with_reducible first | exact HB.out | apply below_alloc | apply pw_below_drewN | apply below_drew1) | exact HB.out)⟩

end Go.Proofs.Ytehldgkpkjgocaa.Fn
namespace Go.Proofs.Ytehldgkpkjgocaa.Fn
open Go.RowKit Go.Proofs.YtehldgkpkjgocaaW.PrintWords Go.Proofs.YtehldgkpkjgocaaW.PrintLast Go.Proofs.YtehldgkpkjgocaaW.PrintMore
attribute [local go_sem] max2_int min2_int max_two min_two max_three min_three max_four min_four   -- for this text's walks alone
set_option linter.unusedVariables false
set_option linter.unusedSimpArgs false

/-! ### laws_FnExactBoundAt: function 5 -/
def laws_FnExactBoundAt.j0 : Nat → List (List (S40)) → List (List (S43)) → Bool → Option (Bool)
  | 0, _, _, _ => none
  | k + 1, x0, x8, x38 => if x38 = true then (some false) else ((laws_toScoreSS.f k x0).bind fun t193 => ((laws_eqScoreSS.f k x8 t193).bind fun t196 => (if t196 = true then (some true) else (some false))))
def laws_FnExactBoundAt.f (k : Nat) (l0 : List (List (S40))) (a1 : Int) : Option (Bool) := (laws_szScoreSS.f k l0 1048576).bind fun t182 => (if t182 < 0 then (some true) else ((laws_toScoreSS.f k l0).bind fun t183 => ((spec_BoundAt.f k t183 a1).bind fun bt186 => ((laws_toScoreSS.f k l0).bind fun t188 => ((impl_BoundAt.f k t188 a1).bind fun bt191 => (if bt191.1 = bt186.1 then (laws_FnExactBoundAt.j0 k l0 t188 (bt191.2 != bt186.2)) else (laws_FnExactBoundAt.j0 k l0 t188 true)))))))
theorem laws_FnExactBoundAt.mono_l : ∀ k, (∀ y0 y1 y2, LeO (laws_FnExactBoundAt.j0 k y0 y1 y2) (laws_FnExactBoundAt.j0 (k + 1) y0 y1 y2))
  | 0 => fun _ _ _ r h => by simp [laws_FnExactBoundAt.j0] at h
  | k + 1 => by
    have ih0 := laws_FnExactBoundAt.mono_l k
    · intro y0 y1 y2
      unfold laws_FnExactBoundAt.j0
      repeat' first
      | (with_reducible exact ih0 _ _ _)
      | (with_reducible exact impl_BoundAt.mono _ _ _)
      | (with_reducible exact laws_eqScoreSS.mono _ _ _)
      | (with_reducible exact laws_szScoreSS.mono _ _ _)
      | (with_reducible exact laws_toScoreSS.mono _ _)
      | (with_reducible exact spec_BoundAt.mono _ _ _)
      | (with_reducible exact LeO.refl _)
      | (with_reducible exact LeO.none _)
      | (with_reducible refine LeO.ite ?_ ?_)
      | (with_reducible refine LeO.bind ?_ (fun _ => ?_))
      | exact ih0 _ _ _
      | exact impl_BoundAt.mono _ _ _
      | exact laws_eqScoreSS.mono _ _ _
      | exact laws_szScoreSS.mono _ _ _
      | exact laws_toScoreSS.mono _ _
      | exact spec_BoundAt.mono _ _ _
      | exact LeO.none _
      | refine LeO.ite ?_ ?_
      | refine LeO.bind ?_ (fun _ => ?_)
theorem laws_FnExactBoundAt.mono : ∀ a0 a1 k, LeO (laws_FnExactBoundAt.f k a0 a1) (laws_FnExactBoundAt.f (k + 1) a0 a1) := by
  intro a0 a1 k
  have ih0 := laws_FnExactBoundAt.mono_l k
  unfold laws_FnExactBoundAt.f
  repeat' first
      | (with_reducible exact ih0 _ _ _)
      | (with_reducible exact impl_BoundAt.mono _ _ _)
      | (with_reducible exact laws_eqScoreSS.mono _ _ _)
      | (with_reducible exact laws_szScoreSS.mono _ _ _)
      | (with_reducible exact laws_toScoreSS.mono _ _)
      | (with_reducible exact spec_BoundAt.mono _ _ _)
      | (with_reducible exact LeO.refl _)
      | (with_reducible exact LeO.none _)
      | (with_reducible refine LeO.ite ?_ ?_)
      | (with_reducible refine LeO.bind ?_ (fun _ => ?_))
      | exact ih0 _ _ _
      | exact impl_BoundAt.mono _ _ _
      | exact laws_eqScoreSS.mono _ _ _
      | exact laws_szScoreSS.mono _ _ _
      | exact laws_toScoreSS.mono _ _
      | exact spec_BoundAt.mono _ _ _
      | exact LeO.none _
      | refine LeO.ite ?_ ?_
      | refine LeO.bind ?_ (fun _ => ?_)
set_option maxHeartbeats 8000000 in
set_option maxRecDepth 100000 in
theorem laws_FnExactBoundAt.calls (k : Nat) (A0 : Option Addr) (c0 : Nat) (l0 : List (List (S40))) (a1 : Int) (r : Bool) (w : World) (hr0 : Kd.C (Kd.slice 40 k40) w A0 l0.length l0) (hc0 : l0.length ≤ c0) (h : laws_FnExactBoundAt.f k l0 a1 = some r) (ht : r = true) :
    Calls Try.prog 5 #[.slice A0 l0.length c0, .int .i64 a1] w fun e w' => e = .returned (.bool r) ∧ Below w.heap.size w w' := by
  have HT := Aside0.mk ht
  clear ht
  have HR0 := Aside0.mk hr0
  have HC0 := Aside0.mk hc0
  clear hr0 hc0
  have HB := Aside0.mk (Below.refl w.heap.size w)
  have H : ((laws_szScoreSS.f k l0 1048576).bind fun t182 => (if t182 < 0 then (some true) else ((laws_toScoreSS.f k l0).bind fun t183 => ((spec_BoundAt.f k t183 a1).bind fun bt186 => ((laws_toScoreSS.f k l0).bind fun t188 => ((impl_BoundAt.f k t188 a1).bind fun bt191 => (if bt191.1 = bt186.1 then (laws_FnExactBoundAt.j0 k l0 t188 (bt191.2 != bt186.2)) else (laws_FnExactBoundAt.j0 k l0 t188 true)))))))) = some r := h
  clear h
  replace H := Option.bind_eq_some_iff.mp H
  obtain ⟨t182, A30, H⟩ := H
  replace H : (if t182 < 0 then (some true) else ((laws_toScoreSS.f k l0).bind fun t183 => ((spec_BoundAt.f k t183 a1).bind fun bt186 => ((laws_toScoreSS.f k l0).bind fun t188 => ((impl_BoundAt.f k t188 a1).bind fun bt191 => (if bt191.1 = bt186.1 then (laws_FnExactBoundAt.j0 k l0 t188 (bt191.2 != bt186.2)) else (laws_FnExactBoundAt.j0 k l0 t188 true))))))) = some r := H
  have A3 := Aside0.mk A30
  clear A30
  by_cases c4 : t182 < 0
  · rw [if_pos c4] at H
    have c4b0 : decide (t182 < 0) = true := decide_eq_true c4
    clear c4
    obtain rfl := Option.some.inj H
    go_enter Try.func5, Try.ntmps5
    go_wp2_with (first | ((with_reducible refine gate_callee (f := 15) rfl ?_); refine goesL_ (some 13) rfl rfl Try.func15 (by kernel_rfl) rfl #[.slice A0 l0.length c0, .int .i64 1048576] rfl (by (try simp only [List.map_toArray, List.map_cons, List.map_nil]); first | done | rfl | (simp only [List.length_drop, List.length_take]; rfl)) ?_; (with_reducible refine (laws_szScoreSS.calls k _ _ l0 1048576 t182 _ ?side1 ?side2 A3.out).mono ?_); (case side1 => repeat (first | exact HR0.out | (with_reducible refine Kd.C_alloc ?_ _) | (with_reducible refine Kd.C_drewN ?_ _) | (with_reducible refine Kd.C_drew ?_))); (case side2 => exact HC0.out); rintro e w' ⟨rfl, ⟨nd, rfl⟩⟩; refine ⟨_, rfl, ?_⟩))
    go_ret
    exact ⟨by first | rfl | (simp [errW_none, errW_some] <;> rfl) | (simp [*, errW_none, errW_some] <;> rfl), by repeat (first | (with_reducible first | exact HB.out | apply below_alloc | apply pw_below_drewN | apply below_drew1) | exact HB.out)⟩
  · rw [if_neg c4] at H
    have c4b0 : decide (t182 < 0) = false := decide_eq_false c4
    clear c4
    replace H := Option.bind_eq_some_iff.mp H
    obtain ⟨t183, A50, H⟩ := H
    replace H : ((spec_BoundAt.f k t183 a1).bind fun bt186 => ((laws_toScoreSS.f k l0).bind fun t188 => ((impl_BoundAt.f k t188 a1).bind fun bt191 => (if bt191.1 = bt186.1 then (laws_FnExactBoundAt.j0 k l0 t188 (bt191.2 != bt186.2)) else (laws_FnExactBoundAt.j0 k l0 t188 true))))) = some r := H
    have A5 := Aside0.mk A50
    clear A50
    replace H := Option.bind_eq_some_iff.mp H
    obtain ⟨⟨t186, t187⟩, A60, H⟩ := H
    replace H : ((laws_toScoreSS.f k l0).bind fun t188 => ((impl_BoundAt.f k t188 a1).bind fun bt191 => (if bt191.1 = t186 then (laws_FnExactBoundAt.j0 k l0 t188 (bt191.2 != t187)) else (laws_FnExactBoundAt.j0 k l0 t188 true)))) = some r := H
    have A6 := Aside0.mk A60
    clear A60
    replace H := Option.bind_eq_some_iff.mp H
    obtain ⟨t188, A70, H⟩ := H
    replace H : ((impl_BoundAt.f k t188 a1).bind fun bt191 => (if bt191.1 = t186 then (laws_FnExactBoundAt.j0 k l0 t188 (bt191.2 != t187)) else (laws_FnExactBoundAt.j0 k l0 t188 true))) = some r := H
    have A7 := Aside0.mk A70
    clear A70
    replace H := Option.bind_eq_some_iff.mp H
    obtain ⟨⟨t191, t192⟩, A80, H⟩ := H
    replace H : (if t191 = t186 then (laws_FnExactBoundAt.j0 k l0 t188 (t192 != t187)) else (laws_FnExactBoundAt.j0 k l0 t188 true)) = some r := H
    have A8 := Aside0.mk A80
    clear A80
    have HC9 := Aside0.mk H
    clear H
    go_enter Try.func5, Try.ntmps5
    go_upto_region 8 with (first | ((with_reducible refine gate_callee (f := 15) rfl ?_); refine goesL_ (some 13) rfl rfl Try.func15 (by kernel_rfl) rfl #[.slice A0 l0.length c0, .int .i64 1048576] rfl (by (try simp only [List.map_toArray, List.map_cons, List.map_nil]); first | done | rfl | (simp only [List.length_drop, List.length_take]; rfl)) ?_; (with_reducible refine (laws_szScoreSS.calls k _ _ l0 1048576 t182 _ ?side1 ?side2 A3.out).mono ?_); (case side1 => repeat (first | exact HR0.out | (with_reducible refine Kd.C_alloc ?_ _) | (with_reducible refine Kd.C_drewN ?_ _) | (with_reducible refine Kd.C_drew ?_))); (case side2 => exact HC0.out); rintro e w' ⟨rfl, ⟨nd, rfl⟩⟩; refine ⟨_, rfl, ?_⟩) | ((with_reducible refine gate_callee (f := 17) rfl ?_); refine goesL_ (some 18) rfl rfl Try.func17 (by kernel_rfl) rfl #[.slice A0 l0.length c0] rfl (by (try simp only [List.map_toArray, List.map_cons, List.map_nil]); first | done | rfl | (simp only [List.length_drop, List.length_take]; rfl)) ?_; (with_reducible refine (laws_toScoreSS.calls k _ _ l0 t183 _ ?side1 ?side2 A5.out).mono ?_); (case side1 => repeat (first | exact HR0.out | (with_reducible refine Kd.C_alloc ?_ _) | (with_reducible refine Kd.C_drewN ?_ _) | (with_reducible refine Kd.C_drew ?_))); (case side2 => exact HC0.out); rintro e w10 ⟨v184, rfl, ho0, hb⟩; refine ⟨_, rfl, ?_⟩; have n0_ := Aside0.mk (Kd.S_lower ho0 (below_size (by repeat (first | (with_reducible first | exact HB.out | apply below_alloc | apply pw_below_drewN | apply below_drew1) | exact HB.out)))); have n1_ := Aside0.mk (below_step (by repeat (first | (with_reducible first | exact HB.out | apply below_alloc | apply pw_below_drewN | apply below_drew1) | exact HB.out)) hb); clear HB; have HO185 := n0_; have HB := n1_; clear n0_ n1_; (try clear hb); (try clear hb2); (try clear hk); (try clear hi); (try clear ho0); obtain ⟨Ao11, co11, eo11⟩ := Kd.S_slice HO185.out; subst eo11) | ((with_reducible refine gate_callee (f := 20) rfl ?_); refine goesL_ (some 20) rfl rfl Try.func20 (by kernel_rfl) rfl #[.slice Ao11 t183.length co11, .int .i64 a1] rfl (by (try simp only [List.map_toArray, List.map_cons, List.map_nil]); first | done | rfl | (simp only [List.length_drop, List.length_take]; rfl)) ?_; (with_reducible refine (spec_BoundAt.calls k _ _ t183 a1 t186 t187 _ ?side1 ?side2 A6.out).mono ?_); (case side1 => repeat (first | exact (Kd.S_reads' HO185.out).2.2 | (with_reducible refine Kd.C_alloc ?_ _) | (with_reducible refine Kd.C_drewN ?_ _) | (with_reducible refine Kd.C_drew ?_))); (case side2 => exact (Kd.S_reads' HO185.out).2.1); rintro e w12 ⟨rfl, hb⟩; refine ⟨_, rfl, ?_⟩; have n0_ := Aside0.mk (Kd.S_below (by (with_reducible repeat (first | apply Kd.S_alloc | apply Kd.S_drewN | apply Kd.S_drew)); exact HO185.out) hb); have n1_ := Aside0.mk (below_step (by repeat (first | (with_reducible first | exact HB.out | apply below_alloc | apply pw_below_drewN | apply below_drew1) | exact HB.out)) hb); clear HO185; clear HB; have HO185 := n0_; have HB := n1_; clear n0_ n1_; (try clear hb); (try clear hb2); (try clear hk); (try clear hi)) | ((with_reducible refine gate_callee (f := 17) rfl ?_); refine goesL_ (some 24) rfl rfl Try.func17 (by kernel_rfl) rfl #[.slice A0 l0.length c0] rfl (by (try simp only [List.map_toArray, List.map_cons, List.map_nil]); first | done | rfl | (simp only [List.length_drop, List.length_take]; rfl)) ?_; (with_reducible refine (laws_toScoreSS.calls k _ _ l0 t188 _ ?side1 ?side2 A7.out).mono ?_); (case side1 => repeat (first | exact (Kd.C_below HR0.out HB.out) | (with_reducible refine Kd.C_alloc ?_ _) | (with_reducible refine Kd.C_drewN ?_ _) | (with_reducible refine Kd.C_drew ?_))); (case side2 => exact HC0.out); rintro e w13 ⟨v189, rfl, ho0, hb⟩; refine ⟨_, rfl, ?_⟩; have n0_ := Aside0.mk (Kd.S_elder' (by (with_reducible repeat (first | apply Kd.S_alloc | apply Kd.S_drewN | apply Kd.S_drew)); exact HO185.out) (Kd.S_base ho0) hb); have n1_ := Aside0.mk (Kd.S_lower (Kd.S_new' ho0 (Kd.S_lt (by (with_reducible repeat (first | apply Kd.S_alloc | apply Kd.S_drewN | apply Kd.S_drew)); exact HO185.out))) (below_size (by repeat (first | (with_reducible first | exact HB.out | apply below_alloc | apply pw_below_drewN | apply below_drew1) | exact HB.out)))); have n2_ := Aside0.mk (below_step (by repeat (first | (with_reducible first | exact HB.out | apply below_alloc | apply pw_below_drewN | apply below_drew1) | exact HB.out)) hb); clear HO185; clear HB; have HO185 := n0_; have HO190 := n1_; have HB := n2_; clear n0_ n1_ n2_; (try clear hb); (try clear hb2); (try clear hk); (try clear hi); (try clear ho0); obtain ⟨Ao14, co14, eo14⟩ := Kd.S_slice HO190.out; subst eo14) | ((with_reducible refine gate_callee (f := 21) rfl ?_); refine goesL_ (some 28) rfl rfl Try.func21 (by kernel_rfl) rfl #[.slice Ao14 t188.length co14, .int .i64 a1] rfl (by (try simp only [List.map_toArray, List.map_cons, List.map_nil]); first | done | rfl | (simp only [List.length_drop, List.length_take]; rfl)) ?_; (with_reducible refine (impl_BoundAt.calls k _ _ t188 a1 t191 t192 _ ?side1 ?side2 A8.out).mono ?_); (case side1 => repeat (first | exact (Kd.S_reads' HO190.out).2.2 | (with_reducible refine Kd.C_alloc ?_ _) | (with_reducible refine Kd.C_drewN ?_ _) | (with_reducible refine Kd.C_drew ?_))); (case side2 => exact (Kd.S_reads' HO190.out).2.1); rintro e w15 ⟨rfl, hb⟩; refine ⟨_, rfl, ?_⟩; have n0_ := Aside0.mk (Kd.S_below (by (with_reducible repeat (first | apply Kd.S_alloc | apply Kd.S_drewN | apply Kd.S_drew)); exact HO185.out) hb); have n1_ := Aside0.mk (Kd.S_below (by (with_reducible repeat (first | apply Kd.S_alloc | apply Kd.S_drewN | apply Kd.S_drew)); exact HO190.out) hb); have n2_ := Aside0.mk (below_step (by repeat (first | (with_reducible first | exact HB.out | apply below_alloc | apply pw_below_drewN | apply below_drew1) | exact HB.out)) hb); clear HO185; clear HO190; clear HB; have HO185 := n0_; have HO190 := n1_; have HB := n2_; clear n0_ n1_ n2_; (try clear hb); (try clear hb2); (try clear hk); (try clear hi)))
    (try simp only [Act.put, List.setIfInBounds_toArray, List.set_cons_zero, List.set_cons_succ])
    go_cut [38] (fun v38 wc => ∃ (kq : Nat) (x38_8 : Bool), v38 = .bool x38_8 ∧ Aside0 (laws_FnExactBoundAt.j0 kq l0 t188 x38_8 = some r) ∧ Aside0 (kq ≤ k) ∧ Aside0 (Kd.S (Kd.slice 43 k43) 25 wc w.heap.size (fun _ => True) (.slice Ao14 t188.length co14) t188) ∧ Aside0 (Below w.heap.size w wc))
    case first =>
      have H := HC9.out
      clear HC9
      by_cases c16 : t191 = t186
      · rw [if_pos c16] at H
        have c16b0 : (t191 == t186) = true := beq_iff_eq.mpr c16
        have c16b1 : (t191 != t186) = false := bne_eq_false_iff_eq.mpr c16
        clear c16
        (first | rw [c16b0] | (simp only [i64_w, i32_w]; rw [c16b0]) | rw [c16b1] | skip)
        have H' := Aside0.mk H
        clear H
        go_wp2
        go_meet
        case rel => exact ⟨_, ((t192 != t187)), (by first | rfl | (simp; done) | (simp [*]; done)), H', ⟨by first | omega | exact Nat.le_refl _⟩, ⟨by (with_reducible repeat (first | apply Kd.S_alloc | apply Kd.S_drewN | apply Kd.S_drew)); exact Kd.S_mono HO190.out (fun _ hk => trivial)⟩, ⟨by repeat (first | (with_reducible first | exact HB.out | apply below_alloc | apply pw_below_drewN | apply below_drew1) | exact HB.out)⟩⟩
      · rw [if_neg c16] at H
        have c16b0 : (t191 == t186) = false := beq_eq_false_iff_ne.mpr c16
        have c16b1 : (t191 != t186) = true := bne_iff_ne.mpr c16
        (first | rw [c16b0] | (simp only [i64_w, i32_w]; rw [c16b0]) | rw [c16b1] | skip)
        exact (Go.Proofs.Ytehldgkpkjgocaa.Gen.no_true H (by cases k <;> simp [laws_FnExactBoundAt.j0]) HT.out).elim
    case rest =>
      clear HC9
      try clear c1
      try clear c2
      try clear p2
      try clear c4
      try clear c4b0
      try clear c5
      try clear c15
      try clear c16
      try clear c16b0
      try clear c16b1
      obtain ⟨kq, x38_8, rfl, HA, HJ8, HO_8, HB⟩ := hcut
      cases kq with
      | zero => exact absurd HA.out (by simp [laws_FnExactBoundAt.j0])
      | succ kj8 =>
        have H := HA.out
        clear HA
        simp only [laws_FnExactBoundAt.j0] at H
        by_cases c17 : x38_8 = true
        · subst c17
          have H1 : (some false) = some r := by rw [if_pos rfl] at H; exact H
          clear H
          have H := H1
          clear H1
          exact absurd HT.out (by have H9 := Option.some.inj H; rw [← H9]; decide)
        · replace c17 := Bool.eq_false_iff.mpr c17
          subst c17
          have H1 : ((laws_toScoreSS.f kj8 l0).bind fun t193 => ((laws_eqScoreSS.f kj8 t188 t193).bind fun t196 => (if t196 = true then (some true) else (some false)))) = some r := by rw [if_neg (show ¬ (false = true) by decide)] at H; exact H
          clear H
          have H := H1
          clear H1
          replace H := Option.bind_eq_some_iff.mp H
          obtain ⟨t193, A180, H⟩ := H
          replace H : ((laws_eqScoreSS.f kj8 t188 t193).bind fun t196 => (if t196 = true then (some true) else (some false))) = some r := H
          have A18 := Aside0.mk A180
          clear A180
          replace H := Option.bind_eq_some_iff.mp H
          obtain ⟨t196, A190, H⟩ := H
          replace H : (if t196 = true then (some true) else (some false)) = some r := H
          have A19 := Aside0.mk A190
          clear A190
          by_cases c20 : t196 = true
          · subst c20
            have H1 : (some true) = some r := by rw [if_pos rfl] at H; exact H
            clear H
            have H := H1
            clear H1
            obtain rfl := Option.some.inj H
            go_wp2_with (first | ((with_reducible refine gate_callee (f := 17) rfl ?_); refine goesL_ (some 41) rfl rfl Try.func17 (by kernel_rfl) rfl #[.slice A0 l0.length c0] rfl (by (try simp only [List.map_toArray, List.map_cons, List.map_nil]); first | done | rfl | (simp only [List.length_drop, List.length_take]; rfl)) ?_; (with_reducible refine (laws_toScoreSS.calls kj8 _ _ l0 t193 _ ?side1 ?side2 A18.out).mono ?_); (case side1 => repeat (first | exact (Kd.C_below HR0.out HB.out) | (with_reducible refine Kd.C_alloc ?_ _) | (with_reducible refine Kd.C_drewN ?_ _) | (with_reducible refine Kd.C_drew ?_))); (case side2 => exact HC0.out); rintro e w21 ⟨v194, rfl, ho0, hb⟩; refine ⟨_, rfl, ?_⟩; have n0_ := Aside0.mk (Kd.S_elder' (by (with_reducible repeat (first | apply Kd.S_alloc | apply Kd.S_drewN | apply Kd.S_drew)); exact HO_8.out) (Kd.S_base ho0) hb); have n1_ := Aside0.mk (Kd.S_lower (Kd.S_new' ho0 (Kd.S_lt (by (with_reducible repeat (first | apply Kd.S_alloc | apply Kd.S_drewN | apply Kd.S_drew)); exact HO_8.out))) (below_size (by repeat (first | (with_reducible first | exact HB.out | apply below_alloc | apply pw_below_drewN | apply below_drew1) | exact HB.out)))); have n2_ := Aside0.mk (below_step (by repeat (first | (with_reducible first | exact HB.out | apply below_alloc | apply pw_below_drewN | apply below_drew1) | exact HB.out)) hb); clear HO_8; clear HB; have HO_8 := n0_; have HO195 := n1_; have HB := n2_; clear n0_ n1_ n2_; (try clear hb); (try clear hb2); (try clear hk); (try clear hi); (try clear ho0); obtain ⟨Ao22, co22, eo22⟩ := Kd.S_slice HO195.out; subst eo22) | ((with_reducible refine gate_callee (f := 19) rfl ?_); refine goesL_ (some 42) rfl rfl Try.func19 (by kernel_rfl) rfl #[.slice Ao14 t188.length co14, .slice Ao22 t193.length co22] rfl (by (try simp only [List.map_toArray, List.map_cons, List.map_nil]); first | done | rfl | (simp only [List.length_drop, List.length_take]; rfl)) ?_; (with_reducible refine (laws_eqScoreSS.calls kj8 _ _ t188 _ _ t193 true _ ?side1 ?side2 ?side3 ?side4 A19.out).mono ?_); (case side1 => repeat (first | exact (Kd.S_reads' HO_8.out).2.2 | (with_reducible refine Kd.C_alloc ?_ _) | (with_reducible refine Kd.C_drewN ?_ _) | (with_reducible refine Kd.C_drew ?_))); (case side2 => exact (Kd.S_reads' HO_8.out).2.1); (case side3 => repeat (first | exact (Kd.S_reads' HO195.out).2.2 | (with_reducible refine Kd.C_alloc ?_ _) | (with_reducible refine Kd.C_drewN ?_ _) | (with_reducible refine Kd.C_drew ?_))); (case side4 => exact (Kd.S_reads' HO195.out).2.1); rintro e w23 ⟨rfl, hb⟩; refine ⟨_, rfl, ?_⟩; have n0_ := Aside0.mk (Kd.S_below (by (with_reducible repeat (first | apply Kd.S_alloc | apply Kd.S_drewN | apply Kd.S_drew)); exact HO_8.out) hb); have n1_ := Aside0.mk (Kd.S_below (by (with_reducible repeat (first | apply Kd.S_alloc | apply Kd.S_drewN | apply Kd.S_drew)); exact HO195.out) hb); have n2_ := Aside0.mk (below_step (by repeat (first | (with_reducible first | exact HB.out | apply below_alloc | apply pw_below_drewN | apply below_drew1) | exact HB.out)) hb); clear HO_8; clear HO195; clear HB; have HO_8 := n0_; have HO195 := n1_; have HB := n2_; clear n0_ n1_ n2_; (try clear hb); (try clear hb2); (try clear hk); (try clear hi)))
            go_ret
            exact ⟨by first | rfl | (simp [errW_none, errW_some] <;> rfl) | (simp [*, errW_none, errW_some] <;> rfl), by repeat (first | (with_reducible first | exact HB.out | apply below_alloc | apply pw_below_drewN | apply below_drew1) | exact HB.out)⟩
          · replace c20 := Bool.eq_false_iff.mpr c20
            subst c20
            have H1 : (some false) = some r := by rw [if_neg (show ¬ (false = true) by decide)] at H; exact H
            clear H
            have H := H1
            clear H1
            exact absurd HT.out (by have H9 := Option.some.inj H; rw [← H9]; decide)

end Go.Proofs.Ytehldgkpkjgocaa.Fn
namespace Go.Proofs.Ytehldgkpkjgocaa.Pure
open Go.RowKit Go.Proofs.YtehldgkpkjgocaaW.PrintWords Go.Proofs.YtehldgkpkjgocaaW.PrintLast Go.Proofs.YtehldgkpkjgocaaW.PrintMore

theorem wrap_ok {n : Int} (h0 : -9223372036854775808 ≤ n) (h1 : n ≤ 9223372036854775807) : wrap64 n = n := IntWalk.wrap64_in n ⟨h0, h1⟩
theorem wrap_succ {i : Nat} (h : i ≤ 9223372036854775806) : wrap64 ((i : Int) + 1) = ((i + 1 : Nat) : Int) := by
  rw [wrap_ok (by omega) (by omega)]; omega
theorem nat_nonneg (i : Nat) : (0 : Int) ≤ (i : Int) := by omega
section
variable {α : Type} {l t : List α} {i : Nat} {x z : α}
theorem drop_nil (h : l.drop i = []) : ¬ ((i : Int) < (l.length : Int)) := by
  have := List.drop_eq_nil_iff.1 h
  omega
theorem drop_cons (h : l.drop i = x :: t) : ((i : Int) < (l.length : Int)) ∧ l[i]? = some x ∧ l.drop (i + 1) = t := by
  have hlt : i < l.length := by
    rcases Nat.lt_or_ge i l.length with h1 | h1
    · exact h1
    · rw [List.drop_eq_nil_of_le h1] at h; cases h
  rw [List.drop_eq_getElem_cons hlt] at h
  injection h with h1 h2
  exact ⟨by omega, by rw [List.getElem?_eq_getElem hlt, h1], h2⟩
theorem drop_len (h : l.drop i = t) (hi : i ≤ l.length) : i + t.length = l.length := by
  rw [← h, List.length_drop]; omega
theorem getD_at (h : l[i]? = some x) : l.getD ((i : Nat) : Int).toNat z = x := by
  rw [Int.toNat_natCast, List.getD_eq_getElem?_getD, h]; rfl
theorem take_drop_set {n : Nat} {y : α} (h : l.drop i = x :: t) : (l.take i ++ List.replicate (n + 1) z).set i y = l.take i ++ [y] ++ List.replicate n z := by
  have hlt : i < l.length := by have := (drop_cons h).1; omega
  have h0 : i = (l.take i).length := by rw [List.length_take]; omega
  rw [List.set_append_right _ _ (by omega)]
  have h1 : i - (l.take i).length = 0 := by omega
  rw [h1, List.replicate_succ]
  simp
theorem take_next (h : l.drop i = x :: t) : l.take (i + 1) = l.take i ++ [x] := by
  have hlt : i < l.length := by have := (drop_cons h).1; omega
  rw [List.take_succ_eq_append_getElem hlt]
  have := (drop_cons h).2.1
  rw [List.getElem?_eq_getElem hlt] at this
  injection this with this
  rw [this]
theorem take_all (h : l.drop i = []) : l.take i = l := List.take_of_length_le (List.drop_eq_nil_iff.1 h)
end
theorem rd_at {l : List Int} {i : Nat} {x : Int} (h : l[i]? = some x) : rd l (i : Int) = x := getD_at h
theorem rdOf_at {α : Type} {l : List α} {i : Nat} {x z : α} (h : l[i]? = some x) : rdOf z l (i : Int) = x := getD_at h
theorem toList_inj {a b : ByteArray} (h : a.toList = b.toList) : a = b := by
  have h1 : a.data.toList = b.data.toList := by rw [← Lib.toList_data, ← Lib.toList_data, h]
  exact WideShapes.bytes_inj h1
/-- The numbers from c on, as many as n. -/
def from_ (c : Int) : Nat → List Int
  | 0 => []
  | n + 1 => c :: from_ (c + 1) n
theorem from_length (c : Int) (n : Nat) : (from_ c n).length = n := by induction n generalizing c with
  | zero => rfl
  | succ n ih => simp [from_, ih]
end Go.Proofs.Ytehldgkpkjgocaa.Pure
namespace Go.Proofs.Ytehldgkpkjgocaa.Pure
open Go.RowKit Go.Proofs.YtehldgkpkjgocaaW.PrintWords Go.Proofs.YtehldgkpkjgocaaW.PrintLast Go.Proofs.YtehldgkpkjgocaaW.PrintMore
/-- From the end down to the begin. -/
theorem ev_down (n : Nat) (P : Nat → Prop) (hn : P n) (hs : ∀ i, i < n → P (i + 1) → P i) : P 0 := by
  have : ∀ d, d ≤ n → P (n - d) := by
    intro d
    induction d with
    | zero => intro _; simpa using hn
    | succ d ih =>
      intro hd
      refine hs _ (by omega) ?_
      have e : n - (d + 1) + 1 = n - d := by omega
      rw [e]
      exact ih (by omega)
  have := this n (Nat.le_refl _)
  simpa using this
theorem Ev.at_ {α : Type} {g : Nat → Option α} {r : α} {K : Nat} (h : ∀ k, K ≤ k → g k = some r) : Ev g r := ⟨K, h⟩
theorem Ev.all {α : Type} {g : Nat → Option α} {r : α} (h : ∀ k, g k = some r) : Ev g r := ⟨0, fun k _ => h k⟩
theorem Ev.next {α : Type} {g f : Nat → Option α} {r : α} {K : Nat} (h : ∀ k, K ≤ k → g (k + 1) = f k) (hf : Ev f r) : Ev g r := by
  obtain ⟨K', hf⟩ := hf
  refine ⟨max K K' + 1, fun k hk => ?_⟩
  obtain ⟨m, rfl⟩ : ∃ m, k = m + 1 := ⟨k - 1, by omega⟩
  rw [h m (by omega)]
  exact hf m (by omega)
theorem Ev.same {α : Type} {g f : Nat → Option α} {r : α} {K : Nat} (h : ∀ k, K ≤ k → g k = f k) (hf : Ev f r) : Ev g r := by
  obtain ⟨K', hf⟩ := hf
  exact ⟨max K K', fun k hk => (h k (by omega)).trans (hf k (by omega))⟩
/-- A copy, element by element, into a row that was made. -/
theorem copy_ev {α β : Type} (L : Nat → List β → Int → Option (List β)) (f : α → β) (z : β) (l : List α)
    (hend : ∀ k x3, L (k + 1) x3 (l.length : Int) = some x3)
    (hstep : ∀ (i : Nat) (x : α), l[i]? = some x → ∃ K, ∀ k (x3 : List β), K ≤ k → x3.length = l.length → L (k + 1) x3 (i : Int) = L k (x3.set i (f x)) ((i + 1 : Nat) : Int)) :
    Ev (fun k => L k (List.replicate l.length z) 0) (l.map f) := by
  have := ev_down l.length (fun i => Ev (fun k => L k ((l.take i).map f ++ List.replicate (l.length - i) z) (i : Int)) (l.map f)) ?_ ?_
  · simpa using this
  · refine ⟨1, fun k hk => ?_⟩
    obtain ⟨m, rfl⟩ : ∃ m, k = m + 1 := ⟨k - 1, by omega⟩
    dsimp only
    rw [hend]
    simp
  · intro i hi ih
    have hx : l[i]? = some l[i] := List.getElem?_eq_getElem hi
    obtain ⟨K, hK⟩ := hstep i _ hx
    refine Ev.next (K := K) (fun k hk => ?_) ih
    rw [hK k _ hk (by simp; omega)]
    congr 1
    have h0 : i = ((l.take i).map f).length := by simp; omega
    rw [List.set_append_right _ _ (by omega)]
    have h1 : i - ((l.take i).map f).length = 0 := by omega
    have h2 : l.length - i = (l.length - (i + 1)) + 1 := by omega
    rw [h1, h2, List.replicate_succ, List.set_cons_zero, List.take_succ_eq_append_getElem hi, List.map_append]
    simp
/-- All elements pass. -/
theorem all_ev {ρ : Type} (L : Nat → Int → Option ρ) (n : Nat) (r : ρ) (hend : ∀ k, L (k + 1) (n : Int) = some r)
    (hstep : ∀ (i : Nat), i < n → ∃ K, ∀ k, K ≤ k → L (k + 1) (i : Int) = L k ((i + 1 : Nat) : Int)) : Ev (fun k => L k 0) r := by
  have := ev_down n (fun i => Ev (fun k => L k (i : Int)) r) ⟨1, fun k hk => by obtain ⟨m, rfl⟩ : ∃ m, k = m + 1 := ⟨k - 1, by omega⟩; exact hend m⟩ (fun i hi ih => by
    obtain ⟨K, hK⟩ := hstep i hi
    exact Ev.next hK ih)
  simpa using this
end Go.Proofs.Ytehldgkpkjgocaa.Pure
namespace Go.Proofs.Ytehldgkpkjgocaa.Pure
open Go.RowKit Go.Proofs.YtehldgkpkjgocaaW.PrintWords Go.Proofs.YtehldgkpkjgocaaW.PrintLast Go.Proofs.YtehldgkpkjgocaaW.PrintMore
section
variable {α β γ δ : Type}
theorem Ev.up {g : Nat → Option α} {r : α} (h : Ev (fun k => g (k + 1)) r) : Ev g r := Ev.next (K := 0) (fun _ _ => rfl) h
theorem Ev.ifp {c : Prop} {dc : Decidable c} {A B : Nat → Option α} {r : α} (hc : c) (h : Ev A r) : Ev (fun k => if c then A k else B k) r :=
  Ev.same (K := 0) (fun k _ => by rw [if_pos hc]) h
theorem Ev.ifn {c : Prop} {dc : Decidable c} {A B : Nat → Option α} {r : α} (hc : ¬ c) (h : Ev B r) : Ev (fun k => if c then A k else B k) r :=
  Ev.same (K := 0) (fun k _ => by rw [if_neg hc]) h
theorem Ev.val {a r : α} (h : a = r) : Ev (fun _ => some a) r := Ev.all fun _ => by rw [h]
theorem Ev.bindS {a : α} {f : Nat → α → Option β} {r : β} (h : Ev (fun k => f k a) r) : Ev (fun k => (some a).bind (f k)) r := Ev.bind (Ev.val rfl) h
theorem Ev.some {g : Nat → Option α} {r : α} (h : Ev g r) : ∃ k, g k = some r := h.elim fun K h => ⟨K, h K (Nat.le_refl _)⟩
/-- Both come to an end, and R holds between what they answer. -/
def Twin (R : α → β → Prop) (A : Nat → Option α) (B : Nat → Option β) : Prop := ∃ a b, R a b ∧ Ev A a ∧ Ev B b
variable {R : α → β → Prop} {A A1 A2 : Nat → Option α} {B B1 B2 : Nat → Option β}
theorem Twin.of {a : α} {b : β} (h : R a b) (ha : Ev A a) (hb : Ev B b) : Twin R A B := ⟨a, b, h, ha, hb⟩
theorem Twin.val {a : α} {b : β} (h : R a b) : Twin R (fun _ => Option.some a) (fun _ => Option.some b) := ⟨a, b, h, Ev.val rfl, Ev.val rfl⟩
theorem Twin.up (h : Twin R (fun k => A (k + 1)) (fun k => B (k + 1))) : Twin R A B := by
  obtain ⟨a, b, h, ha, hb⟩ := h
  exact ⟨a, b, h, Ev.up ha, Ev.up hb⟩
theorem Twin.upL (h : Twin R (fun k => A (k + 1)) B) : Twin R A B := by
  obtain ⟨a, b, h, ha, hb⟩ := h
  exact ⟨a, b, h, Ev.up ha, hb⟩
theorem Twin.upR (h : Twin R A (fun k => B (k + 1))) : Twin R A B := by
  obtain ⟨a, b, h, ha, hb⟩ := h
  exact ⟨a, b, h, ha, Ev.up hb⟩
theorem Twin.ifpL {c : Prop} {dc : Decidable c} (hc : c) (h : Twin R A1 B) : Twin R (fun k => if c then A1 k else A2 k) B := by
  obtain ⟨a, b, h, ha, hb⟩ := h
  exact ⟨a, b, h, Ev.ifp hc ha, hb⟩
theorem Twin.ifnL {c : Prop} {dc : Decidable c} (hc : ¬ c) (h : Twin R A2 B) : Twin R (fun k => if c then A1 k else A2 k) B := by
  obtain ⟨a, b, h, ha, hb⟩ := h
  exact ⟨a, b, h, Ev.ifn hc ha, hb⟩
theorem Twin.ifpR {c : Prop} {dc : Decidable c} (hc : c) (h : Twin R A B1) : Twin R A (fun k => if c then B1 k else B2 k) := by
  obtain ⟨a, b, h, ha, hb⟩ := h
  exact ⟨a, b, h, ha, Ev.ifp hc hb⟩
theorem Twin.ifnR {c : Prop} {dc : Decidable c} (hc : ¬ c) (h : Twin R A B2) : Twin R A (fun k => if c then B1 k else B2 k) := by
  obtain ⟨a, b, h, ha, hb⟩ := h
  exact ⟨a, b, h, ha, Ev.ifn hc hb⟩
theorem Twin.bindL {g : Nat → Option γ} {a : γ} {f : Nat → γ → Option α} (hg : Ev g a) (h : Twin R (fun k => f k a) B) : Twin R (fun k => (g k).bind (f k)) B := by
  obtain ⟨x, b, h, ha, hb⟩ := h
  exact ⟨x, b, h, Ev.bind hg ha, hb⟩
theorem Twin.bindR {g : Nat → Option γ} {a : γ} {f : Nat → γ → Option β} (hg : Ev g a) (h : Twin R A (fun k => f k a)) : Twin R A (fun k => (g k).bind (f k)) := by
  obtain ⟨x, b, h, ha, hb⟩ := h
  exact ⟨x, b, h, ha, Ev.bind hg hb⟩
theorem Twin.bindSL {a : γ} {f : Nat → γ → Option α} (h : Twin R (fun k => f k a) B) : Twin R (fun k => (Option.some a).bind (f k)) B := Twin.bindL (Ev.val rfl) h
theorem Twin.bindSR {a : γ} {f : Nat → γ → Option β} (h : Twin R A (fun k => f k a)) : Twin R A (fun k => (Option.some a).bind (f k)) := Twin.bindR (Ev.val rfl) h
theorem Twin.bind {S : γ → δ → Prop} {g1 : Nat → Option γ} {g2 : Nat → Option δ} {f1 : Nat → γ → Option α} {f2 : Nat → δ → Option β} (hg : Twin S g1 g2)
    (h : ∀ a b, S a b → Twin R (fun k => f1 k a) (fun k => f2 k b)) : Twin R (fun k => (g1 k).bind (f1 k)) (fun k => (g2 k).bind (f2 k)) := by
  obtain ⟨x, y, hs, h1, h2⟩ := hg
  exact Twin.bindL h1 (Twin.bindR h2 (h x y hs))
theorem Twin.if2 {c c' : Prop} {dc : Decidable c} {dc' : Decidable c'} (e : c ↔ c') (hp : c → Twin R A1 B1) (hn : ¬ c → Twin R A2 B2) :
    Twin R (fun k => if c then A1 k else A2 k) (fun k => if c' then B1 k else B2 k) := by
  by_cases hc : c
  · exact Twin.ifpL hc (Twin.ifpR (e.1 hc) (hp hc))
  · exact Twin.ifnL hc (Twin.ifnR (fun h => hc (e.2 h)) (hn hc))
theorem Twin.same {A : Nat → Option α} {a : α} (h : Ev A a) : Twin Eq A A := ⟨a, a, rfl, h, h⟩
theorem Twin.swap (h : Twin (fun b a => R a b) B A) : Twin R A B := by
  obtain ⟨a, b, h, ha, hb⟩ := h
  exact ⟨b, a, h, hb, ha⟩
theorem Twin.mono {S : α → β → Prop} (h : Twin S A B) (i : ∀ a b, S a b → R a b) : Twin R A B := by
  obtain ⟨a, b, h, ha, hb⟩ := h
  exact ⟨a, b, i a b h, ha, hb⟩
end
theorem decT {p : Prop} [Decidable p] : (decide p = true) = p := decide_eq_true_eq
/-- A loop over an index: what holds at the end, and from each round to the one ahead of it. -/
theorem loop_down (n : Nat) {P : Nat → Prop} (hn : P n) (hs : ∀ i, i < n → P (i + 1) → P i) : ∀ i, i ≤ n → P i := by
  have : ∀ d i, i + d = n → P i := by
    intro d
    induction d with
    | zero => intro i h; have e : i = n := by omega
              rw [e]; exact hn
    | succ d ih => intro i h; exact hs i (by omega) (ih (i + 1) (by omega))
  exact fun i hi => this (n - i) i (by omega)
end Go.Proofs.Ytehldgkpkjgocaa.Pure
namespace Go.Proofs.Ytehldgkpkjgocaa.Pure
open Go.RowKit Go.Proofs.Ytehldgkpkjgocaa.Fn Go.Proofs.YtehldgkpkjgocaaW.PrintWords Go.Proofs.YtehldgkpkjgocaaW.PrintLast Go.Proofs.YtehldgkpkjgocaaW.PrintMore

theorem within_eq (a b c : Int) : impl_within.f a b c = some (decide (b ≤ a ∧ a ≤ c)) := by
  unfold impl_within.f
  by_cases h : b ≤ a
  · rw [if_pos h]; simp [h]
  · rw [if_neg h]; simp [h]
theorem specIn_eq (a b c : Int) : spec_l1In.f a b c = some (decide (b ≤ a ∧ a ≤ c)) := within_eq a b c
/-- Better: more, or as much and an earlier doc. -/
def Btr (x y : S43) : Prop := x.f1 > y.f1 ∨ x.f1 = y.f1 ∧ x.f0 < y.f0
instance (x y : S43) : Decidable (Btr x y) := by unfold Btr; infer_instance
theorem better_eq (a b c d : Int) : impl_Score_isBetter.f a b c d = some (decide (b > d ∨ b = d ∧ a < c)) := by
  unfold impl_Score_isBetter.f
  by_cases h : b > d
  · rw [if_pos h]; simp [h]
  · rw [if_neg h]
    by_cases h2 : b = d
    · rw [if_pos h2]; simp [h2]
    · rw [if_neg h2]; simp [h, h2]
theorem specBetter_eq (a b c d : Int) : spec_l10Better.f a b c d = some (decide (b > d ∨ b = d ∧ a < c)) := better_eq a b c d
theorem rd43_at {l : List S43} {i : Nat} {x : S43} (h : l[i]? = some x) : rd_T43 l (i : Int) = x := getD_at h
theorem rd40_at {l : List S40} {i : Nat} {x : S40} (h : l[i]? = some x) : rd_T40 l (i : Int) = x := getD_at h

def cv (x : S40) : S43 := ⟨x.f0, x.f1⟩
theorem sz_eq (l : List S40) (hl : l.length ≤ maxLen) : laws_szScoreS.f l 1048576 = some (if (l.length : Int) > 1048576 then (-1 : Int) else (1048576 - (l.length : Int))) := by
  unfold laws_szScoreS.f
  simp only [maxLen] at hl
  have e : wrap64 (1048576 - (l.length : Int)) = 1048576 - (l.length : Int) := wrap_ok (by omega) (by omega)
  rw [e]
  by_cases h : (l.length : Int) > 1048576
  · rw [if_pos h, if_pos (by omega)]
  · rw [if_neg h, if_neg (by omega)]
theorem to_ev (l : List S40) (hl : l.length ≤ 1048576) : Ev (fun k => laws_toScoreS.f k l) (l.map cv) := by
  have h := copy_ev (fun k x3 i => laws_toScoreS.l0 k l x3 i) cv z43 l ?_ ?_
  · refine Ev.same (K := 0) (fun k _ => ?_) h
    unfold laws_toScoreS.f
    rw [if_pos (by omega), if_pos (by omega), Int.toNat_natCast]
  · intro k x3
    simp only [laws_toScoreS.l0]
    rw [if_neg (by omega)]
  · intro i x hx
    have hlt := (List.getElem?_eq_some_iff.1 hx).1
    refine ⟨0, fun k x3 _ h3 => ?_⟩
    simp only [laws_toScoreS.l0]
    rw [if_pos (by omega), if_pos (by omega), rd40_at hx]
    simp only [laws_toScore.f, Option.bind_some]
    rw [if_pos (by omega), wrap_succ (by omega), Int.toNat_natCast]
    rfl
theorem eq_ev (l : List S43) (hl : l.length ≤ 1048576) : Ev (fun k => laws_eqScoreS.f k l l) true := by
  have h := all_ev (fun k i => laws_eqScoreS.l0 k l l i) l.length true ?_ ?_
  · refine Ev.same (K := 0) (fun k _ => ?_) h
    unfold laws_eqScoreS.f
    rw [if_pos rfl]
  · intro k
    simp only [laws_eqScoreS.l0]
    rw [if_neg (by omega)]
  · intro i hi
    refine ⟨0, fun k _ => ?_⟩
    simp only [laws_eqScoreS.l0]
    rw [if_pos (by omega), if_pos (by omega), if_pos (by omega), wrap_succ (by omega)]
    simp [laws_eqScore.f]
end Go.Proofs.Ytehldgkpkjgocaa.Pure
namespace Go.Proofs.Ytehldgkpkjgocaa.Pure
open Go.RowKit Go.Proofs.Ytehldgkpkjgocaa.Fn Go.Proofs.YtehldgkpkjgocaaW.PrintWords Go.Proofs.YtehldgkpkjgocaaW.PrintLast Go.Proofs.YtehldgkpkjgocaaW.PrintMore

/-- Is x well behind the row p? -/
def okAt (p : List S43) (x : S43) : Bool :=
  decide (0 ≤ x.f0 ∧ x.f0 ≤ 99) && decide (1 ≤ x.f1 ∧ x.f1 ≤ 1000) && (match p.getLast? with | none => true | some y => decide (Btr y x)) && p.all fun y => decide (¬ x.f0 = y.f0)
/-- Is the row p, and then t, a good one from p on? -/
def goodOn : List S43 → List S43 → Bool
  | _, [] => true
  | p, x :: t => okAt p x && goodOn (p ++ [x]) t
def goodRow (l : List S43) : Bool := decide (l.length ≤ 20) && goodOn [] l

theorem last_take {l : List S43} {i : Nat} (hi : i < l.length) (h0 : 0 < i) : (l.take i).getLast? = l[i - 1]? := by
  rw [List.getLast?_eq_getElem?, List.length_take, List.getElem?_take]
  have : min i l.length - 1 = i - 1 := by omega
  rw [this, if_pos (by omega)]

theorem spec_inner (l : List S43) (hl : l.length ≤ 1048576) (i : Nat) (hi : i ≤ l.length) (x : S43) (r : Bool) (hr : Ev (fun k => spec_GoodRow.l0 k l l l.length ((i + 1 : Nat) : Int)) r) :
    Ev (fun k => spec_GoodRow.l1 k l l l.length i (l.take i) ((l.take i).length : Int) 0 x.f0 x.f1) (((l.take i).all fun y => decide (¬ x.f0 = y.f0)) && r) := by
  have key : ∀ (t : List S43) (j : Nat), (l.take i).drop j = t → j ≤ (l.take i).length → Ev (fun k => spec_GoodRow.l1 k l l l.length i (l.take i) ((l.take i).length : Int) j x.f0 x.f1) ((t.all fun y => decide (¬ x.f0 = y.f0)) && r) := by
    intro t
    induction t with
    | nil =>
      intro j h _
      refine Ev.next (K := 0) (fun k _ => ?_) (by simp only [List.all_nil, Bool.true_and]; exact hr)
      simp only [spec_GoodRow.l1]
      rw [if_neg (drop_nil h), wrap_succ (by omega)]
    | cons y t ih =>
      intro j h hj
      obtain ⟨h1, h2, h3⟩ := drop_cons h
      have hlen : (l.take i).length ≤ l.length := by simp; omega
      by_cases hy : x.f0 = y.f0
      · refine ⟨1, fun k hk => ?_⟩
        obtain ⟨k, rfl⟩ : ∃ m, k = m + 1 := ⟨k - 1, by omega⟩
        simp only [spec_GoodRow.l1]
        rw [if_pos h1, if_pos (nat_nonneg j), if_pos h1, rd43_at h2, if_pos hy]
        simp [hy]
      · refine Ev.next (K := 0) (f := fun k => spec_GoodRow.l1 k l l l.length i (l.take i) ((l.take i).length : Int) ((j + 1 : Nat) : Int) x.f0 x.f1) (fun k _ => ?_) ?_
        · simp only [spec_GoodRow.l1]
          rw [if_pos h1, if_pos (nat_nonneg j), if_pos h1, rd43_at h2, if_neg hy, wrap_succ (by omega)]
        · have := ih (j + 1) h3 (by omega)
          simpa [hy] using this
  exact key _ 0 (by simp) (by omega)

theorem spec_good (l : List S43) (hl : l.length ≤ 1048576) : ∀ (t : List S43) (i : Nat), l.drop i = t → i ≤ l.length →
    Ev (fun k => spec_GoodRow.l0 k l l l.length i) (goodOn (l.take i) t && decide ((l.length : Int) ≤ 20)) := by
  intro t
  induction t with
  | nil =>
    intro i h _
    refine ⟨1, fun k hk => ?_⟩
    obtain ⟨k, rfl⟩ : ∃ m, k = m + 1 := ⟨k - 1, by omega⟩
    simp only [spec_GoodRow.l0]
    rw [if_neg (drop_nil h)]
    simp [goodOn]
  | cons x t ih =>
    intro i h hi
    obtain ⟨h1, h2, h3⟩ := drop_cons h
    have hlt : i < l.length := by omega
    have ih := ih (i + 1) h3 (by omega)
    rw [take_next h] at ih
    have inner := spec_inner l hl i hi x _ ih
    simp only [goodOn, okAt]
    -- the ways that end at once
    have stop : ∀ (b : Bool), b = true → ∀ k, 1 ≤ k → spec_GoodRow.j1 k l i l l.length i b x.f0 x.f1 = some false := by
      intro b hb k hk
      obtain ⟨k, rfl⟩ : ∃ m, k = m + 1 := ⟨k - 1, by omega⟩
      simp only [spec_GoodRow.j1]
      rw [if_pos hb]
    have go : Ev (fun k => spec_GoodRow.j1 k l i l l.length i false x.f0 x.f1) (((l.take i).all fun y => decide (¬ x.f0 = y.f0)) && (goodOn (l.take i ++ [x]) t && decide ((l.length : Int) ≤ 20))) := by
      refine Ev.next (K := 0) (fun k _ => ?_) inner
      simp only [spec_GoodRow.j1]
      rw [if_neg (by simp), if_pos (nat_nonneg i), if_pos (by omega), Int.toNat_natCast]
      simp
    by_cases hd : 0 ≤ x.f0 ∧ x.f0 ≤ 99
    · by_cases hb : 1 ≤ x.f1 ∧ x.f1 ≤ 1000
      · by_cases h0 : i = 0
        · subst h0
          have e : decide (0 ≤ x.f0 ∧ x.f0 ≤ 99) = true := decide_eq_true hd
          have e2 : decide (1 ≤ x.f1 ∧ x.f1 ≤ 1000) = true := decide_eq_true hb
          simp only [List.take_zero, List.getLast?_nil, e, e2, Bool.true_and, List.all_nil] at go ⊢
          refine Ev.next (K := 0) (fun k _ => ?_) go
          simp only [spec_GoodRow.l0]
          rw [if_pos h1, if_pos (nat_nonneg _), if_pos h1, rd43_at h2, specIn_eq, specIn_eq]
          simp only [Option.bind_some, e, e2, if_true]
          rw [if_neg (by omega)]
        · have hp : (l.take i).getLast? = some l[i - 1] := by rw [last_take hlt (by omega), List.getElem?_eq_getElem (by omega)]
          have hprev : l[i - 1]? = some l[i - 1] := List.getElem?_eq_getElem (by omega)
          have hw : wrap64 ((i : Int) - 1) = ((i - 1 : Nat) : Int) := by rw [wrap_ok (by omega) (by omega)]; omega
          have e : decide (0 ≤ x.f0 ∧ x.f0 ≤ 99) = true := decide_eq_true hd
          have e2 : decide (1 ≤ x.f1 ∧ x.f1 ≤ 1000) = true := decide_eq_true hb
          have step : ∀ k, spec_GoodRow.l0 (k + 1) l l l.length i = spec_GoodRow.j1 k l i l l.length i (!decide (Btr l[i - 1] x)) x.f0 x.f1 := by
            intro k
            simp only [spec_GoodRow.l0]
            rw [if_pos h1, if_pos (nat_nonneg _), if_pos h1, rd43_at h2, specIn_eq, specIn_eq]
            simp only [Option.bind_some, e, e2, if_true]
            rw [if_pos (by omega), hw, if_pos (nat_nonneg _), if_pos (by omega), rd43_at hprev, specBetter_eq]
            rfl
          rw [hp]
          simp only [e, e2, Bool.true_and]
          by_cases hbt : Btr l[i - 1] x
          · have e3 : decide (Btr l[i - 1] x) = true := decide_eq_true hbt
            simp only [e3, Bool.true_and, Bool.and_assoc]
            refine Ev.next (K := 0) (fun k _ => ?_) go
            rw [step k, e3]
            rfl
          · have e3 : decide (Btr l[i - 1] x) = false := decide_eq_false hbt
            simp only [e3, Bool.false_and]
            refine ⟨2, fun k hk => ?_⟩
            obtain ⟨k, rfl⟩ : ∃ m, k = m + 1 := ⟨k - 1, by omega⟩
            dsimp only
            rw [step k, e3]
            exact stop _ rfl k (by omega)
      · have e2 : decide (1 ≤ x.f1 ∧ x.f1 ≤ 1000) = false := decide_eq_false hb
        have e : decide (0 ≤ x.f0 ∧ x.f0 ≤ 99) = true := decide_eq_true hd
        simp only [e, e2, Bool.false_and, Bool.and_false]
        refine ⟨2, fun k hk => ?_⟩
        obtain ⟨k, rfl⟩ : ∃ m, k = m + 1 := ⟨k - 1, by omega⟩
        simp only [spec_GoodRow.l0]
        rw [if_pos h1, if_pos (nat_nonneg _), if_pos h1, rd43_at h2, specIn_eq, specIn_eq]
        simp only [Option.bind_some, e, e2, if_true]
        rw [if_neg (by simp)]
        exact stop _ rfl k (by omega)
    · have e : decide (0 ≤ x.f0 ∧ x.f0 ≤ 99) = false := decide_eq_false hd
      simp only [e, Bool.false_and]
      refine ⟨2, fun k hk => ?_⟩
      obtain ⟨k, rfl⟩ : ∃ m, k = m + 1 := ⟨k - 1, by omega⟩
      simp only [spec_GoodRow.l0]
      rw [if_pos h1, if_pos (nat_nonneg _), if_pos h1, rd43_at h2, specIn_eq]
      simp only [Option.bind_some, e]
      rw [if_neg (by simp)]
      exact stop _ rfl k (by omega)

/-- What a row has for a doc, as the program finds it. -/
def scoreOf (l : List S43) (d : Int) : Int := match l.find? fun y => decide (y.f0 = d) with
  | none => 0
  | some y => y.f1
theorem scoreIn_ev (l : List S43) (hl : l.length ≤ 1048576) (d : Int) : Ev (fun k => impl_scoreIn.f k l d) (scoreOf l d) := by
  have key : ∀ (t : List S43) (j : Nat), l.drop j = t → j ≤ l.length → Ev (fun k => impl_scoreIn.l0 k d l l.length j) (scoreOf t d) := by
    intro t
    induction t with
    | nil =>
      intro j h _
      refine ⟨1, fun k hk => ?_⟩
      obtain ⟨k, rfl⟩ : ∃ m, k = m + 1 := ⟨k - 1, by omega⟩
      simp only [impl_scoreIn.l0]
      rw [if_neg (drop_nil h)]
      rfl
    | cons y t ih =>
      intro j h hj
      obtain ⟨h1, h2, h3⟩ := drop_cons h
      by_cases hy : y.f0 = d
      · refine ⟨1, fun k hk => ?_⟩
        obtain ⟨k, rfl⟩ : ∃ m, k = m + 1 := ⟨k - 1, by omega⟩
        simp only [impl_scoreIn.l0]
        rw [if_pos h1, if_pos (nat_nonneg j), if_pos h1, rd43_at h2, if_pos hy]
        simp [scoreOf, hy]
      · refine Ev.next (K := 0) (f := fun k => impl_scoreIn.l0 k d l l.length ((j + 1 : Nat) : Int)) (fun k _ => ?_) ?_
        · simp only [impl_scoreIn.l0]
          rw [if_pos h1, if_pos (nat_nonneg j), if_pos h1, rd43_at h2, if_neg hy, wrap_succ (by omega)]
        · have := ih (j + 1) h3 (by omega)
          have e : scoreOf (y :: t) d = scoreOf t d := by simp [scoreOf, hy]
          rw [e]; exact this
  exact key l 0 (by simp) (by omega)
theorem scoreOf_pos (l : List S43) (d : Int) (h : ∀ y ∈ l, 1 ≤ y.f1) : (scoreOf l d > 0) ↔ ¬ (l.all fun y => decide (¬ d = y.f0)) = true := by
  induction l with
  | nil => simp [scoreOf]
  | cons y t ih =>
    have ih := ih (fun z hz => h z (List.mem_cons_of_mem _ hz))
    have hy := h y List.mem_cons_self
    by_cases e : y.f0 = d
    · have : scoreOf (y :: t) d = y.f1 := by simp [scoreOf, e]
      rw [this]
      simp [e]
      omega
    · have : scoreOf (y :: t) d = scoreOf t d := by simp [scoreOf, e]
      rw [this, ih]
      have e' : ¬ d = y.f0 := fun h => e h.symm
      simp [e']

theorem impl_good (l : List S43) (hl : l.length ≤ 1048576) : ∀ (t : List S43) (i : Nat), l.drop i = t → i ≤ l.length → (∀ y ∈ l.take i, 1 ≤ y.f1) →
    Ev (fun k => impl_GoodRow.l0 k l l l.length i) (goodOn (l.take i) t) := by
  intro t
  induction t with
  | nil =>
    intro i h _ _
    refine ⟨1, fun k hk => ?_⟩
    obtain ⟨k, rfl⟩ : ∃ m, k = m + 1 := ⟨k - 1, by omega⟩
    simp only [impl_GoodRow.l0]
    rw [if_neg (drop_nil h)]
    rfl
  | cons x t ih =>
    intro i h hi hpos
    obtain ⟨h1, h2, h3⟩ := drop_cons h
    have hlt : i < l.length := by omega
    simp only [goodOn, okAt]
    by_cases hd : 0 ≤ x.f0 ∧ x.f0 ≤ 99
    · have e : decide (0 ≤ x.f0 ∧ x.f0 ≤ 99) = true := decide_eq_true hd
      by_cases hb : 1 ≤ x.f1 ∧ x.f1 ≤ 1000
      · have e2 : decide (1 ≤ x.f1 ∧ x.f1 ≤ 1000) = true := decide_eq_true hb
        have ih := ih (i + 1) h3 (by omega) (by
          rw [take_next h]
          intro y hy
          rcases List.mem_append.1 hy with hy | hy
          · exact hpos y hy
          · rw [List.mem_singleton.1 hy]; exact hb.1)
        rw [take_next h] at ih
        have hsc := scoreIn_ev (l.take i) (by simp; omega) x.f0
        have hsp := scoreOf_pos (l.take i) x.f0 hpos
        -- behind the tests on the one ahead
        have tail : Ev (fun k => (impl_scoreIn.f k (l.take i) x.f0).bind fun t165 => if t165 > 0 then some false else impl_GoodRow.l0 k l l l.length ((i + 1 : Nat) : Int))
            (((l.take i).all fun y => decide (¬ x.f0 = y.f0)) && goodOn (l.take i ++ [x]) t) := by
          refine Ev.bind hsc ?_
          by_cases hp : scoreOf (l.take i) x.f0 > 0
          · have ha : ((l.take i).all fun y => decide (¬ x.f0 = y.f0)) = false := by simpa using hsp.1 hp
            rw [ha]
            exact Ev.all fun k => by rw [if_pos hp]; rfl
          · have ha : ((l.take i).all fun y => decide (¬ x.f0 = y.f0)) = true := by
              cases hq : ((l.take i).all fun y => decide (¬ x.f0 = y.f0)) with
              | true => rfl
              | false => exact absurd (hsp.2 (by rw [hq]; simp)) hp
            rw [ha, Bool.true_and]
            exact Ev.same (K := 0) (fun k _ => by rw [if_neg hp]) ih
        by_cases h0 : i = 0
        · subst h0
          simp only [e, e2, Bool.true_and, List.take_zero, List.getLast?_nil] at tail ⊢
          refine Ev.next (K := 0) (fun k _ => ?_) tail
          simp only [impl_GoodRow.l0]
          rw [if_pos h1, if_pos (nat_nonneg _), if_pos h1, rd43_at h2, within_eq, within_eq]
          simp only [Option.bind_some, e, e2, if_true]
          rw [if_neg (by omega), if_pos (by omega), wrap_succ (by omega), Int.toNat_natCast, List.take_zero]
        · have hp : (l.take i).getLast? = some l[i - 1] := by rw [last_take hlt (by omega), List.getElem?_eq_getElem (by omega)]
          have hprev : l[i - 1]? = some l[i - 1] := List.getElem?_eq_getElem (by omega)
          have hw : wrap64 ((i : Int) - 1) = ((i - 1 : Nat) : Int) := by rw [wrap_ok (by omega) (by omega)]; omega
          rw [hp]
          simp only [e, e2, Bool.true_and]
          by_cases hbt : Btr l[i - 1] x
          · have e3 : decide (Btr l[i - 1] x) = true := decide_eq_true hbt
            have e4 : decide (l[i - 1].f1 > x.f1 ∨ l[i - 1].f1 = x.f1 ∧ l[i - 1].f0 < x.f0) = true := e3
            simp only [e3, Bool.true_and]
            refine Ev.next (K := 0) (fun k _ => ?_) tail
            simp only [impl_GoodRow.l0]
            rw [if_pos h1, if_pos (nat_nonneg _), if_pos h1, rd43_at h2, within_eq, within_eq]
            simp only [Option.bind_some, e, e2, if_true]
            rw [if_pos (by omega), hw, if_pos (nat_nonneg _), if_pos (by omega), rd43_at hprev, better_eq, e4]
            simp only [Option.bind_some, if_true]
            rw [if_pos (by omega), wrap_succ (by omega), Int.toNat_natCast]
          · have e3 : decide (Btr l[i - 1] x) = false := decide_eq_false hbt
            have e4 : decide (l[i - 1].f1 > x.f1 ∨ l[i - 1].f1 = x.f1 ∧ l[i - 1].f0 < x.f0) = false := e3
            simp only [e3, Bool.false_and]
            refine ⟨1, fun k hk => ?_⟩
            obtain ⟨k, rfl⟩ : ∃ m, k = m + 1 := ⟨k - 1, by omega⟩
            simp only [impl_GoodRow.l0]
            rw [if_pos h1, if_pos (nat_nonneg _), if_pos h1, rd43_at h2, within_eq, within_eq]
            simp only [Option.bind_some, e, e2, if_true]
            rw [if_pos (by omega), hw, if_pos (nat_nonneg _), if_pos (by omega), rd43_at hprev, better_eq, e4]
            simp
      · have e2 : decide (1 ≤ x.f1 ∧ x.f1 ≤ 1000) = false := decide_eq_false hb
        simp only [e, e2, Bool.false_and, Bool.and_false]
        refine ⟨1, fun k hk => ?_⟩
        obtain ⟨k, rfl⟩ : ∃ m, k = m + 1 := ⟨k - 1, by omega⟩
        simp only [impl_GoodRow.l0]
        rw [if_pos h1, if_pos (nat_nonneg _), if_pos h1, rd43_at h2, within_eq, within_eq]
        simp only [Option.bind_some, e, e2, if_true]
        simp
    · have e : decide (0 ≤ x.f0 ∧ x.f0 ≤ 99) = false := decide_eq_false hd
      simp only [e, Bool.false_and]
      refine ⟨1, fun k hk => ?_⟩
      obtain ⟨k, rfl⟩ : ∃ m, k = m + 1 := ⟨k - 1, by omega⟩
      simp only [impl_GoodRow.l0]
      rw [if_pos h1, if_pos (nat_nonneg _), if_pos h1, rd43_at h2, within_eq]
      simp only [Option.bind_some, e]
      simp
theorem specGood_ev (l : List S43) (hl : l.length ≤ 1048576) : Ev (fun k => spec_GoodRow.f k l) (goodRow l) := by
  have h := spec_good l hl l 0 (by simp) (by omega)
  have e : goodRow l = (goodOn (l.take 0) l && decide ((l.length : Int) ≤ 20)) := by
    simp only [goodRow, List.take_zero]
    rw [Bool.and_comm]
    congr 1
    rw [decide_eq_decide]
    omega
  rw [e]
  exact h
theorem implGood_ev (l : List S43) (hl : l.length ≤ 1048576) : Ev (fun k => impl_GoodRow.f k l) (goodRow l) := by
  unfold goodRow
  by_cases h20 : (l.length : Int) > 20
  · have e : decide (l.length ≤ 20) = false := decide_eq_false (by omega)
    rw [e, Bool.false_and]
    exact Ev.all fun k => by unfold impl_GoodRow.f; rw [if_pos h20]
  · have e : decide (l.length ≤ 20) = true := decide_eq_true (by omega)
    rw [e, Bool.true_and]
    have h := impl_good l hl l 0 (by simp) (by omega) (by simp)
    exact Ev.same (K := 0) (fun k _ => by unfold impl_GoodRow.f; rw [if_neg h20]; rfl) h
end Go.Proofs.Ytehldgkpkjgocaa.Pure
namespace Go.Proofs.Ytehldgkpkjgocaa.Pure
open Go.RowKit Go.Proofs.Ytehldgkpkjgocaa.Fn Go.Proofs.YtehldgkpkjgocaaW.PrintWords Go.Proofs.YtehldgkpkjgocaaW.PrintLast Go.Proofs.YtehldgkpkjgocaaW.PrintMore
set_option linter.unusedSimpArgs false

theorem rdL4_at {l : List (List S43)} {i : Nat} {x : List S43} (h : l[i]? = some x) : rd_L4 l (i : Int) = x := getD_at h
theorem rdL2_at {l : List (List S40)} {i : Nat} {x : List S40} (h : l[i]? = some x) : rd_L2 l (i : Int) = x := getD_at h
/-- The size: either too much, or all within. -/
theorem szs_ev (L : List (List S40)) (hL : L.length ≤ maxLen) (hR : ∀ y ∈ L, y.length ≤ maxLen) :
    ∃ r : Int, Ev (fun k => laws_szScoreSS.f k L 1048576) r ∧ (0 ≤ r → L.length ≤ 1048576 ∧ ∀ y ∈ L, y.length ≤ 1048576) := by
  simp only [maxLen] at hL hR
  have key : ∀ (t : List (List S40)) (i : Nat) (m : Int), L.drop i = t → i ≤ L.length → 0 ≤ m → m ≤ 1048576 →
      ∃ r : Int, Ev (fun k => laws_szScoreSS.l0 k L m i) r ∧ (0 ≤ r → ∀ y ∈ t, y.length ≤ 1048576) := by
    intro t
    induction t with
    | nil =>
      intro i m h _ _ _
      have := drop_nil h
      exact ⟨m, by (refine Ev.up ?_; simp only [laws_szScoreSS.l0, decT]); (repeat (first | with_reducible refine Ev.bindS ?_ | (with_reducible refine Ev.ifp ?_ ?_; (· first | omega | assumption | rfl | (simp only [List.length_map, List.length_replicate, List.length_take, List.length_drop, List.length_append, List.length_cons, List.length_nil, List.length_set]; omega) | (simp; done))) | (with_reducible refine Ev.ifn ?_ ?_; (· first | omega | assumption | rfl | (simp only [List.length_map, List.length_replicate, List.length_take, List.length_drop, List.length_append, List.length_cons, List.length_nil, List.length_set]; omega) | (simp; done))))); exact Ev.val rfl, by simp⟩
    | cons x t ih =>
      intro i m h hi hm hm2
      obtain ⟨h1, h2, h3⟩ := drop_cons h
      have hx : x ∈ L := List.mem_of_getElem? h2
      have hxl := hR x hx
      have e : wrap64 (m - (x.length : Int)) = m - (x.length : Int) := wrap_ok (by omega) (by omega)
      by_cases hlt : m - (x.length : Int) < 0
      · refine ⟨-1, ?_, by omega⟩
        (refine Ev.up ?_; simp only [laws_szScoreSS.l0, decT])
        rw [rdL2_at h2]
        simp only [laws_szScoreS.f, e]
        (repeat (first | with_reducible refine Ev.bindS ?_ | (with_reducible refine Ev.ifp ?_ ?_; (· first | omega | assumption | rfl | (simp only [List.length_map, List.length_replicate, List.length_take, List.length_drop, List.length_append, List.length_cons, List.length_nil, List.length_set]; omega) | (simp; done))) | (with_reducible refine Ev.ifn ?_ ?_; (· first | omega | assumption | rfl | (simp only [List.length_map, List.length_replicate, List.length_take, List.length_drop, List.length_append, List.length_cons, List.length_nil, List.length_set]; omega) | (simp; done)))))
        refine Ev.bind (a := -1) ?_ ?_
        · (repeat (first | with_reducible refine Ev.bindS ?_ | (with_reducible refine Ev.ifp ?_ ?_; (· first | omega | assumption | rfl | (simp only [List.length_map, List.length_replicate, List.length_take, List.length_drop, List.length_append, List.length_cons, List.length_nil, List.length_set]; omega) | (simp; done))) | (with_reducible refine Ev.ifn ?_ ?_; (· first | omega | assumption | rfl | (simp only [List.length_map, List.length_replicate, List.length_take, List.length_drop, List.length_append, List.length_cons, List.length_nil, List.length_set]; omega) | (simp; done))))); exact Ev.val rfl
        · (repeat (first | with_reducible refine Ev.bindS ?_ | (with_reducible refine Ev.ifp ?_ ?_; (· first | omega | assumption | rfl | (simp only [List.length_map, List.length_replicate, List.length_take, List.length_drop, List.length_append, List.length_cons, List.length_nil, List.length_set]; omega) | (simp; done))) | (with_reducible refine Ev.ifn ?_ ?_; (· first | omega | assumption | rfl | (simp only [List.length_map, List.length_replicate, List.length_take, List.length_drop, List.length_append, List.length_cons, List.length_nil, List.length_set]; omega) | (simp; done))))); exact Ev.val rfl
      · obtain ⟨r, hr, hr2⟩ := ih (i + 1) (m - x.length) h3 (by omega) (by omega) (by omega)
        refine ⟨r, ?_, fun h0 y hy => ?_⟩
        · (refine Ev.up ?_; simp only [laws_szScoreSS.l0, decT])
          rw [rdL2_at h2]
          simp only [laws_szScoreS.f, e, wrap_succ (i := i) (by omega)]
          (repeat (first | with_reducible refine Ev.bindS ?_ | (with_reducible refine Ev.ifp ?_ ?_; (· first | omega | assumption | rfl | (simp only [List.length_map, List.length_replicate, List.length_take, List.length_drop, List.length_append, List.length_cons, List.length_nil, List.length_set]; omega) | (simp; done))) | (with_reducible refine Ev.ifn ?_ ?_; (· first | omega | assumption | rfl | (simp only [List.length_map, List.length_replicate, List.length_take, List.length_drop, List.length_append, List.length_cons, List.length_nil, List.length_set]; omega) | (simp; done)))))
          refine Ev.bind (a := m - x.length) ?_ ?_
          · (repeat (first | with_reducible refine Ev.bindS ?_ | (with_reducible refine Ev.ifp ?_ ?_; (· first | omega | assumption | rfl | (simp only [List.length_map, List.length_replicate, List.length_take, List.length_drop, List.length_append, List.length_cons, List.length_nil, List.length_set]; omega) | (simp; done))) | (with_reducible refine Ev.ifn ?_ ?_; (· first | omega | assumption | rfl | (simp only [List.length_map, List.length_replicate, List.length_take, List.length_drop, List.length_append, List.length_cons, List.length_nil, List.length_set]; omega) | (simp; done))))); exact Ev.val rfl
          · (repeat (first | with_reducible refine Ev.bindS ?_ | (with_reducible refine Ev.ifp ?_ ?_; (· first | omega | assumption | rfl | (simp only [List.length_map, List.length_replicate, List.length_take, List.length_drop, List.length_append, List.length_cons, List.length_nil, List.length_set]; omega) | (simp; done))) | (with_reducible refine Ev.ifn ?_ ?_; (· first | omega | assumption | rfl | (simp only [List.length_map, List.length_replicate, List.length_take, List.length_drop, List.length_append, List.length_cons, List.length_nil, List.length_set]; omega) | (simp; done))))); exact hr
        · rcases List.mem_cons.1 hy with rfl | hy
          · omega
          · exact hr2 h0 y hy
  have e : wrap64 (1048576 - (L.length : Int)) = 1048576 - (L.length : Int) := wrap_ok (by omega) (by omega)
  by_cases hlt : 1048576 - (L.length : Int) < 0
  · refine ⟨-1, ?_, by omega⟩
    simp only [laws_szScoreSS.f, e]
    (repeat (first | with_reducible refine Ev.bindS ?_ | (with_reducible refine Ev.ifp ?_ ?_; (· first | omega | assumption | rfl | (simp only [List.length_map, List.length_replicate, List.length_take, List.length_drop, List.length_append, List.length_cons, List.length_nil, List.length_set]; omega) | (simp; done))) | (with_reducible refine Ev.ifn ?_ ?_; (· first | omega | assumption | rfl | (simp only [List.length_map, List.length_replicate, List.length_take, List.length_drop, List.length_append, List.length_cons, List.length_nil, List.length_set]; omega) | (simp; done))))); exact Ev.val rfl
  · obtain ⟨r, hr, hr2⟩ := key L 0 (1048576 - L.length) (by simp) (by omega) (by omega) (by omega)
    refine ⟨r, ?_, fun h0 => ⟨by omega, hr2 h0⟩⟩
    simp only [laws_szScoreSS.f, e]
    (repeat (first | with_reducible refine Ev.bindS ?_ | (with_reducible refine Ev.ifp ?_ ?_; (· first | omega | assumption | rfl | (simp only [List.length_map, List.length_replicate, List.length_take, List.length_drop, List.length_append, List.length_cons, List.length_nil, List.length_set]; omega) | (simp; done))) | (with_reducible refine Ev.ifn ?_ ?_; (· first | omega | assumption | rfl | (simp only [List.length_map, List.length_replicate, List.length_take, List.length_drop, List.length_append, List.length_cons, List.length_nil, List.length_set]; omega) | (simp; done)))))
    exact hr
theorem tos_ev (L : List (List S40)) (hL : L.length ≤ 1048576) (hR : ∀ y ∈ L, y.length ≤ 1048576) : Ev (fun k => laws_toScoreSS.f k L) (L.map (List.map cv)) := by
  have h := copy_ev (fun k x3 i => laws_toScoreSS.l0 k L x3 i) (List.map cv) ([] : List S43) L ?_ ?_
  · simp only [laws_toScoreSS.f, Int.toNat_natCast]
    (repeat (first | with_reducible refine Ev.bindS ?_ | (with_reducible refine Ev.ifp ?_ ?_; (· first | omega | assumption | rfl | (simp only [List.length_map, List.length_replicate, List.length_take, List.length_drop, List.length_append, List.length_cons, List.length_nil, List.length_set]; omega) | (simp; done))) | (with_reducible refine Ev.ifn ?_ ?_; (· first | omega | assumption | rfl | (simp only [List.length_map, List.length_replicate, List.length_take, List.length_drop, List.length_append, List.length_cons, List.length_nil, List.length_set]; omega) | (simp; done)))))
    exact h
  · intro k x3
    simp only [laws_toScoreSS.l0]
    rw [if_neg (by omega)]
  · intro i x hx
    have hlt := (List.getElem?_eq_some_iff.1 hx).1
    obtain ⟨K, hK⟩ := to_ev x (hR x (List.mem_of_getElem? hx))
    refine ⟨K, fun k x3 hk h3 => ?_⟩
    have hK := hK k hk
    dsimp only at hK
    simp only [laws_toScoreSS.l0]
    rw [if_pos (by omega), if_pos (by omega), rdL2_at hx, hK, Option.bind_some, if_pos (by omega), wrap_succ (by omega), Int.toNat_natCast]
theorem eqs_ev (L : List (List S43)) (hL : L.length ≤ 1048576) (hR : ∀ y ∈ L, y.length ≤ 1048576) : Ev (fun k => laws_eqScoreSS.f k L L) true := by
  have h := all_ev (fun k i => laws_eqScoreSS.l0 k L L i) L.length true ?_ ?_
  · simp only [laws_eqScoreSS.f]
    (repeat (first | with_reducible refine Ev.bindS ?_ | (with_reducible refine Ev.ifp ?_ ?_; (· first | omega | assumption | rfl | (simp only [List.length_map, List.length_replicate, List.length_take, List.length_drop, List.length_append, List.length_cons, List.length_nil, List.length_set]; omega) | (simp; done))) | (with_reducible refine Ev.ifn ?_ ?_; (· first | omega | assumption | rfl | (simp only [List.length_map, List.length_replicate, List.length_take, List.length_drop, List.length_append, List.length_cons, List.length_nil, List.length_set]; omega) | (simp; done)))))
    exact h
  · intro k
    simp only [laws_eqScoreSS.l0]
    rw [if_neg (by omega)]
  · intro i hi
    have hx : L[i]? = some L[i] := List.getElem?_eq_getElem hi
    obtain ⟨K, hK⟩ := eq_ev L[i] (hR _ (List.mem_of_getElem? hx))
    refine ⟨K, fun k hk => ?_⟩
    have hK := hK k hk
    dsimp only at hK
    simp only [laws_eqScoreSS.l0]
    rw [if_pos (by omega), if_pos (by omega), if_pos (by omega), rdL4_at hx, hK, Option.bind_some, wrap_succ (by omega)]
    rfl
/-- Rows: one to four, each of them good. -/
def rowsOk (L : List (List S43)) : Bool := decide (1 ≤ (L.length : Int) ∧ (L.length : Int) ≤ 4) && L.all goodRow
theorem specRows_ev (L : List (List S43)) (hL : L.length ≤ 1048576) (hR : ∀ y ∈ L, y.length ≤ 1048576) : Ev (fun k => spec_l10Rows.f k L) (rowsOk L) := by
  have key : ∀ (t : List (List S43)) (i : Nat), L.drop i = t → i ≤ L.length →
      Ev (fun k => spec_l10Rows.l0 k L L L.length i) (t.all goodRow && decide (1 ≤ (L.length : Int) ∧ (L.length : Int) ≤ 4)) := by
    intro t
    induction t with
    | nil =>
      intro i h _
      have := drop_nil h
      (refine Ev.up ?_; simp only [spec_l10Rows.l0, decT])
      simp only [specIn_eq]
      (repeat (first | with_reducible refine Ev.bindS ?_ | (with_reducible refine Ev.ifp ?_ ?_; (· first | omega | assumption | rfl | (simp only [List.length_map, List.length_replicate, List.length_take, List.length_drop, List.length_append, List.length_cons, List.length_nil, List.length_set]; omega) | (simp; done))) | (with_reducible refine Ev.ifn ?_ ?_; (· first | omega | assumption | rfl | (simp only [List.length_map, List.length_replicate, List.length_take, List.length_drop, List.length_append, List.length_cons, List.length_nil, List.length_set]; omega) | (simp; done)))))
      exact Ev.val (by simp)
    | cons x t ih =>
      intro i h hi
      obtain ⟨h1, h2, h3⟩ := drop_cons h
      have ih := ih (i + 1) h3 (by omega)
      (refine Ev.up ?_; simp only [spec_l10Rows.l0, decT])
      rw [rdL4_at h2, wrap_succ (by omega)]
      (repeat (first | with_reducible refine Ev.bindS ?_ | (with_reducible refine Ev.ifp ?_ ?_; (· first | omega | assumption | rfl | (simp only [List.length_map, List.length_replicate, List.length_take, List.length_drop, List.length_append, List.length_cons, List.length_nil, List.length_set]; omega) | (simp; done))) | (with_reducible refine Ev.ifn ?_ ?_; (· first | omega | assumption | rfl | (simp only [List.length_map, List.length_replicate, List.length_take, List.length_drop, List.length_append, List.length_cons, List.length_nil, List.length_set]; omega) | (simp; done)))))
      refine Ev.bind (specGood_ev x (hR x (List.mem_of_getElem? h2))) ?_
      cases hg : goodRow x with
      | true => (repeat (first | with_reducible refine Ev.bindS ?_ | (with_reducible refine Ev.ifp ?_ ?_; (· first | omega | assumption | rfl | (simp only [List.length_map, List.length_replicate, List.length_take, List.length_drop, List.length_append, List.length_cons, List.length_nil, List.length_set]; omega) | (simp; done))) | (with_reducible refine Ev.ifn ?_ ?_; (· first | omega | assumption | rfl | (simp only [List.length_map, List.length_replicate, List.length_take, List.length_drop, List.length_append, List.length_cons, List.length_nil, List.length_set]; omega) | (simp; done))))); simpa [hg] using ih
      | false => (repeat (first | with_reducible refine Ev.bindS ?_ | (with_reducible refine Ev.ifp ?_ ?_; (· first | omega | assumption | rfl | (simp only [List.length_map, List.length_replicate, List.length_take, List.length_drop, List.length_append, List.length_cons, List.length_nil, List.length_set]; omega) | (simp; done))) | (with_reducible refine Ev.ifn ?_ ?_; (· first | omega | assumption | rfl | (simp only [List.length_map, List.length_replicate, List.length_take, List.length_drop, List.length_append, List.length_cons, List.length_nil, List.length_set]; omega) | (simp; done))))); exact Ev.val (by simp [hg])
  have h := key L 0 (by simp) (by omega)
  rw [Bool.and_comm] at h
  exact h
theorem implRows_ev (L : List (List S43)) (hL : L.length ≤ 1048576) (hR : ∀ y ∈ L, y.length ≤ 1048576) : Ev (fun k => impl_areRows.f k L) (rowsOk L) := by
  have key : ∀ (t : List (List S43)) (i : Nat), L.drop i = t → i ≤ L.length →
      ∃ r : Int, Ev (fun k => slices_IndexFunc_at55.l0 k L L.length i) r ∧ (decide (r ≥ 0) = !(t.all goodRow)) := by
    intro t
    induction t with
    | nil =>
      intro i h _
      have := drop_nil h
      refine ⟨-1, ?_, by simp⟩
      (refine Ev.up ?_; simp only [slices_IndexFunc_at55.l0, decT])
      (repeat (first | with_reducible refine Ev.bindS ?_ | (with_reducible refine Ev.ifp ?_ ?_; (· first | omega | assumption | rfl | (simp only [List.length_map, List.length_replicate, List.length_take, List.length_drop, List.length_append, List.length_cons, List.length_nil, List.length_set]; omega) | (simp; done))) | (with_reducible refine Ev.ifn ?_ ?_; (· first | omega | assumption | rfl | (simp only [List.length_map, List.length_replicate, List.length_take, List.length_drop, List.length_append, List.length_cons, List.length_nil, List.length_set]; omega) | (simp; done)))))
      exact Ev.val rfl
    | cons x t ih =>
      intro i h hi
      obtain ⟨h1, h2, h3⟩ := drop_cons h
      obtain ⟨r, hr, hr2⟩ := ih (i + 1) h3 (by omega)
      cases hg : goodRow x with
      | true =>
        refine ⟨r, ?_, by simpa [hg] using hr2⟩
        (refine Ev.up ?_; simp only [slices_IndexFunc_at55.l0, decT])
        rw [rdL4_at h2, wrap_succ (by omega)]
        (repeat (first | with_reducible refine Ev.bindS ?_ | (with_reducible refine Ev.ifp ?_ ?_; (· first | omega | assumption | rfl | (simp only [List.length_map, List.length_replicate, List.length_take, List.length_drop, List.length_append, List.length_cons, List.length_nil, List.length_set]; omega) | (simp; done))) | (with_reducible refine Ev.ifn ?_ ?_; (· first | omega | assumption | rfl | (simp only [List.length_map, List.length_replicate, List.length_take, List.length_drop, List.length_append, List.length_cons, List.length_nil, List.length_set]; omega) | (simp; done)))))
        simp only [impl_areRows_1.f]
        refine Ev.bind (Ev.bind (implGood_ev x (hR x (List.mem_of_getElem? h2))) (Ev.val rfl)) ?_
        rw [hg]
        (repeat (first | with_reducible refine Ev.bindS ?_ | (with_reducible refine Ev.ifp ?_ ?_; (· first | omega | assumption | rfl | (simp only [List.length_map, List.length_replicate, List.length_take, List.length_drop, List.length_append, List.length_cons, List.length_nil, List.length_set]; omega) | (simp; done))) | (with_reducible refine Ev.ifn ?_ ?_; (· first | omega | assumption | rfl | (simp only [List.length_map, List.length_replicate, List.length_take, List.length_drop, List.length_append, List.length_cons, List.length_nil, List.length_set]; omega) | (simp; done)))))
        exact hr
      | false =>
        refine ⟨i, ?_, by simp [hg]⟩
        (refine Ev.up ?_; simp only [slices_IndexFunc_at55.l0, decT])
        rw [rdL4_at h2]
        (repeat (first | with_reducible refine Ev.bindS ?_ | (with_reducible refine Ev.ifp ?_ ?_; (· first | omega | assumption | rfl | (simp only [List.length_map, List.length_replicate, List.length_take, List.length_drop, List.length_append, List.length_cons, List.length_nil, List.length_set]; omega) | (simp; done))) | (with_reducible refine Ev.ifn ?_ ?_; (· first | omega | assumption | rfl | (simp only [List.length_map, List.length_replicate, List.length_take, List.length_drop, List.length_append, List.length_cons, List.length_nil, List.length_set]; omega) | (simp; done)))))
        simp only [impl_areRows_1.f]
        refine Ev.bind (Ev.bind (implGood_ev x (hR x (List.mem_of_getElem? h2))) (Ev.val rfl)) ?_
        rw [hg]
        (repeat (first | with_reducible refine Ev.bindS ?_ | (with_reducible refine Ev.ifp ?_ ?_; (· first | omega | assumption | rfl | (simp only [List.length_map, List.length_replicate, List.length_take, List.length_drop, List.length_append, List.length_cons, List.length_nil, List.length_set]; omega) | (simp; done))) | (with_reducible refine Ev.ifn ?_ ?_; (· first | omega | assumption | rfl | (simp only [List.length_map, List.length_replicate, List.length_take, List.length_drop, List.length_append, List.length_cons, List.length_nil, List.length_set]; omega) | (simp; done)))))
        exact Ev.val rfl
  obtain ⟨r, hr, hr2⟩ := key L 0 (by simp) (by omega)
  simp only [impl_areRows.f, within_eq]
  (repeat (first | with_reducible refine Ev.bindS ?_ | (with_reducible refine Ev.ifp ?_ ?_; (· first | omega | assumption | rfl | (simp only [List.length_map, List.length_replicate, List.length_take, List.length_drop, List.length_append, List.length_cons, List.length_nil, List.length_set]; omega) | (simp; done))) | (with_reducible refine Ev.ifn ?_ ?_; (· first | omega | assumption | rfl | (simp only [List.length_map, List.length_replicate, List.length_take, List.length_drop, List.length_append, List.length_cons, List.length_nil, List.length_set]; omega) | (simp; done)))))
  by_cases h : 1 ≤ (L.length : Int) ∧ (L.length : Int) ≤ 4
  · simp only [decT]
    (repeat (first | with_reducible refine Ev.bindS ?_ | (with_reducible refine Ev.ifp ?_ ?_; (· first | omega | assumption | rfl | (simp only [List.length_map, List.length_replicate, List.length_take, List.length_drop, List.length_append, List.length_cons, List.length_nil, List.length_set]; omega) | (simp; done))) | (with_reducible refine Ev.ifn ?_ ?_; (· first | omega | assumption | rfl | (simp only [List.length_map, List.length_replicate, List.length_take, List.length_drop, List.length_append, List.length_cons, List.length_nil, List.length_set]; omega) | (simp; done)))))
    simp only [slices_ContainsFunc_at55.f]
    refine Ev.bind (a := decide (r ≥ 0)) (Ev.bind hr (Ev.val rfl)) ?_
    exact Ev.val (by rw [hr2]; simp [rowsOk, h])
  · simp only [decT]
    (repeat (first | with_reducible refine Ev.bindS ?_ | (with_reducible refine Ev.ifp ?_ ?_; (· first | omega | assumption | rfl | (simp only [List.length_map, List.length_replicate, List.length_take, List.length_drop, List.length_append, List.length_cons, List.length_nil, List.length_set]; omega) | (simp; done))) | (with_reducible refine Ev.ifn ?_ ?_; (· first | omega | assumption | rfl | (simp only [List.length_map, List.length_replicate, List.length_take, List.length_drop, List.length_append, List.length_cons, List.length_nil, List.length_set]; omega) | (simp; done)))))
    exact Ev.val (by simp [rowsOk, h])
end Go.Proofs.Ytehldgkpkjgocaa.Pure
namespace Go.Proofs.Ytehldgkpkjgocaa.Fn
open Go.RowKit Go.Proofs.YtehldgkpkjgocaaW.PrintWords Go.Proofs.YtehldgkpkjgocaaW.PrintLast Go.Proofs.YtehldgkpkjgocaaW.PrintMore
attribute [local go_sem] max2_int min2_int max_two min_two max_three min_three max_four min_four   -- for this text's walks alone
set_option linter.unusedVariables false
set_option linter.unusedSimpArgs false

/-! ### spec_l10Total: function 41 -/
mutual
def spec_l10Total.l0 : Nat → Int → Int → List (List (S43)) → Int → Int → Option (Int)
  | 0, _, _, _, _, _ => none
  | k + 1, x1, x5, x10, x11, x12 => if x12 < x11 then (if 0 ≤ x12 then (if x12 < (x10.length : Int) then (spec_l10Total.l1 k x1 x5 x10 x11 x12 (rd_L4 x10 x12) ((rd_L4 x10 x12).length : Int) 0) else (none)) else (none)) else (some x5)
def spec_l10Total.l1 : Nat → Int → Int → List (List (S43)) → Int → Int → List (S43) → Int → Int → Option (Int)
  | 0, _, _, _, _, _, _, _, _ => none
  | k + 1, x1, x5, x10, x11, x12, x16, x17, x18 => if x18 < x17 then (if 0 ≤ x18 then (if x18 < (x16.length : Int) then (if ((rd_T43 x16 x18).f0) = x1 then (spec_l10Total.l1 k x1 (wrap64 (x5 + ((rd_T43 x16 x18).f1))) x10 x11 x12 x16 x17 (wrap64 (x18 + 1))) else (spec_l10Total.l1 k x1 x5 x10 x11 x12 x16 x17 (wrap64 (x18 + 1)))) else (none)) else (none)) else (spec_l10Total.l0 k x1 x5 x10 x11 (wrap64 (x12 + 1)))
end
def spec_l10Total.f (k : Nat) (l0 : List (List (S43))) (a1 : Int) : Option (Int) := spec_l10Total.l0 k a1 0 l0 (l0.length : Int) 0
theorem spec_l10Total.mono_l : ∀ k, (∀ y0 y1 y2 y3 y4, LeO (spec_l10Total.l0 k y0 y1 y2 y3 y4) (spec_l10Total.l0 (k + 1) y0 y1 y2 y3 y4)) ∧ (∀ y0 y1 y2 y3 y4 y5 y6 y7, LeO (spec_l10Total.l1 k y0 y1 y2 y3 y4 y5 y6 y7) (spec_l10Total.l1 (k + 1) y0 y1 y2 y3 y4 y5 y6 y7))
  | 0 => ⟨fun _ _ _ _ _ r h => by simp [spec_l10Total.l0] at h, fun _ _ _ _ _ _ _ _ r h => by simp [spec_l10Total.l1] at h⟩
  | k + 1 => by
    obtain ⟨ih0, ih1⟩ := spec_l10Total.mono_l k
    refine ⟨?_, ?_⟩
    · intro y0 y1 y2 y3 y4
      unfold spec_l10Total.l0
      repeat' first
      | (with_reducible exact ih0 _ _ _ _ _)
      | (with_reducible exact ih1 _ _ _ _ _ _ _ _)
      | (with_reducible exact LeO.refl _)
      | (with_reducible exact LeO.none _)
      | (with_reducible refine LeO.ite ?_ ?_)
      | (with_reducible refine LeO.bind ?_ (fun _ => ?_))
      | exact ih0 _ _ _ _ _
      | exact ih1 _ _ _ _ _ _ _ _
      | exact LeO.none _
      | refine LeO.ite ?_ ?_
      | refine LeO.bind ?_ (fun _ => ?_)
    · intro y0 y1 y2 y3 y4 y5 y6 y7
      unfold spec_l10Total.l1
      repeat' first
      | (with_reducible exact ih0 _ _ _ _ _)
      | (with_reducible exact ih1 _ _ _ _ _ _ _ _)
      | (with_reducible exact LeO.refl _)
      | (with_reducible exact LeO.none _)
      | (with_reducible refine LeO.ite ?_ ?_)
      | (with_reducible refine LeO.bind ?_ (fun _ => ?_))
      | exact ih0 _ _ _ _ _
      | exact ih1 _ _ _ _ _ _ _ _
      | exact LeO.none _
      | refine LeO.ite ?_ ?_
      | refine LeO.bind ?_ (fun _ => ?_)
theorem spec_l10Total.mono : ∀ a0 a1 k, LeO (spec_l10Total.f k a0 a1) (spec_l10Total.f (k + 1) a0 a1) := by
  intro a0 a1 k
  obtain ⟨ih0, ih1⟩ := spec_l10Total.mono_l k
  unfold spec_l10Total.f
  repeat' first
      | (with_reducible exact ih0 _ _ _ _ _)
      | (with_reducible exact ih1 _ _ _ _ _ _ _ _)
      | (with_reducible exact LeO.refl _)
      | (with_reducible exact LeO.none _)
      | (with_reducible refine LeO.ite ?_ ?_)
      | (with_reducible refine LeO.bind ?_ (fun _ => ?_))
      | exact ih0 _ _ _ _ _
      | exact ih1 _ _ _ _ _ _ _ _
      | exact LeO.none _
      | refine LeO.ite ?_ ?_
      | refine LeO.bind ?_ (fun _ => ?_)
set_option maxHeartbeats 8000000 in
set_option maxRecDepth 100000 in
theorem spec_l10Total.calls (k : Nat) (A0 : Option Addr) (c0 : Nat) (l0 : List (List (S43))) (a1 : Int) (r : Int) (w : World) (hr0 : Kd.C (Kd.slice 43 k43) w A0 l0.length l0) (hc0 : l0.length ≤ c0) (h : spec_l10Total.f k l0 a1 = some r) :
    Calls Try.prog 41 #[.slice A0 l0.length c0, .int .i64 a1] w fun e w' => e = .returned (.int .i64 r) ∧ Below w.heap.size w w' := by
  have hu43 := Try.underlying43
  have HR0 := Aside0.mk hr0
  have HC0 := Aside0.mk hc0
  clear hr0 hc0
  have HB := Aside0.mk (Below.refl w.heap.size w)
  have H : (spec_l10Total.l0 k a1 0 l0 (l0.length : Int) 0) = some r := h
  clear h
  have H' := Aside0.mk H
  clear H
  go_enter Try.func41, Try.ntmps41
  go_wp2
  go_loopg [5, 12] k (fun kq v5 v12 w' => ∃ (x5_1 : Int) (x12_1 : Int), v5 = .int .i64 x5_1 ∧ v12 = .int .i64 x12_1 ∧ Aside0 (spec_l10Total.l0 kq a1 x5_1 l0 (l0.length : Int) x12_1 = some r) ∧ Aside0 (kq ≤ k) ∧ Aside0 (Below w.heap.size w w'))
  case atStart => exact ⟨(0), (0), (by first | rfl | (simp; done) | (simp [*]; done)), (by first | rfl | (simp; done) | (simp [*]; done)), H', ⟨Nat.le_refl _⟩, ⟨by repeat (first | (with_reducible first | exact HB.out | apply below_alloc | apply pw_below_drewN | apply below_drew1) | exact HB.out)⟩⟩
  case round =>
    clear H'
    try clear p2
    obtain ⟨x5_1, x12_1, rfl, rfl, HA, HK1, HB⟩ := hrel
    cases gk with
    | zero => exact absurd HA.out (by simp [spec_l10Total.l0])
    | succ k1 =>
      have H := HA.out
      clear HA
      simp only [spec_l10Total.l0] at H
      by_cases c3 : x12_1 < (l0.length : Int)
      · rw [if_pos c3] at H
        have c3b0 : decide (x12_1 < (l0.length : Int)) = true := decide_eq_true c3
        clear c3
        by_cases c4 : 0 ≤ x12_1
        · rw [if_pos c4] at H
          have c4b0 : decide (0 ≤ x12_1) = true := decide_eq_true c4
          clear c4
          by_cases c5 : x12_1 < (l0.length : Int)
          · rw [if_pos c5] at H
            have c5b0 : decide (x12_1 < (l0.length : Int)) = true := decide_eq_true c5
            clear c5
            have H' := Aside0.mk H
            clear H
            have p336 : 0 ≤ (x12_1 : Int) := of_decide_eq_true (by first | (with_reducible assumption) | assumption)
            have q336 : x12_1 < (l0.length : Int) := of_decide_eq_true (by first | (with_reducible assumption) | assumption)
            obtain ⟨ad336, A336_0, c336_0, e336, hx336_0, hl336_0, hi336_0⟩ := at_L4 HR0.out x12_1 p336 q336
            cases e336
            replace hx336_0 := (HB.out.cell (World.block_lt_of_cell? w _ hx336_0)).trans hx336_0
            have HR336_0 := Aside0.mk hi336_0
            have HC336_0 := Aside0.mk hl336_0
            clear hi336_0 hl336_0
            replace p336 := eq_true p336
            replace q336 := eq_true q336
            go_wp2
            go_loopg [5, 18] k1 (fun kq v5 v18 w' => ∃ (x5_2 : Int) (x18_2 : Int), v5 = .int .i64 x5_2 ∧ v18 = .int .i64 x18_2 ∧ Aside0 (spec_l10Total.l1 kq a1 x5_2 l0 (l0.length : Int) x12_1 (rd_L4 l0 x12_1) ((rd_L4 l0 x12_1).length : Int) x18_2 = some r) ∧ Aside0 (kq ≤ k1) ∧ Aside0 (Below w.heap.size w w'))
            case atStart => exact ⟨(x5_1), (0), (by first | rfl | (simp; done) | (simp [*]; done)), (by first | rfl | (simp; done) | (simp [*]; done)), H', ⟨Nat.le_refl _⟩, ⟨by repeat (first | (with_reducible first | exact HB.out | apply below_alloc | apply pw_below_drewN | apply below_drew1) | exact HB.out)⟩⟩
            case round =>
              clear H'
              try clear p2
              try clear c3
              try clear c3b0
              try clear p3
              try clear q3
              try clear hx3
              try clear c4
              try clear c4b0
              try clear c5
              try clear c5b0
              try clear hx336_0
              try clear p2
              try clear p336
              try clear q336
              obtain ⟨x5_2, x18_2, rfl, rfl, HA, HK2, HB⟩ := hrel
              cases gk with
              | zero => exact absurd HA.out (by simp [spec_l10Total.l1])
              | succ k2 =>
                have H := HA.out
                clear HA
                simp only [spec_l10Total.l1] at H
                by_cases c6 : x18_2 < ((rd_L4 l0 x12_1).length : Int)
                · rw [if_pos c6] at H
                  have c6b0 : decide (x18_2 < ((rd_L4 l0 x12_1).length : Int)) = true := decide_eq_true c6
                  clear c6
                  by_cases c7 : 0 ≤ x18_2
                  · rw [if_pos c7] at H
                    have c7b0 : decide (0 ≤ x18_2) = true := decide_eq_true c7
                    clear c7
                    by_cases c8 : x18_2 < ((rd_L4 l0 x12_1).length : Int)
                    · rw [if_pos c8] at H
                      have c8b0 : decide (x18_2 < ((rd_L4 l0 x12_1).length : Int)) = true := decide_eq_true c8
                      clear c8
                      by_cases c9 : ((rd_T43 (rd_L4 l0 x12_1) x18_2).f0) = a1
                      · rw [if_pos c9] at H
                        have c9b0 : (((rd_T43 (rd_L4 l0 x12_1) x18_2).f0) == a1) = true := beq_iff_eq.mpr c9
                        have c9b1 : (((rd_T43 (rd_L4 l0 x12_1) x18_2).f0) != a1) = false := bne_eq_false_iff_eq.mpr c9
                        clear c9
                        have H' := Aside0.mk H
                        clear H
                        have p337 : 0 ≤ (x18_2 : Int) := of_decide_eq_true (by first | (with_reducible assumption) | assumption)
                        have q337 : x18_2 < ((rd_L4 l0 x12_1).length : Int) := of_decide_eq_true (by first | (with_reducible assumption) | assumption)
                        obtain ⟨ad337, e337, hx337_0, hx337_1⟩ := at_T43 HR336_0.out x18_2 p337 q337
                        cases e337
                        replace hx337_0 := (HB.out.cell (World.block_lt_of_cell? w _ hx337_0)).trans hx337_0
                        replace hx337_1 := (HB.out.cell (World.block_lt_of_cell? w _ hx337_1)).trans hx337_1
                        replace p337 := eq_true p337
                        replace q337 := eq_true q337
                        go_wp2_with (first | ((with_reducible refine gate_dst (N := 9) rfl ?_); refine box_event ?hg (N := 9) ?hd (cs := #[.int .i64 0, .int .i64 0]) (t := 43) ?hr ?_; (case hd => rfl); (case hg => rfl); (case hr => first | (go_simp; done) | (go_simp; rfl)); intro gb338 hg w10 hbox hb; have n0_ := Aside0.mk (below_step (by repeat (first | (with_reducible first | exact HB.out | apply below_alloc | apply pw_below_drewN | apply below_drew1) | exact HB.out)) hb); have n1_ := Aside0.mk (hbox); have n2_ := Aside0.mk ((by rw [hg]; exact (below_size (by repeat (first | (with_reducible first | exact HB.out | apply below_alloc | apply pw_below_drewN | apply below_drew1) | exact HB.out))) : w.heap.size ≤ gb338)); have n3_ := Aside0.mk ((by rw [hg]; exact (below_size (by repeat (first | (with_reducible first | exact HB.out | apply below_alloc | apply pw_below_drewN | apply below_drew1) | exact HB.out))) : w.heap.size ≤ gb338)); clear HB; have HB := n0_; have BK338 := n1_; have GW338 := n2_; have GE338 := n3_; clear n0_ n1_ n2_ n3_; clear hb hbox hg; have hcz11_0 : w10.cell? ⟨gb338, 0, none⟩ = some (.int .i64 0) := (blk_cell BK338.out 0).trans rfl; have hcz11_1 : w10.cell? ⟨gb338, 1, none⟩ = some (.int .i64 0) := (blk_cell BK338.out 1).trans rfl; have hfz11_0 := blk_frozen BK338.out 0; have hfz11_1 := blk_frozen BK338.out 1))
                        go_roundg k2
                        case measure => have := HK1.out; have := HK2.out; omega
                        case rel => exact ⟨(wrap64 (x5_2 + ((rd_T43 (rd_L4 l0 x12_1) x18_2).f1))), (wrap64 (x18_2 + 1)), (by first | rfl | (simp; done) | (simp [*]; done)), (by first | rfl | (simp; done) | (simp [*]; done)), H', ⟨by have := HK1.out; have := HK2.out; omega⟩, ⟨by repeat (first | (with_reducible first | exact HB.out | apply below_alloc | apply pw_below_drewN | apply below_drew1 | refine below_set ?_ GE338.out) | exact HB.out)⟩⟩
                      · rw [if_neg c9] at H
                        have c9b0 : (((rd_T43 (rd_L4 l0 x12_1) x18_2).f0) == a1) = false := beq_eq_false_iff_ne.mpr c9
                        have c9b1 : (((rd_T43 (rd_L4 l0 x12_1) x18_2).f0) != a1) = true := bne_iff_ne.mpr c9
                        have H' := Aside0.mk H
                        clear H
                        have p337 : 0 ≤ (x18_2 : Int) := of_decide_eq_true (by first | (with_reducible assumption) | assumption)
                        have q337 : x18_2 < ((rd_L4 l0 x12_1).length : Int) := of_decide_eq_true (by first | (with_reducible assumption) | assumption)
                        obtain ⟨ad337, e337, hx337_0, hx337_1⟩ := at_T43 HR336_0.out x18_2 p337 q337
                        cases e337
                        replace hx337_0 := (HB.out.cell (World.block_lt_of_cell? w _ hx337_0)).trans hx337_0
                        replace hx337_1 := (HB.out.cell (World.block_lt_of_cell? w _ hx337_1)).trans hx337_1
                        replace p337 := eq_true p337
                        replace q337 := eq_true q337
                        go_wp2_with (first | ((with_reducible refine gate_dst (N := 9) rfl ?_); refine box_event ?hg (N := 9) ?hd (cs := #[.int .i64 0, .int .i64 0]) (t := 43) ?hr ?_; (case hd => rfl); (case hg => rfl); (case hr => first | (go_simp; done) | (go_simp; rfl)); intro gb338 hg w12 hbox hb; have n0_ := Aside0.mk (below_step (by repeat (first | (with_reducible first | exact HB.out | apply below_alloc | apply pw_below_drewN | apply below_drew1) | exact HB.out)) hb); have n1_ := Aside0.mk (hbox); have n2_ := Aside0.mk ((by rw [hg]; exact (below_size (by repeat (first | (with_reducible first | exact HB.out | apply below_alloc | apply pw_below_drewN | apply below_drew1) | exact HB.out))) : w.heap.size ≤ gb338)); have n3_ := Aside0.mk ((by rw [hg]; exact (below_size (by repeat (first | (with_reducible first | exact HB.out | apply below_alloc | apply pw_below_drewN | apply below_drew1) | exact HB.out))) : w.heap.size ≤ gb338)); clear HB; have HB := n0_; have BK338 := n1_; have GW338 := n2_; have GE338 := n3_; clear n0_ n1_ n2_ n3_; clear hb hbox hg; have hcz13_0 : w12.cell? ⟨gb338, 0, none⟩ = some (.int .i64 0) := (blk_cell BK338.out 0).trans rfl; have hcz13_1 : w12.cell? ⟨gb338, 1, none⟩ = some (.int .i64 0) := (blk_cell BK338.out 1).trans rfl; have hfz13_0 := blk_frozen BK338.out 0; have hfz13_1 := blk_frozen BK338.out 1))
                        go_roundg k2
                        case measure => have := HK1.out; have := HK2.out; omega
                        case rel => exact ⟨(x5_2), (wrap64 (x18_2 + 1)), (by first | rfl | (simp; done) | (simp [*]; done)), (by first | rfl | (simp; done) | (simp [*]; done)), H', ⟨by have := HK1.out; have := HK2.out; omega⟩, ⟨by repeat (first | (with_reducible first | exact HB.out | apply below_alloc | apply pw_below_drewN | apply below_drew1 | refine below_set ?_ GE338.out) | exact HB.out)⟩⟩
                    · rw [if_neg c8] at H
                      exact absurd H (by simp)
                  · rw [if_neg c7] at H
                    exact absurd H (by simp)
                · rw [if_neg c6] at H
                  have c6b0 : decide (x18_2 < ((rd_L4 l0 x12_1).length : Int)) = false := decide_eq_false c6
                  clear c6
                  have H' := Aside0.mk H
                  clear H
                  go_wp2
                  go_roundg k2
                  case measure => have := HK1.out; have := HK2.out; omega
                  case rel => exact ⟨(x5_2), (wrap64 (x12_1 + 1)), (by first | rfl | (simp; done) | (simp [*]; done)), (by first | rfl | (simp; done) | (simp [*]; done)), H', ⟨by have := HK1.out; have := HK2.out; omega⟩, ⟨by repeat (first | (with_reducible first | exact HB.out | apply below_alloc | apply pw_below_drewN | apply below_drew1) | exact HB.out)⟩⟩
          · rw [if_neg c5] at H
            exact absurd H (by simp)
        · rw [if_neg c4] at H
          exact absurd H (by simp)
      · rw [if_neg c3] at H
        have c3b0 : decide (x12_1 < (l0.length : Int)) = false := decide_eq_false c3
        clear c3
        obtain rfl := Option.some.inj H
        go_wp2
        go_ret
        exact ⟨by first | rfl | (simp [errW_none, errW_some] <;> rfl) | (simp [*, errW_none, errW_some] <;> rfl), by repeat (first | (with_reducible first | exact HB.out | apply below_alloc | apply pw_below_drewN | apply below_drew1) | exact HB.out)⟩

end Go.Proofs.Ytehldgkpkjgocaa.Fn
namespace Go.Proofs.Ytehldgkpkjgocaa.Fn
open Go.RowKit Go.Proofs.YtehldgkpkjgocaaW.PrintWords Go.Proofs.YtehldgkpkjgocaaW.PrintLast Go.Proofs.YtehldgkpkjgocaaW.PrintMore
attribute [local go_sem] max2_int min2_int max_two min_two max_three min_three max_four min_four   -- for this text's walks alone
set_option linter.unusedVariables false
set_option linter.unusedSimpArgs false

/-! ### impl_total: function 43 -/
def impl_total.l0 : Nat → Int → Int → List (List (S43)) → Int → Int → Option (Int)
  | 0, _, _, _, _, _ => none
  | k + 1, x1, x5, x8, x9, x10 => if x10 < x9 then (if 0 ≤ x10 then (if x10 < (x8.length : Int) then ((impl_scoreIn.f k (rd_L4 x8 x10) x1).bind fun t343 => (impl_total.l0 k x1 (wrap64 (x5 + t343)) x8 x9 (wrap64 (x10 + 1)))) else (none)) else (none)) else (some x5)
def impl_total.f (k : Nat) (l0 : List (List (S43))) (a1 : Int) : Option (Int) := impl_total.l0 k a1 0 l0 (l0.length : Int) 0
theorem impl_total.mono_l : ∀ k, (∀ y0 y1 y2 y3 y4, LeO (impl_total.l0 k y0 y1 y2 y3 y4) (impl_total.l0 (k + 1) y0 y1 y2 y3 y4))
  | 0 => fun _ _ _ _ _ r h => by simp [impl_total.l0] at h
  | k + 1 => by
    have ih0 := impl_total.mono_l k
    · intro y0 y1 y2 y3 y4
      unfold impl_total.l0
      repeat' first
      | (with_reducible exact ih0 _ _ _ _ _)
      | (with_reducible exact impl_scoreIn.mono _ _ _)
      | (with_reducible exact LeO.refl _)
      | (with_reducible exact LeO.none _)
      | (with_reducible refine LeO.ite ?_ ?_)
      | (with_reducible refine LeO.bind ?_ (fun _ => ?_))
      | exact ih0 _ _ _ _ _
      | exact impl_scoreIn.mono _ _ _
      | exact LeO.none _
      | refine LeO.ite ?_ ?_
      | refine LeO.bind ?_ (fun _ => ?_)
theorem impl_total.mono : ∀ a0 a1 k, LeO (impl_total.f k a0 a1) (impl_total.f (k + 1) a0 a1) := by
  intro a0 a1 k
  have ih0 := impl_total.mono_l k
  unfold impl_total.f
  repeat' first
      | (with_reducible exact ih0 _ _ _ _ _)
      | (with_reducible exact impl_scoreIn.mono _ _ _)
      | (with_reducible exact LeO.refl _)
      | (with_reducible exact LeO.none _)
      | (with_reducible refine LeO.ite ?_ ?_)
      | (with_reducible refine LeO.bind ?_ (fun _ => ?_))
      | exact ih0 _ _ _ _ _
      | exact impl_scoreIn.mono _ _ _
      | exact LeO.none _
      | refine LeO.ite ?_ ?_
      | refine LeO.bind ?_ (fun _ => ?_)
set_option maxHeartbeats 8000000 in
set_option maxRecDepth 100000 in
theorem impl_total.calls (k : Nat) (A0 : Option Addr) (c0 : Nat) (l0 : List (List (S43))) (a1 : Int) (r : Int) (w : World) (hr0 : Kd.C (Kd.slice 43 k43) w A0 l0.length l0) (hc0 : l0.length ≤ c0) (h : impl_total.f k l0 a1 = some r) :
    Calls Try.prog 43 #[.slice A0 l0.length c0, .int .i64 a1] w fun e w' => e = .returned (.int .i64 r) ∧ Below w.heap.size w w' := by
  have HR0 := Aside0.mk hr0
  have HC0 := Aside0.mk hc0
  clear hr0 hc0
  have HB := Aside0.mk (Below.refl w.heap.size w)
  have H : (impl_total.l0 k a1 0 l0 (l0.length : Int) 0) = some r := h
  clear h
  have H' := Aside0.mk H
  clear H
  go_enter Try.func43, Try.ntmps43
  go_wp2
  go_loopg [5, 10] k (fun kq v5 v10 w' => ∃ (x5_1 : Int) (x10_1 : Int), v5 = .int .i64 x5_1 ∧ v10 = .int .i64 x10_1 ∧ Aside0 (impl_total.l0 kq a1 x5_1 l0 (l0.length : Int) x10_1 = some r) ∧ Aside0 (kq ≤ k) ∧ Aside0 (Below w.heap.size w w'))
  case atStart => exact ⟨(0), (0), (by first | rfl | (simp; done) | (simp [*]; done)), (by first | rfl | (simp; done) | (simp [*]; done)), H', ⟨Nat.le_refl _⟩, ⟨by repeat (first | (with_reducible first | exact HB.out | apply below_alloc | apply pw_below_drewN | apply below_drew1) | exact HB.out)⟩⟩
  case round =>
    clear H'
    try clear p2
    obtain ⟨x5_1, x10_1, rfl, rfl, HA, HK1, HB⟩ := hrel
    cases gk with
    | zero => exact absurd HA.out (by simp [impl_total.l0])
    | succ k1 =>
      have H := HA.out
      clear HA
      simp only [impl_total.l0] at H
      by_cases c3 : x10_1 < (l0.length : Int)
      · rw [if_pos c3] at H
        have c3b0 : decide (x10_1 < (l0.length : Int)) = true := decide_eq_true c3
        clear c3
        by_cases c4 : 0 ≤ x10_1
        · rw [if_pos c4] at H
          have c4b0 : decide (0 ≤ x10_1) = true := decide_eq_true c4
          clear c4
          by_cases c5 : x10_1 < (l0.length : Int)
          · rw [if_pos c5] at H
            have c5b0 : decide (x10_1 < (l0.length : Int)) = true := decide_eq_true c5
            clear c5
            replace H := Option.bind_eq_some_iff.mp H
            obtain ⟨t343, A60, H⟩ := H
            replace H : (impl_total.l0 k1 a1 (wrap64 (x5_1 + t343)) l0 (l0.length : Int) (wrap64 (x10_1 + 1))) = some r := H
            have A6 := Aside0.mk A60
            clear A60
            have H' := Aside0.mk H
            clear H
            have p342 : 0 ≤ (x10_1 : Int) := of_decide_eq_true (by first | (with_reducible assumption) | assumption)
            have q342 : x10_1 < (l0.length : Int) := of_decide_eq_true (by first | (with_reducible assumption) | assumption)
            obtain ⟨ad342, A342_0, c342_0, e342, hx342_0, hl342_0, hi342_0⟩ := at_L4 HR0.out x10_1 p342 q342
            cases e342
            replace hx342_0 := (HB.out.cell (World.block_lt_of_cell? w _ hx342_0)).trans hx342_0
            have HR342_0 := Aside0.mk hi342_0
            have HC342_0 := Aside0.mk hl342_0
            clear hi342_0 hl342_0
            replace p342 := eq_true p342
            replace q342 := eq_true q342
            go_wp2_with (first | ((with_reducible refine gate_callee (f := 39) rfl ?_); refine goesL_ (some 17) rfl rfl Try.func39 (by kernel_rfl) rfl #[.slice A342_0 (rd_L4 l0 x10_1).length c342_0, .int .i64 a1] rfl (by (try simp only [List.map_toArray, List.map_cons, List.map_nil]); first | done | rfl | (simp only [List.length_drop, List.length_take]; rfl)) ?_; (with_reducible refine (impl_scoreIn.calls k1 _ _ (rd_L4 l0 x10_1) a1 t343 _ ?side1 ?side2 A6.out).mono ?_); (case side1 => repeat (first | exact (Kd.C_below HR342_0.out HB.out) | (with_reducible refine Kd.C_alloc ?_ _) | (with_reducible refine Kd.C_drewN ?_ _) | (with_reducible refine Kd.C_drew ?_))); (case side2 => exact HC342_0.out); rintro e w7 ⟨rfl, hb⟩; refine ⟨_, rfl, ?_⟩; have n0_ := Aside0.mk (below_step (by repeat (first | (with_reducible first | exact HB.out | apply below_alloc | apply pw_below_drewN | apply below_drew1) | exact HB.out)) hb); clear HB; have HB := n0_; clear n0_; (try clear hb); (try clear hb2); (try clear hk); (try clear hi)))
            go_roundg k1
            case measure => have := HK1.out; omega
            case rel => exact ⟨(wrap64 (x5_1 + t343)), (wrap64 (x10_1 + 1)), (by first | rfl | (simp; done) | (simp [*]; done)), (by first | rfl | (simp; done) | (simp [*]; done)), H', ⟨by have := HK1.out; omega⟩, ⟨by repeat (first | (with_reducible first | exact HB.out | apply below_alloc | apply pw_below_drewN | apply below_drew1) | exact HB.out)⟩⟩
          · rw [if_neg c5] at H
            exact absurd H (by simp)
        · rw [if_neg c4] at H
          exact absurd H (by simp)
      · rw [if_neg c3] at H
        have c3b0 : decide (x10_1 < (l0.length : Int)) = false := decide_eq_false c3
        clear c3
        obtain rfl := Option.some.inj H
        go_wp2
        go_ret
        exact ⟨by first | rfl | (simp [errW_none, errW_some] <;> rfl) | (simp [*, errW_none, errW_some] <;> rfl), by repeat (first | (with_reducible first | exact HB.out | apply below_alloc | apply pw_below_drewN | apply below_drew1) | exact HB.out)⟩

end Go.Proofs.Ytehldgkpkjgocaa.Fn
namespace Go.Proofs.Ytehldgkpkjgocaa.Pure
open Go.RowKit Go.Proofs.Ytehldgkpkjgocaa.Fn Go.Proofs.YtehldgkpkjgocaaW.PrintWords Go.Proofs.YtehldgkpkjgocaaW.PrintLast Go.Proofs.YtehldgkpkjgocaaW.PrintMore
set_option linter.unusedSimpArgs false

/-- The docs are apart. -/
def Apart : List S43 → Prop
  | [] => True
  | x :: t => (∀ y ∈ t, ¬ y.f0 = x.f0) ∧ Apart t
theorem apart_of (t : List S43) : ∀ p, goodOn p t = true → Apart t ∧ ∀ x ∈ t, ∀ y ∈ p, ¬ x.f0 = y.f0 := by
  induction t with
  | nil => intro p _; exact ⟨trivial, by simp⟩
  | cons x t ih =>
    intro p h
    simp only [goodOn, okAt, Bool.and_eq_true, List.all_eq_true, decide_eq_true_eq] at h
    obtain ⟨⟨_, hx⟩, ht⟩ := h
    obtain ⟨h1, h2⟩ := ih _ ht
    refine ⟨⟨fun y hy => h2 y hy x (by simp), h1⟩, fun z hz y hy => ?_⟩
    rcases List.mem_cons.1 hz with rfl | hz
    · exact hx y hy
    · exact h2 z hz y (by simp [hy])
theorem apart_good {l : List S43} (h : goodRow l = true) : Apart l := by
  simp only [goodRow, Bool.and_eq_true] at h
  exact (apart_of l [] h.2).1
theorem wrap_self (x : Int) : wrap64 (wrap64 x) = wrap64 x := by
  unfold wrap64; omega
theorem scoreOf_none (t : List S43) (d : Int) (h : ∀ y ∈ t, ¬ y.f0 = d) : scoreOf t d = 0 := by
  have : t.find? (fun y => decide (y.f0 = d)) = none := by simpa using h
  simp only [scoreOf, this]
theorem total_inner (L : List (List S43)) (d : Int) (n : Int) (i : Nat) (l : List S43) (hl : l.length ≤ 1048576) (r : Int) :
    ∀ (t : List S43) (j : Nat) (s : Int), l.drop j = t → j ≤ l.length → Apart t → wrap64 s = s →
      Ev (fun k => spec_l10Total.l0 k d (wrap64 (s + scoreOf t d)) L n (wrap64 ((i : Int) + 1))) r → Ev (fun k => spec_l10Total.l1 k d s L n i l l.length j) r := by
  intro t
  induction t with
  | nil =>
    intro j s h _ _ hs hr
    have := drop_nil h
    (refine Ev.up ?_; simp only [spec_l10Total.l1, decT])
    (repeat (first | with_reducible refine Ev.bindS ?_ | (with_reducible refine Ev.ifp ?_ ?_; (· first | omega | assumption | rfl | (simp only [List.length_map, List.length_replicate, List.length_take, List.length_drop, List.length_append, List.length_cons, List.length_nil, List.length_set]; omega) | (simp; done))) | (with_reducible refine Ev.ifn ?_ ?_; (· first | omega | assumption | rfl | (simp only [List.length_map, List.length_replicate, List.length_take, List.length_drop, List.length_append, List.length_cons, List.length_nil, List.length_set]; omega) | (simp; done)))))
    have e : scoreOf [] d = 0 := rfl
    rw [e, Int.add_zero, hs] at hr
    exact hr
  | cons y t ih =>
    intro j s h hj ha hs hr
    obtain ⟨h1, h2, h3⟩ := drop_cons h
    have ih := fun s => ih (j + 1) s h3 (by omega) ha.2
    (refine Ev.up ?_; simp only [spec_l10Total.l1, decT])
    rw [rd43_at h2, wrap_succ (by omega)]
    by_cases hy : y.f0 = d
    · (repeat (first | with_reducible refine Ev.bindS ?_ | (with_reducible refine Ev.ifp ?_ ?_; (· first | omega | assumption | rfl | (simp only [List.length_map, List.length_replicate, List.length_take, List.length_drop, List.length_append, List.length_cons, List.length_nil, List.length_set]; omega) | (simp; done))) | (with_reducible refine Ev.ifn ?_ ?_; (· first | omega | assumption | rfl | (simp only [List.length_map, List.length_replicate, List.length_take, List.length_drop, List.length_append, List.length_cons, List.length_nil, List.length_set]; omega) | (simp; done)))))
      refine ih _ (wrap_self _) ?_
      have e : scoreOf (y :: t) d = y.f1 := by simp [scoreOf, hy]
      have e2 : scoreOf t d = 0 := scoreOf_none t d (by rw [← hy]; exact ha.1)
      rw [e] at hr
      rw [e2, Int.add_zero, wrap_self]
      exact hr
    · (repeat (first | with_reducible refine Ev.bindS ?_ | (with_reducible refine Ev.ifp ?_ ?_; (· first | omega | assumption | rfl | (simp only [List.length_map, List.length_replicate, List.length_take, List.length_drop, List.length_append, List.length_cons, List.length_nil, List.length_set]; omega) | (simp; done))) | (with_reducible refine Ev.ifn ?_ ?_; (· first | omega | assumption | rfl | (simp only [List.length_map, List.length_replicate, List.length_take, List.length_drop, List.length_append, List.length_cons, List.length_nil, List.length_set]; omega) | (simp; done)))))
      refine ih _ hs ?_
      have e : scoreOf (y :: t) d = scoreOf t d := by simp [scoreOf, hy]
      rw [e] at hr
      exact hr
theorem total_twin (L : List (List S43)) (hL : L.length ≤ 1048576) (hR : ∀ y ∈ L, y.length ≤ 1048576) (hg : L.all goodRow = true) (d : Int) :
    Twin Eq (fun k => spec_l10Total.f k L d) (fun k => impl_total.f k L d) := by
  have key : ∀ (t : List (List S43)) (i : Nat) (s : Int), L.drop i = t → i ≤ L.length → wrap64 s = s →
      Twin Eq (fun k => spec_l10Total.l0 k d s L L.length i) (fun k => impl_total.l0 k d s L L.length i) := by
    intro t
    induction t with
    | nil =>
      intro i s h _ _
      have := drop_nil h
      refine Twin.up ?_
      simp only [spec_l10Total.l0, impl_total.l0]
      (repeat (first | with_reducible refine Twin.bindSL ?_ | with_reducible refine Twin.bindSR ?_ | (with_reducible refine Twin.ifpL ?_ ?_; (· first | omega | assumption | rfl | (simp only [List.length_map, List.length_replicate, List.length_take, List.length_drop, List.length_append, List.length_cons, List.length_nil, List.length_set]; omega) | (simp; done))) | (with_reducible refine Twin.ifnL ?_ ?_; (· first | omega | assumption | rfl | (simp only [List.length_map, List.length_replicate, List.length_take, List.length_drop, List.length_append, List.length_cons, List.length_nil, List.length_set]; omega) | (simp; done))) | (with_reducible refine Twin.ifpR ?_ ?_; (· first | omega | assumption | rfl | (simp only [List.length_map, List.length_replicate, List.length_take, List.length_drop, List.length_append, List.length_cons, List.length_nil, List.length_set]; omega) | (simp; done))) | (with_reducible refine Twin.ifnR ?_ ?_; (· first | omega | assumption | rfl | (simp only [List.length_map, List.length_replicate, List.length_take, List.length_drop, List.length_append, List.length_cons, List.length_nil, List.length_set]; omega) | (simp; done)))))
      exact Twin.val rfl
    | cons x t ih =>
      intro i s h hi hs
      obtain ⟨h1, h2, h3⟩ := drop_cons h
      have hx := List.mem_of_getElem? h2
      have hxl := hR x hx
      have ha := apart_good ((List.all_eq_true.1 hg) x hx)
      obtain ⟨a, b, hab, h4, h5⟩ := ih (i + 1) (wrap64 (s + scoreOf x d)) h3 (by omega) (wrap_self _)
      refine Twin.of hab ?_ ?_
      · (refine Ev.up ?_; simp only [spec_l10Total.l0, decT])
        rw [rdL4_at h2]
        (repeat (first | with_reducible refine Ev.bindS ?_ | (with_reducible refine Ev.ifp ?_ ?_; (· first | omega | assumption | rfl | (simp only [List.length_map, List.length_replicate, List.length_take, List.length_drop, List.length_append, List.length_cons, List.length_nil, List.length_set]; omega) | (simp; done))) | (with_reducible refine Ev.ifn ?_ ?_; (· first | omega | assumption | rfl | (simp only [List.length_map, List.length_replicate, List.length_take, List.length_drop, List.length_append, List.length_cons, List.length_nil, List.length_set]; omega) | (simp; done)))))
        refine total_inner L d L.length i x hxl a x 0 s (by simp) (by omega) ha hs ?_
        rw [wrap_succ (by omega)]
        exact h4
      · (refine Ev.up ?_; simp only [impl_total.l0, decT])
        rw [rdL4_at h2, wrap_succ (by omega)]
        (repeat (first | with_reducible refine Ev.bindS ?_ | (with_reducible refine Ev.ifp ?_ ?_; (· first | omega | assumption | rfl | (simp only [List.length_map, List.length_replicate, List.length_take, List.length_drop, List.length_append, List.length_cons, List.length_nil, List.length_set]; omega) | (simp; done))) | (with_reducible refine Ev.ifn ?_ ?_; (· first | omega | assumption | rfl | (simp only [List.length_map, List.length_replicate, List.length_take, List.length_drop, List.length_append, List.length_cons, List.length_nil, List.length_set]; omega) | (simp; done)))))
        exact Ev.bind (scoreIn_ev x hxl d) h5
  have h := key L 0 0 (by simp) (by omega) (wrap_ok (by omega) (by omega))
  exact h
theorem bound_same (L : List (List S43)) (d : Int) : ∀ k s n i, impl_bound.l0 k d s L n i = spec_l10Bound.l0 k d s L n i := by
  intro k
  induction k with
  | zero => intro s n i; simp only [impl_bound.l0, spec_l10Bound.l0]
  | succ k ih => intro s n i; simp only [impl_bound.l0, spec_l10Bound.l0, ih]
theorem bound_twin (L : List (List S43)) (hL : L.length ≤ 1048576) (d : Int) (hd : 0 ≤ d) : Twin Eq (fun k => spec_l10Bound.f k L d) (fun k => impl_bound.f k L d) := by
  have key : ∀ (t : List (List S43)) (i : Nat) (s : Int), L.drop i = t → i ≤ L.length → ∃ r, Ev (fun k => spec_l10Bound.l0 k d s L L.length i) r := by
    intro t
    induction t with
    | nil =>
      intro i s h _
      have := drop_nil h
      refine ⟨s, ?_⟩
      (refine Ev.up ?_; simp only [spec_l10Bound.l0, decT])
      (repeat (first | with_reducible refine Ev.bindS ?_ | (with_reducible refine Ev.ifp ?_ ?_; (· first | omega | assumption | rfl | (simp only [List.length_map, List.length_replicate, List.length_take, List.length_drop, List.length_append, List.length_cons, List.length_nil, List.length_set]; omega) | (simp; done))) | (with_reducible refine Ev.ifn ?_ ?_; (· first | omega | assumption | rfl | (simp only [List.length_map, List.length_replicate, List.length_take, List.length_drop, List.length_append, List.length_cons, List.length_nil, List.length_set]; omega) | (simp; done)))))
      exact Ev.val rfl
    | cons x t ih =>
      intro i s h hi
      obtain ⟨h1, h2, h3⟩ := drop_cons h
      by_cases hlt : d < (x.length : Int)
      · obtain ⟨r, hr⟩ := ih (i + 1) (wrap64 (s + (rd_T43 x d).f1)) h3 (by omega)
        refine ⟨r, ?_⟩
        (refine Ev.up ?_; simp only [spec_l10Bound.l0, decT])
        rw [rdL4_at h2, wrap_succ (by omega)]
        (repeat (first | with_reducible refine Ev.bindS ?_ | (with_reducible refine Ev.ifp ?_ ?_; (· first | omega | assumption | rfl | (simp only [List.length_map, List.length_replicate, List.length_take, List.length_drop, List.length_append, List.length_cons, List.length_nil, List.length_set]; omega) | (simp; done))) | (with_reducible refine Ev.ifn ?_ ?_; (· first | omega | assumption | rfl | (simp only [List.length_map, List.length_replicate, List.length_take, List.length_drop, List.length_append, List.length_cons, List.length_nil, List.length_set]; omega) | (simp; done)))))
        exact hr
      · obtain ⟨r, hr⟩ := ih (i + 1) s h3 (by omega)
        refine ⟨r, ?_⟩
        (refine Ev.up ?_; simp only [spec_l10Bound.l0, decT])
        rw [rdL4_at h2, wrap_succ (by omega)]
        (repeat (first | with_reducible refine Ev.bindS ?_ | (with_reducible refine Ev.ifp ?_ ?_; (· first | omega | assumption | rfl | (simp only [List.length_map, List.length_replicate, List.length_take, List.length_drop, List.length_append, List.length_cons, List.length_nil, List.length_set]; omega) | (simp; done))) | (with_reducible refine Ev.ifn ?_ ?_; (· first | omega | assumption | rfl | (simp only [List.length_map, List.length_replicate, List.length_take, List.length_drop, List.length_append, List.length_cons, List.length_nil, List.length_set]; omega) | (simp; done)))))
        exact hr
  obtain ⟨r, hr⟩ := key L 0 0 (by simp) (by omega)
  refine Twin.of rfl (a := r) hr ?_
  exact Ev.same (K := 0) (fun k _ => by simp only [impl_bound.f]; exact bound_same L d k _ _ _) hr
end Go.Proofs.Ytehldgkpkjgocaa.Pure
namespace Go.Proofs.Ytehldgkpkjgocaa.Pure
open Go.RowKit Go.Proofs.Ytehldgkpkjgocaa.Fn Go.Proofs.YtehldgkpkjgocaaW.PrintWords Go.Proofs.YtehldgkpkjgocaaW.PrintLast Go.Proofs.YtehldgkpkjgocaaW.PrintMore
set_option linter.unusedSimpArgs false

theorem boundAt_twin (L : List (List S43)) (hL : L.length ≤ 1048576) (hR : ∀ y ∈ L, y.length ≤ 1048576) (a : Int) :
    Twin Eq (fun k => spec_BoundAt.f k L a) (fun k => impl_BoundAt.f k L a) := by
  simp only [spec_BoundAt.f, impl_BoundAt.f, specIn_eq, within_eq]
  refine Twin.bindL (specRows_ev L hL hR) (Twin.bindR (implRows_ev L hL hR) ?_)
  cases hr : rowsOk L with
  | false => (repeat (first | with_reducible refine Twin.bindSL ?_ | with_reducible refine Twin.bindSR ?_ | (with_reducible refine Twin.ifpL ?_ ?_; (· first | omega | assumption | rfl | (simp only [List.length_map, List.length_replicate, List.length_take, List.length_drop, List.length_append, List.length_cons, List.length_nil, List.length_set]; omega) | (simp; done))) | (with_reducible refine Twin.ifnL ?_ ?_; (· first | omega | assumption | rfl | (simp only [List.length_map, List.length_replicate, List.length_take, List.length_drop, List.length_append, List.length_cons, List.length_nil, List.length_set]; omega) | (simp; done))) | (with_reducible refine Twin.ifpR ?_ ?_; (· first | omega | assumption | rfl | (simp only [List.length_map, List.length_replicate, List.length_take, List.length_drop, List.length_append, List.length_cons, List.length_nil, List.length_set]; omega) | (simp; done))) | (with_reducible refine Twin.ifnR ?_ ?_; (· first | omega | assumption | rfl | (simp only [List.length_map, List.length_replicate, List.length_take, List.length_drop, List.length_append, List.length_cons, List.length_nil, List.length_set]; omega) | (simp; done))))); exact Twin.val rfl
  | true =>
    simp only [decT]
    (repeat (first | with_reducible refine Twin.bindSL ?_ | with_reducible refine Twin.bindSR ?_ | (with_reducible refine Twin.ifpL ?_ ?_; (· first | omega | assumption | rfl | (simp only [List.length_map, List.length_replicate, List.length_take, List.length_drop, List.length_append, List.length_cons, List.length_nil, List.length_set]; omega) | (simp; done))) | (with_reducible refine Twin.ifnL ?_ ?_; (· first | omega | assumption | rfl | (simp only [List.length_map, List.length_replicate, List.length_take, List.length_drop, List.length_append, List.length_cons, List.length_nil, List.length_set]; omega) | (simp; done))) | (with_reducible refine Twin.ifpR ?_ ?_; (· first | omega | assumption | rfl | (simp only [List.length_map, List.length_replicate, List.length_take, List.length_drop, List.length_append, List.length_cons, List.length_nil, List.length_set]; omega) | (simp; done))) | (with_reducible refine Twin.ifnR ?_ ?_; (· first | omega | assumption | rfl | (simp only [List.length_map, List.length_replicate, List.length_take, List.length_drop, List.length_append, List.length_cons, List.length_nil, List.length_set]; omega) | (simp; done)))))
    refine Twin.if2 Iff.rfl (fun hd => ?_) (fun _ => Twin.val rfl)
    simp only [rowsOk, Bool.and_eq_true] at hr
    exact Twin.bind (bound_twin L hL a (by simp only [decide_eq_true_eq] at hd; omega)) (fun x y h => Twin.val (by rw [h]))
theorem FnExactBoundAt : ∀ (l0 : List (List (S40))) (a1 : Int), (l0.length ≤ maxLen ∧ ∀ y1 ∈ l0, (y1.length ≤ maxLen ∧ ∀ y2 ∈ y1, ((Lit.int .i64 y2.f0).wf = true ∧ (Lit.int .i64 y2.f1).wf = true))) → (Lit.int .i64 a1).wf = true → ∃ k, laws_FnExactBoundAt.f k l0 a1 = some true := by
  intro L a ⟨hl, hr⟩ _
  refine Ev.rounds (g := fun k => laws_FnExactBoundAt.f k L a) ?_
  simp only [laws_FnExactBoundAt.f]
  obtain ⟨r, h1, h2⟩ := szs_ev L hl (fun y hy => (hr y hy).1)
  refine Ev.bind h1 ?_
  by_cases h : r < 0
  · (repeat (first | with_reducible refine Ev.bindS ?_ | (with_reducible refine Ev.ifp ?_ ?_; (· first | omega | assumption | rfl | (simp only [List.length_map, List.length_replicate, List.length_take, List.length_drop, List.length_append, List.length_cons, List.length_nil, List.length_set]; omega) | (simp; done))) | (with_reducible refine Ev.ifn ?_ ?_; (· first | omega | assumption | rfl | (simp only [List.length_map, List.length_replicate, List.length_take, List.length_drop, List.length_append, List.length_cons, List.length_nil, List.length_set]; omega) | (simp; done))))); exact Ev.val rfl
  · obtain ⟨h3, h4⟩ := h2 (by omega)
    have ht := tos_ev L h3 h4
    have hm : (L.map (List.map cv)).length ≤ 1048576 := by rw [List.length_map]; exact h3
    have hm2 : ∀ y ∈ L.map (List.map cv), y.length ≤ 1048576 := by
      intro y hy
      obtain ⟨x, hx, rfl⟩ := List.mem_map.1 hy
      rw [List.length_map]; exact h4 x hx
    obtain ⟨x, y, hxy, h5, h6⟩ := boundAt_twin _ hm hm2 a
    subst hxy
    (repeat (first | with_reducible refine Ev.bindS ?_ | (with_reducible refine Ev.ifp ?_ ?_; (· first | omega | assumption | rfl | (simp only [List.length_map, List.length_replicate, List.length_take, List.length_drop, List.length_append, List.length_cons, List.length_nil, List.length_set]; omega) | (simp; done))) | (with_reducible refine Ev.ifn ?_ ?_; (· first | omega | assumption | rfl | (simp only [List.length_map, List.length_replicate, List.length_take, List.length_drop, List.length_append, List.length_cons, List.length_nil, List.length_set]; omega) | (simp; done)))))
    refine Ev.bind ht (Ev.bind h5 (Ev.bind ht (Ev.bind h6 ?_)))
    (repeat (first | with_reducible refine Ev.bindS ?_ | (with_reducible refine Ev.ifp ?_ ?_; (· first | omega | assumption | rfl | (simp only [List.length_map, List.length_replicate, List.length_take, List.length_drop, List.length_append, List.length_cons, List.length_nil, List.length_set]; omega) | (simp; done))) | (with_reducible refine Ev.ifn ?_ ?_; (· first | omega | assumption | rfl | (simp only [List.length_map, List.length_replicate, List.length_take, List.length_drop, List.length_append, List.length_cons, List.length_nil, List.length_set]; omega) | (simp; done)))))
    (refine Ev.up ?_; simp only [laws_FnExactBoundAt.j0, decT])
    simp only [bne_self_eq_false]
    (repeat (first | with_reducible refine Ev.bindS ?_ | (with_reducible refine Ev.ifp ?_ ?_; (· first | omega | assumption | rfl | (simp only [List.length_map, List.length_replicate, List.length_take, List.length_drop, List.length_append, List.length_cons, List.length_nil, List.length_set]; omega) | (simp; done))) | (with_reducible refine Ev.ifn ?_ ?_; (· first | omega | assumption | rfl | (simp only [List.length_map, List.length_replicate, List.length_take, List.length_drop, List.length_append, List.length_cons, List.length_nil, List.length_set]; omega) | (simp; done)))))
    refine Ev.bind ht (Ev.bind (eqs_ev _ hm hm2) ?_)
    (repeat (first | with_reducible refine Ev.bindS ?_ | (with_reducible refine Ev.ifp ?_ ?_; (· first | omega | assumption | rfl | (simp only [List.length_map, List.length_replicate, List.length_take, List.length_drop, List.length_append, List.length_cons, List.length_nil, List.length_set]; omega) | (simp; done))) | (with_reducible refine Ev.ifn ?_ ?_; (· first | omega | assumption | rfl | (simp only [List.length_map, List.length_replicate, List.length_take, List.length_drop, List.length_append, List.length_cons, List.length_nil, List.length_set]; omega) | (simp; done)))))
    exact Ev.val rfl
end Go.Proofs.Ytehldgkpkjgocaa.Pure
namespace Go.Proofs.Ytehldgkpkjgocaa.OpenA
open Go.RowKit Go.Deep Go.ChangeShapes Go.Joins Go.Proofs.YtehldgkpkjgocaaW Go.Proofs.YtehldgkpkjgocaaW.PrintWords

/-- What can be read as data of type t can be read as kind d, and is well formed. -/
def Op (P : Program) (t : TypeId) {α : Type} (d : Kd α) (Wf : α → Prop) : Prop :=
  ∀ {H : Type} {enc : TypeId × Value → H} {w : World} {base : Nat} {spare : Nat → Bool} {held : Bool} {fuel : Nat} {cs : List Value} {x : DataW H × List MemPlace},
    DataW.trod enc P w base spare held fuel t cs = some x → ∃ a : α, d.K w a cs ∧ Wf a

variable {P : Program} {t e : TypeId}

theorem op_int {k : IntKind} (hu : P.underlying t = some (.int k)) : Op P t (Kd.int k) (fun n => (Lit.int k n).wf = true) := by
  intro H enc w base spare held fuel cs x h
  obtain ⟨n, rfl, _, hw⟩ := DataW.trod_int hu h
  exact ⟨n, rfl, hw⟩
theorem op_bool (hu : P.underlying t = some .bool) : Op P t Kd.bool (fun _ => True) := by
  intro H enc w base spare held fuel cs x h
  obtain ⟨b, rfl, _⟩ := DataW.trod_bool hu h
  exact ⟨b, rfl, trivial⟩
theorem op_string (hu : P.underlying t = some .string) : Op P t Kd.string (fun s => s.size ≤ maxLen) := by
  intro H enc w base spare held fuel cs x h
  obtain ⟨s, rfl, _, hs⟩ := DataW.trod_string hu h
  exact ⟨s, rfl, hs⟩
theorem cells_of {w : World} {base : Nat} {a : Addr} {n : Nat} {cs : List Value} (h : w.cells? base a n = some cs) : cs.length = n ∧ ∀ j u, cs[j]? = some u → w.cell? (a.add j) = some u := by
  unfold World.cells? at h
  split at h
  · have hl := mapM_some_length h
    refine ⟨by simpa using hl, fun j u hj => ?_⟩
    have hlt : j < n := by
      have := (List.getElem?_eq_some_iff.1 hj).1
      have : cs.length = n := by simpa using hl
      omega
    have := mapM_some_get h j j (by simp [hlt])
    rw [hj] at this
    exact this
  · simp at h
theorem op_slice {α : Type} {d : Kd α} {Wf : α → Prop} (hu : P.underlying t = some (.slice e)) (hc : P.cellsOf e = d.sz) (h : Op P e d Wf) :
    Op P t (Kd.slice e d) (fun xs => xs.length ≤ maxLen ∧ ∀ x ∈ xs, Wf x) := by
  intro H enc w base spare held fuel cs x hf
  rcases open_slice hu hf with ⟨rfl, _⟩ | ⟨a, len, cap, m, n, D, Pl, rfl, _, hl, hm, hmm, hxe, hall⟩
  · exact ⟨[], ⟨none, 0, rfl, Nat.le_refl _, rfl, by simp, fun h => absurd h (by simp)⟩, by simp, by simp⟩
  · have hlm : len ≤ m := by rw [hmm]; split <;> omega
    have hx : ∀ i, i < len → ∃ y : α × List Value, w.cells? base (a.add (i * P.cellsOf e)) (P.cellsOf e) = some y.2 ∧ d.K w y.1 y.2 ∧ Wf y.1 := by
      intro i hi
      obtain ⟨cs', h1, h2⟩ := hall i (by omega)
      obtain ⟨y, h3, h4⟩ := h h2
      exact ⟨⟨y, cs'⟩, h1, h3, h4⟩
    have hx' : ∃ ys : List (α × List Value), ys.length = len ∧ ∀ i y, ys[i]? = some y → w.cells? base (a.add (i * P.cellsOf e)) (P.cellsOf e) = some y.2 ∧ d.K w y.1 y.2 ∧ Wf y.1 := by
      clear hall hf hmm hlm hl hm hxe
      induction len with
      | zero => exact ⟨[], rfl, by simp⟩
      | succ len ih =>
        obtain ⟨ys, h1, h2⟩ := ih (fun i hi => hx i (by omega))
        obtain ⟨y, hy⟩ := hx len (by omega)
        refine ⟨ys ++ [y], by simp [h1], fun i z hz => ?_⟩
        rcases Nat.lt_or_ge i ys.length with hi | hi
        · rw [List.getElem?_append_left hi] at hz
          exact h2 i z hz
        · rw [List.getElem?_append_right hi] at hz
          have h0 : i - ys.length = 0 := by
            rcases Nat.eq_zero_or_pos (i - ys.length) with h0 | h0
            · exact h0
            · rw [List.getElem?_eq_none (by simp; omega)] at hz
              cases hz
          rw [h0] at hz
          have hz' : y = z := by simpa using hz
          have : i = len := by omega
          subst this
          subst hz'
          exact hy
    obtain ⟨ys, hl2, hys⟩ := hx'
    have hlen : (ys.map (·.1)).length = len := by simp [hl2]
    refine ⟨ys.map (·.1), ⟨some a, cap, by rw [hlen], by omega, ?_⟩, by simp only [maxLen] at *; omega, ?_⟩
    · refine ⟨rfl, by rw [hlen]; simp only [maxLen] at hm; omega, fun _ => ⟨a, rfl, fun j p hj => ?_⟩⟩
      rw [List.getElem?_map] at hj
      obtain ⟨y, hy, rfl⟩ := Option.map_eq_some_iff.1 hj
      obtain ⟨h1, h2, _⟩ := hys j y hy
      obtain ⟨h3, h4⟩ := cells_of h1
      refine ⟨y.2, by rw [h3, hc], h2, fun i u hu => ?_⟩
      have := h4 i u hu
      rw [PrintWords.add_add, hc] at this
      exact this
    · intro x hx
      obtain ⟨y, hy, rfl⟩ := List.mem_map.1 hx
      obtain ⟨i, hi⟩ := List.mem_iff_getElem?.1 hy
      exact (hys i y hi).2.2

theorem len1 {l : List Value} (h : l.length = 1) : ∃ a, l = [a] := by
  match l, h with
  | [a], _ => exact ⟨a, rfl⟩
theorem len2 {l : List Value} (h : l.length = 2) : ∃ a b, l = [a, b] := by
  match l, h with
  | [a, b], _ => exact ⟨a, b, rfl⟩
theorem len3 {l : List Value} (h : l.length = 3) : ∃ a b c, l = [a, b, c] := by
  match l, h with
  | [a, b, c], _ => exact ⟨a, b, c, rfl⟩
theorem len4 {l : List Value} (h : l.length = 4) : ∃ a b c d, l = [a, b, c, d] := by
  match l, h with
  | [a, b, c, d], _ => exact ⟨a, b, c, d, rfl⟩

theorem fields_of {H : Type} {enc : TypeId × Value → H} {w : World} {base : Nat} {spare : Nat → Bool} {held : Bool} {fuel : Nat} {cs : List Value} {x : DataW H × List MemPlace} {fs : Array Field}
    (hs : P.underlying t = some (.struct fs)) (hone : oneCellFields P fs = true) (hC : P.cellsOf t = fs.size) (h : DataW.trod enc P w base spare held fuel t cs = some x) :
    cs.length = fs.size ∧ ∃ n, ∀ (i : Nat) (f : Field) (v : Value), fs[i]? = some f → cs[i]? = some v → ∃ y, DataW.trod enc P w base spare held n f.type [v] = some y := by
  obtain ⟨xs, n, _, _, hl, hx, hf⟩ := DataW.trod_struct hs h
  refine ⟨hl.trans hC, n, fun i f v hi hv => ?_⟩
  have h1 := hf i f hi
  obtain ⟨h2, h3⟩ := hone_of hone i f hi
  have hlt : i < fs.size := (Array.getElem?_eq_some_iff.1 hi).1
  have h4 : xs[i]? = some (xs[i]'(by omega)) := List.getElem?_eq_getElem (by omega)
  have h5 : (cs.drop f.offset).take (P.cellsOf f.type) = [v] := by
    rw [h2, h3]
    have hlt2 : i < cs.length := by omega
    rw [List.getElem?_eq_getElem hlt2] at hv
    injection hv with hv
    rw [List.drop_eq_getElem_cons hlt2, hv]
    simp
  rw [h5, h4] at h1
  exact ⟨_, h1⟩

theorem op_struct1 {α S : Type} {d0 : Kd α} {W0 : α → Prop} {f0 : Field} {f : S → α} (mk : α → S) (hf : ∀ a, f (mk a) = a)
    (hs : P.underlying t = some (.struct #[f0])) (hone : oneCellFields P #[f0] = true) (hC : P.cellsOf t = 1) (h0 : Op P f0.type d0 W0) :
    Op P t (Kd.iso d0 f) (fun x => W0 (f x)) := by
  intro H enc w base spare held fuel cs x h
  obtain ⟨hl, n, hF⟩ := fields_of hs hone hC h
  obtain ⟨c0, rfl⟩ := len1 hl
  obtain ⟨y0, k0⟩ := hF 0 f0 c0 rfl rfl
  obtain ⟨a0, q0, w0⟩ := h0 k0
  exact ⟨mk a0, by show d0.K w (f (mk a0)) [c0]; rw [hf]; exact q0, by show W0 (f (mk a0)); rw [hf]; exact w0⟩
theorem op_struct2 {α β S : Type} {d0 : Kd α} {d1 : Kd β} {W0 : α → Prop} {W1 : β → Prop} {f0 f1 : Field} {f : S → α × β} (mk : α → β → S) (hf : ∀ a b, f (mk a b) = (a, b))
    (hs : P.underlying t = some (.struct #[f0, f1])) (hone : oneCellFields P #[f0, f1] = true) (hC : P.cellsOf t = 2) (h0 : Op P f0.type d0 W0) (h1 : Op P f1.type d1 W1) :
    Op P t (Kd.iso (Kd.pair d0 d1) f) (fun x => W0 (f x).1 ∧ W1 (f x).2) := by
  intro H enc w base spare held fuel cs x h
  obtain ⟨hl, n, hF⟩ := fields_of hs hone hC h
  obtain ⟨c0, c1, rfl⟩ := len2 hl
  obtain ⟨y0, k0⟩ := hF 0 f0 c0 rfl rfl
  obtain ⟨y1, k1⟩ := hF 1 f1 c1 rfl rfl
  obtain ⟨a0, q0, w0⟩ := h0 k0
  obtain ⟨a1, q1, w1⟩ := h1 k1
  exact ⟨mk a0 a1, ⟨[c0], [c1], rfl, by rw [hf]; exact q0, by rw [hf]; exact q1⟩, by dsimp only; rw [hf]; exact ⟨w0, w1⟩⟩
theorem op_struct3 {α β γ S : Type} {d0 : Kd α} {d1 : Kd β} {d2 : Kd γ} {W0 : α → Prop} {W1 : β → Prop} {W2 : γ → Prop} {f0 f1 f2 : Field} {f : S → α × β × γ} (mk : α → β → γ → S) (hf : ∀ a b c, f (mk a b c) = (a, b, c))
    (hs : P.underlying t = some (.struct #[f0, f1, f2])) (hone : oneCellFields P #[f0, f1, f2] = true) (hC : P.cellsOf t = 3) (h0 : Op P f0.type d0 W0) (h1 : Op P f1.type d1 W1) (h2 : Op P f2.type d2 W2) :
    Op P t (Kd.iso (Kd.pair d0 (Kd.pair d1 d2)) f) (fun x => W0 (f x).1 ∧ W1 (f x).2.1 ∧ W2 (f x).2.2) := by
  intro H enc w base spare held fuel cs x h
  obtain ⟨hl, n, hF⟩ := fields_of hs hone hC h
  obtain ⟨c0, c1, c2, rfl⟩ := len3 hl
  obtain ⟨y0, k0⟩ := hF 0 f0 c0 rfl rfl
  obtain ⟨y1, k1⟩ := hF 1 f1 c1 rfl rfl
  obtain ⟨y2, k2⟩ := hF 2 f2 c2 rfl rfl
  obtain ⟨a0, q0, w0⟩ := h0 k0
  obtain ⟨a1, q1, w1⟩ := h1 k1
  obtain ⟨a2, q2, w2⟩ := h2 k2
  exact ⟨mk a0 a1 a2, ⟨[c0], [c1, c2], rfl, by rw [hf]; exact q0, [c1], [c2], rfl, by rw [hf]; exact q1, by rw [hf]; exact q2⟩, by dsimp only; rw [hf]; exact ⟨w0, w1, w2⟩⟩
theorem op_struct4 {α β γ δ S : Type} {d0 : Kd α} {d1 : Kd β} {d2 : Kd γ} {d3 : Kd δ} {W0 : α → Prop} {W1 : β → Prop} {W2 : γ → Prop} {W3 : δ → Prop} {f0 f1 f2 f3 : Field} {f : S → α × β × γ × δ} (mk : α → β → γ → δ → S) (hf : ∀ a b c d, f (mk a b c d) = (a, b, c, d))
    (hs : P.underlying t = some (.struct #[f0, f1, f2, f3])) (hone : oneCellFields P #[f0, f1, f2, f3] = true) (hC : P.cellsOf t = 4) (h0 : Op P f0.type d0 W0) (h1 : Op P f1.type d1 W1) (h2 : Op P f2.type d2 W2) (h3 : Op P f3.type d3 W3) :
    Op P t (Kd.iso (Kd.pair d0 (Kd.pair d1 (Kd.pair d2 d3))) f) (fun x => W0 (f x).1 ∧ W1 (f x).2.1 ∧ W2 (f x).2.2.1 ∧ W3 (f x).2.2.2) := by
  intro H enc w base spare held fuel cs x h
  obtain ⟨hl, n, hF⟩ := fields_of hs hone hC h
  obtain ⟨c0, c1, c2, c3, rfl⟩ := len4 hl
  obtain ⟨y0, k0⟩ := hF 0 f0 c0 rfl rfl
  obtain ⟨y1, k1⟩ := hF 1 f1 c1 rfl rfl
  obtain ⟨y2, k2⟩ := hF 2 f2 c2 rfl rfl
  obtain ⟨y3, k3⟩ := hF 3 f3 c3 rfl rfl
  obtain ⟨a0, q0, w0⟩ := h0 k0
  obtain ⟨a1, q1, w1⟩ := h1 k1
  obtain ⟨a2, q2, w2⟩ := h2 k2
  obtain ⟨a3, q3, w3⟩ := h3 k3
  exact ⟨mk a0 a1 a2 a3, ⟨[c0], [c1, c2, c3], rfl, by rw [hf]; exact q0, [c1], [c2, c3], rfl, by rw [hf]; exact q1, [c2], [c3], rfl, by rw [hf]; exact q2, by rw [hf]; exact q3⟩, by dsimp only; rw [hf]; exact ⟨w0, w1, w2, w3⟩⟩

/-- A struct's value, by its list of cells. -/
theorem agg_of {cs : Array Value} {l : List Value} (h : cs.toList = l) : cs = l.toArray := by
  cases cs
  simp at h
  simp [h]
end Go.Proofs.Ytehldgkpkjgocaa.OpenA
namespace Go.Proofs.Ytehldgkpkjgocaa.fnExactBoundAt
open Go.ChangeShapes Go.WideShapes Go.ChangeAt Go.RowKit Go.Proofs.Ytehldgkpkjgocaa.Fn Go.Proofs.YtehldgkpkjgocaaW.PrintWords Go.Proofs.Ytehldgkpkjgocaa.OpenA
open Go.ChangeMaps (open_string shut_string)
set_option linter.unusedVariables false
theorem own : ownKnob Try.prog.godebug = none := by kernel_rfl
theorem laidOut : laidOutB Try.prog = true := by kernel_rfl
theorem op40 : OpenA.Op Try.prog 40 k40 (fun x => ((Lit.int .i64 x.f0).wf = true ∧ (Lit.int .i64 x.f1).wf = true)) := op_struct2 (f := fun x : S40 => (x.f0, x.f1)) S40.mk (fun _ _ => rfl) Try.underlying40 (by kernel_rfl) (by kernel_rfl) (op_int Try.underlying3) (op_int Try.underlying3)
set_option maxRecDepth 100000 in
theorem lifted (os : Os) (started : os.Started) (H : Type) (enc : TypeId × Value → H) :
    ReturnsInHanded {} Try.checked os 5 .any (Rows.fnExactBoundAtSpec.pre6 enc Try.prog Try.f5 Rows.fnExactBoundAtRow.domain false) (Rows.fnExactBoundAtSpec.post enc Try.prog Try.f5 false true false false) := by
  refine returnsInHanded_of_change_sized (C := Try.checked) own started (by kernel_rfl) Try.func5
    (ChangeSpec.witness6 (enc := enc) (C := Try.checked) false ⟨#[], #[.slice none 0 0, .int .i64 0], []⟩ 8 (by kernel_rfl) (by kernel_rfl) (by kernel_rfl) (by kernel_rfl)) ?_
  intro W base args ds gs before hval0 hW hcnd hsz0 _
  have hsz : (DataW.weightsEach Try.prog (Try.f5.params.toList ++ Rows.fnExactBoundAtSpec.plain.varTypes Try.prog) (ds ++ gs)).all (· ≤ reachBytes) = true := hsz0
  have hval : ∀ (j : Nat) t v, Try.f5.params[j]? = some t → args[j]? = some v → Value.okWide Try.prog W .any base t v := hval0
  have hW' := hW
  obtain ⟨p, q, hA0, hV, rfl, hfz, hnd⟩ := hW
  have hA : DataW.TrodAll enc Try.prog W 0 (fun _ => true) true Try.f5.params.toList args.toList ds p := hA0
  rw [Try.params5] at hA hval hsz
  obtain ⟨v0, vs0, d0, ds0, p0, q0, hargs, rfl, rfl, h0, r0⟩ := trodAll_cons hA
  obtain ⟨v1, vs1, d1, ds1, p1, q1, rfl, rfl, rfl, h1, r1⟩ := trodAll_cons r0
  obtain ⟨rfl, rfl, rfl⟩ := trodAll_nil r1
  obtain rfl : args = #[v0, v1] := by cases args; simp_all
  obtain ⟨rfl, rfl⟩ := trodVars_none hV
  obtain ⟨a0, len0, cap0, rfl⟩ := okWide_slice Try.underlying29 (hval 0 29 v0 rfl rfl)
  have k0 := h0
  have lt0 : ∀ x ∈ p0, x.block < W.heap.size := by obtain ⟨m, hm⟩ := k0; exact DataW.trod_lt m _ _ _ hm
  obtain ⟨fuel0, hf0⟩ := h0
  obtain ⟨l0, hK0, hw0⟩ := (op_slice Try.underlying29 (by kernel_rfl) (op_slice Try.underlying22 (by kernel_rfl) op40)) hf0
  obtain ⟨A0, c0, e0, hc0, hr0⟩ := hK0
  simp [Value.cells] at e0
  obtain ⟨rfl, rfl, rfl⟩ := e0
  obtain ⟨a1, rfl, rfl, rfl, w1⟩ := open_int Try.underlying3 (hval 1 3 v1 rfl rfl) h1
  clear hA0 hval0 hsz0 hsz
  obtain ⟨k, h⟩ := Pure.FnExactBoundAt l0 a1 hw0 w1
  refine (laws_FnExactBoundAt.calls k _ _ l0 a1 true W hr0 hc0 h rfl).mono fun e W' ⟨he, bel0⟩ => ?_
  have bel : Below W.heap.size W W' := bel0
  subst he
  exact ⟨_, rfl, _, _, _, [], _, [], hW', trodAll_mk1 (shut_bool Try.underlying4 _), (trodAll_cons_mk (Below.trod laidOut (by kernel_rfl) (of_decide_eq_true (by kernel_rfl)) k0 bel lt0) (trodAll_cons_mk (shut_int Try.underlying3 w1) trodAll_mk0)), rfl, bel.frame _, fun h => by cases h⟩
theorem over : Rows.fnExactBoundAtRow.holds Try.pinned (OpenSpec.ofChange Rows.fnExactBoundAtSpec) :=
  OpenClaim.holds_of_wide 5 Try.f5 rfl rfl rfl rfl rfl rfl rfl ⟨rfl, rfl, rfl, rfl, rfl⟩ rfl rfl rfl rfl rfl (by kernel_rfl) Try.func5 (by kernel_rfl)
    (of_decide_eq_true (by kernel_rfl)) (by unfold Func.isWrapper; first | (rw [if_pos (by decide +kernel)]; kernel_rfl) | (rw [if_neg (by decide +kernel)]; exact ⟨rfl, rfl⟩))
    (fun os started H enc _ => lifted os started H enc)
theorem proved : Rows.FnExactBoundAtSaid := over
#print axioms proved
end Go.Proofs.Ytehldgkpkjgocaa.fnExactBoundAt
namespace Go.Proofs.Ytehldgkpkjgocaa
/-- The row, under a short name, for the claim. -/
theorem fnExactBoundAt_holds : Rows.FnExactBoundAtSaid := fnExactBoundAt.proved
end Go.Proofs.Ytehldgkpkjgocaa
