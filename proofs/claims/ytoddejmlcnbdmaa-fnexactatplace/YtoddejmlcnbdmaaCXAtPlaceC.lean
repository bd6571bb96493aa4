/- The law FnExactAtPlace holds of the given program: at every input it answers true and leaves its arguments as they were; no condition. This text: part 3 of what its proof reaches. -/
import Derived.Deep.QuietTactic
import Derived.BigQuiet
import Derived.Test.YtoddejmlcnbdmaaQWWords
import Derived.Test.YtoddejmlcnbdmaaQWMore
import Derived.OpenShut
import Derived.WideShapes
import Derived.Lib.Strings
import Derived.Laws.BitsLemmas
import Derived.Laws.BytesArg
import Derived.Test.YtoddejmlcnbdmaaCXAtPlaceA
import Derived.Test.YtoddejmlcnbdmaaCXAtPlaceB
namespace Go.Proofs.Ytoddejmlcnbdmaa.Fn
open Go.RowKit Go.Proofs.YtoddejmlcnbdmaaW.PrintWords Go.Proofs.YtoddejmlcnbdmaaW.PrintLast Go.Proofs.YtoddejmlcnbdmaaW.PrintMore
attribute [local go_sem] max2_int min2_int max_two min_two max_three min_three max_four min_four   -- for this text's walks alone
set_option linter.unusedVariables false
set_option linter.unusedSimpArgs false

/-! ### impl_areRising: function 115 -/
def impl_areRising.l0 : Nat → List ByteArray → List ByteArray → Int → Int → Option (Bool)
  | 0, _, _, _, _ => none
  | k + 1, x0, x5, x6, x7 => if x7 < x6 then (if 0 ≤ x7 then (if x7 < (x5.length : Int) then ((impl_isKey.f (rdOf ByteArray.empty x5 x7)).bind fun t171 => (if t171 = true then (if x7 > 0 then (if 0 ≤ (wrap64 (x7 - 1)) then (if (wrap64 (x7 - 1)) < (x0.length : Int) then (if ((Op.bytesLess ((rdOf ByteArray.empty x0 (wrap64 (x7 - 1))).toList) ((rdOf ByteArray.empty x5 x7).toList)) = true) then (impl_areRising.l0 k x0 x5 x6 (wrap64 (x7 + 1))) else (some false)) else (none)) else (none)) else (impl_areRising.l0 k x0 x5 x6 (wrap64 (x7 + 1)))) else (some false))) else (none)) else (none)) else (some true)
def impl_areRising.f (k : Nat) (l0 : List ByteArray) : Option (Bool) := impl_areRising.l0 k l0 l0 (l0.length : Int) 0
theorem impl_areRising.mono_l : ∀ k, (∀ y0 y1 y2 y3, LeO (impl_areRising.l0 k y0 y1 y2 y3) (impl_areRising.l0 (k + 1) y0 y1 y2 y3))
  | 0 => fun _ _ _ _ r h => by simp [impl_areRising.l0] at h
  | k + 1 => by
    have ih0 := impl_areRising.mono_l k
    · intro y0 y1 y2 y3
      unfold impl_areRising.l0
      repeat' first
      | (with_reducible exact ih0 _ _ _ _)
      | (with_reducible exact LeO.refl _)
      | (with_reducible exact LeO.none _)
      | (with_reducible refine LeO.ite ?_ ?_)
      | (with_reducible refine LeO.bind ?_ (fun _ => ?_))
      | exact ih0 _ _ _ _
      | exact LeO.none _
      | refine LeO.ite ?_ ?_
      | refine LeO.bind ?_ (fun _ => ?_)
theorem impl_areRising.mono : ∀ a0 k, LeO (impl_areRising.f k a0) (impl_areRising.f (k + 1) a0) := by
  intro a0 k
  have ih0 := impl_areRising.mono_l k
  unfold impl_areRising.f
  repeat' first
      | (with_reducible exact ih0 _ _ _ _)
      | (with_reducible exact LeO.refl _)
      | (with_reducible exact LeO.none _)
      | (with_reducible refine LeO.ite ?_ ?_)
      | (with_reducible refine LeO.bind ?_ (fun _ => ?_))
      | exact ih0 _ _ _ _
      | exact LeO.none _
      | refine LeO.ite ?_ ?_
      | refine LeO.bind ?_ (fun _ => ?_)
set_option maxHeartbeats 8000000 in
set_option maxRecDepth 100000 in
theorem impl_areRising.calls (k : Nat) (A0 : Option Addr) (c0 : Nat) (l0 : List ByteArray) (r : Bool) (w : World) (hr0 : Kd.C Kd.string w A0 l0.length l0) (hc0 : l0.length ≤ c0) (h : impl_areRising.f k l0 = some r) :
    Calls Try.prog 115 #[.slice A0 l0.length c0] w fun e w' => e = .returned (.bool r) ∧ Drawn0 w w' := by
  have HR0 := Aside0.mk hr0
  have HC0 := Aside0.mk hc0
  clear hr0 hc0
  have H : (impl_areRising.l0 k l0 l0 (l0.length : Int) 0) = some r := h
  clear h
  have H' := Aside0.mk H
  clear H
  go_enter Try.func115, Try.ntmps115
  go_wp2
  go_loopg [7] k (fun kq v7 w' => ∃ (x7_1 : Int), v7 = .int .i64 x7_1 ∧ Aside0 (impl_areRising.l0 kq l0 l0 (l0.length : Int) x7_1 = some r) ∧ Aside0 (kq ≤ k) ∧ Drawn0 w w')
  case atStart => exact ⟨(0), (by first | rfl | (simp; done) | (simp [*]; done)), H', ⟨Nat.le_refl _⟩, by repeat (first | exact Drawn0.refl _ | apply Drawn0.step)⟩
  case round =>
    clear H'
    try clear c1
    obtain ⟨x7_1, rfl, HA, HK1, ⟨m1, rfl⟩⟩ := hrel
    cases gk with
    | zero => exact absurd HA.out (by simp [impl_areRising.l0])
    | succ k1 =>
      have H := HA.out
      clear HA
      simp only [impl_areRising.l0] at H
      by_cases c2 : x7_1 < (l0.length : Int)
      · rw [if_pos c2] at H
        have c2b0 : decide (x7_1 < (l0.length : Int)) = true := decide_eq_true c2
        clear c2
        by_cases c3 : 0 ≤ x7_1
        · rw [if_pos c3] at H
          have c3b0 : decide (0 ≤ x7_1) = true := decide_eq_true c3
          clear c3
          by_cases c4 : x7_1 < (l0.length : Int)
          · rw [if_pos c4] at H
            have c4b0 : decide (x7_1 < (l0.length : Int)) = true := decide_eq_true c4
            clear c4
            replace H := Option.bind_eq_some_iff.mp H
            obtain ⟨t171, A50, H⟩ := H
            replace H : (if t171 = true then (if x7_1 > 0 then (if 0 ≤ (wrap64 (x7_1 - 1)) then (if (wrap64 (x7_1 - 1)) < (l0.length : Int) then (if ((Op.bytesLess ((rdOf ByteArray.empty l0 (wrap64 (x7_1 - 1))).toList) ((rdOf ByteArray.empty l0 x7_1).toList)) = true) then (impl_areRising.l0 k1 l0 l0 (l0.length : Int) (wrap64 (x7_1 + 1))) else (some false)) else (none)) else (none)) else (impl_areRising.l0 k1 l0 l0 (l0.length : Int) (wrap64 (x7_1 + 1)))) else (some false)) = some r := H
            have A5 := Aside0.mk A50
            clear A50
            by_cases c6 : t171 = true
            · subst c6
              have H1 : (if x7_1 > 0 then (if 0 ≤ (wrap64 (x7_1 - 1)) then (if (wrap64 (x7_1 - 1)) < (l0.length : Int) then (if ((Op.bytesLess ((rdOf ByteArray.empty l0 (wrap64 (x7_1 - 1))).toList) ((rdOf ByteArray.empty l0 x7_1).toList)) = true) then (impl_areRising.l0 k1 l0 l0 (l0.length : Int) (wrap64 (x7_1 + 1))) else (some false)) else (none)) else (none)) else (impl_areRising.l0 k1 l0 l0 (l0.length : Int) (wrap64 (x7_1 + 1)))) = some r := by rw [if_pos rfl] at H; exact H
              clear H
              have H := H1
              clear H1
              by_cases c7 : x7_1 > 0
              · rw [if_pos c7] at H
                have c7b0 : decide (0 < x7_1) = true := decide_eq_true c7
                clear c7
                obtain ⟨ji8, hji8⟩ : ∃ j_ : Int, (wrap64 (x7_1 - 1)) = j_ := ⟨_, rfl⟩
                replace H : (if 0 ≤ (ji8) then (if (ji8) < (l0.length : Int) then (if ((Op.bytesLess ((rdOf ByteArray.empty l0 (ji8)).toList) ((rdOf ByteArray.empty l0 x7_1).toList)) = true) then (impl_areRising.l0 k1 l0 l0 (l0.length : Int) (wrap64 (x7_1 + 1))) else (some false)) else (none)) else (none)) = some r := by first | (rw [hji8] at H; exact H) | (simp only [hji8] at H ⊢; exact H)
                (try rw [hji8] at A5)
                have hji8w : (IntKind.i64.wrap (x7_1 - 1)) = ji8 := (i64_w _).trans hji8
                by_cases c9 : 0 ≤ (ji8)
                · rw [if_pos c9] at H
                  have c9b0 : decide (0 ≤ (ji8)) = true := decide_eq_true c9
                  clear c9
                  by_cases c10 : (ji8) < (l0.length : Int)
                  · rw [if_pos c10] at H
                    have c10b0 : decide ((ji8) < (l0.length : Int)) = true := decide_eq_true c10
                    clear c10
                    by_cases c11 : ((Op.bytesLess ((rdOf ByteArray.empty l0 (ji8)).toList) ((rdOf ByteArray.empty l0 x7_1).toList)) = true)
                    · rw [if_pos c11] at H
                      have c11b0 : (Op.bytesLess ((rdOf ByteArray.empty l0 (ji8)).toList) ((rdOf ByteArray.empty l0 x7_1).toList)) = true := c11
                      clear c11
                      have H' := Aside0.mk H
                      clear H
                      have p170 : 0 ≤ (x7_1 : Int) := of_decide_eq_true (by first | (with_reducible assumption) | assumption)
                      have q170 : x7_1 < (l0.length : Int) := of_decide_eq_true (by first | (with_reducible assumption) | assumption)
                      obtain ⟨ad170, e170, hx170_0⟩ := Kd.at_string HR0.out x7_1 p170 q170
                      cases e170
                      replace p170 := eq_true p170
                      replace q170 := eq_true q170
                      go_wp2_with (first | ((with_reducible refine gate_callee (f := 78) rfl ?_); refine goesL_ (some 13) rfl rfl Try.func78 (by kernel_rfl) rfl #[.string (rdOf ByteArray.empty l0 x7_1)] rfl (by (try simp only [List.map_toArray, List.map_cons, List.map_nil]); first | done | rfl | (simp only [List.length_drop, List.length_take]; rfl)) ?_; (with_reducible refine (impl_isKey.calls (rdOf ByteArray.empty l0 x7_1) true _ A5.out).mono ?_); rintro e w' ⟨rfl, ⟨nd, rfl⟩⟩; refine ⟨_, rfl, ?_⟩; have p172 : 0 ≤ ((ji8) : Int) := of_decide_eq_true (by first | (with_reducible assumption) | assumption); have q172 : (ji8) < (l0.length : Int) := of_decide_eq_true (by first | (with_reducible assumption) | assumption); obtain ⟨ad172, e172, hx172_0⟩ := Kd.at_string HR0.out (ji8) p172 q172; obtain rfl : ad170 = ad172 := (by injection e172); replace p172 := eq_true p172; replace q172 := eq_true q172))
                      go_roundg k1
                      case measure => have := HK1.out; omega
                      case rel => exact ⟨(wrap64 (x7_1 + 1)), (by first | rfl | (simp; done) | (simp [*]; done)), H', ⟨by have := HK1.out; omega⟩, by repeat (first | exact Drawn0.refl _ | apply Drawn0.step)⟩
                    · rw [if_neg c11] at H
                      have c11b0 : (Op.bytesLess ((rdOf ByteArray.empty l0 (ji8)).toList) ((rdOf ByteArray.empty l0 x7_1).toList)) = false := by simpa using c11
                      clear c11
                      obtain rfl := Option.some.inj H
                      have p170 : 0 ≤ (x7_1 : Int) := of_decide_eq_true (by first | (with_reducible assumption) | assumption)
                      have q170 : x7_1 < (l0.length : Int) := of_decide_eq_true (by first | (with_reducible assumption) | assumption)
                      obtain ⟨ad170, e170, hx170_0⟩ := Kd.at_string HR0.out x7_1 p170 q170
                      cases e170
                      replace p170 := eq_true p170
                      replace q170 := eq_true q170
                      go_wp2_with (first | ((with_reducible refine gate_callee (f := 78) rfl ?_); refine goesL_ (some 13) rfl rfl Try.func78 (by kernel_rfl) rfl #[.string (rdOf ByteArray.empty l0 x7_1)] rfl (by (try simp only [List.map_toArray, List.map_cons, List.map_nil]); first | done | rfl | (simp only [List.length_drop, List.length_take]; rfl)) ?_; (with_reducible refine (impl_isKey.calls (rdOf ByteArray.empty l0 x7_1) true _ A5.out).mono ?_); rintro e w' ⟨rfl, ⟨nd, rfl⟩⟩; refine ⟨_, rfl, ?_⟩; have p172 : 0 ≤ ((ji8) : Int) := of_decide_eq_true (by first | (with_reducible assumption) | assumption); have q172 : (ji8) < (l0.length : Int) := of_decide_eq_true (by first | (with_reducible assumption) | assumption); obtain ⟨ad172, e172, hx172_0⟩ := Kd.at_string HR0.out (ji8) p172 q172; obtain rfl : ad170 = ad172 := (by injection e172); replace p172 := eq_true p172; replace q172 := eq_true q172))
                      go_ret
                      exact ⟨by first | rfl | (simp only [Go.Proofs.Ytoddejmlcnbdmaa.Gen.nil_str, Go.Proofs.Ytoddejmlcnbdmaa.Gen.gt_str]; first | done | rfl | (simp; done)) | (simp; done) | (simp only [← hji8] <;> (first | rfl | simp)) | (simp [*]; done), by repeat (first | exact Drawn0.refl _ | apply Drawn0.step)⟩
                  · rw [if_neg c10] at H
                    exact absurd H (by simp)
                · rw [if_neg c9] at H
                  exact absurd H (by simp)
              · rw [if_neg c7] at H
                have c7b0 : decide (0 < x7_1) = false := decide_eq_false c7
                clear c7
                have H' := Aside0.mk H
                clear H
                have p170 : 0 ≤ (x7_1 : Int) := of_decide_eq_true (by first | (with_reducible assumption) | assumption)
                have q170 : x7_1 < (l0.length : Int) := of_decide_eq_true (by first | (with_reducible assumption) | assumption)
                obtain ⟨ad170, e170, hx170_0⟩ := Kd.at_string HR0.out x7_1 p170 q170
                cases e170
                replace p170 := eq_true p170
                replace q170 := eq_true q170
                go_wp2_with (first | ((with_reducible refine gate_callee (f := 78) rfl ?_); refine goesL_ (some 13) rfl rfl Try.func78 (by kernel_rfl) rfl #[.string (rdOf ByteArray.empty l0 x7_1)] rfl (by (try simp only [List.map_toArray, List.map_cons, List.map_nil]); first | done | rfl | (simp only [List.length_drop, List.length_take]; rfl)) ?_; (with_reducible refine (impl_isKey.calls (rdOf ByteArray.empty l0 x7_1) true _ A5.out).mono ?_); rintro e w' ⟨rfl, ⟨nd, rfl⟩⟩; refine ⟨_, rfl, ?_⟩))
                go_roundg k1
                case measure => have := HK1.out; omega
                case rel => exact ⟨(wrap64 (x7_1 + 1)), (by first | rfl | (simp; done) | (simp [*]; done)), H', ⟨by have := HK1.out; omega⟩, by repeat (first | exact Drawn0.refl _ | apply Drawn0.step)⟩
            · replace c6 := Bool.eq_false_iff.mpr c6
              subst c6
              have H1 : (some false) = some r := by rw [if_neg (show ¬ (false = true) by decide)] at H; exact H
              clear H
              have H := H1
              clear H1
              obtain rfl := Option.some.inj H
              have p170 : 0 ≤ (x7_1 : Int) := of_decide_eq_true (by first | (with_reducible assumption) | assumption)
              have q170 : x7_1 < (l0.length : Int) := of_decide_eq_true (by first | (with_reducible assumption) | assumption)
              obtain ⟨ad170, e170, hx170_0⟩ := Kd.at_string HR0.out x7_1 p170 q170
              cases e170
              replace p170 := eq_true p170
              replace q170 := eq_true q170
              go_wp2_with (first | ((with_reducible refine gate_callee (f := 78) rfl ?_); refine goesL_ (some 13) rfl rfl Try.func78 (by kernel_rfl) rfl #[.string (rdOf ByteArray.empty l0 x7_1)] rfl (by (try simp only [List.map_toArray, List.map_cons, List.map_nil]); first | done | rfl | (simp only [List.length_drop, List.length_take]; rfl)) ?_; (with_reducible refine (impl_isKey.calls (rdOf ByteArray.empty l0 x7_1) false _ A5.out).mono ?_); rintro e w' ⟨rfl, ⟨nd, rfl⟩⟩; refine ⟨_, rfl, ?_⟩))
              go_ret
              exact ⟨by first | rfl | (simp only [Go.Proofs.Ytoddejmlcnbdmaa.Gen.nil_str, Go.Proofs.Ytoddejmlcnbdmaa.Gen.gt_str]; first | done | rfl | (simp; done)) | (simp; done) | (simp [*]; done), by repeat (first | exact Drawn0.refl _ | apply Drawn0.step)⟩
          · rw [if_neg c4] at H
            exact absurd H (by simp)
        · rw [if_neg c3] at H
          exact absurd H (by simp)
      · rw [if_neg c2] at H
        have c2b0 : decide (x7_1 < (l0.length : Int)) = false := decide_eq_false c2
        clear c2
        obtain rfl := Option.some.inj H
        go_wp2
        go_ret
        exact ⟨by first | rfl | (simp only [Go.Proofs.Ytoddejmlcnbdmaa.Gen.nil_str, Go.Proofs.Ytoddejmlcnbdmaa.Gen.gt_str]; first | done | rfl | (simp; done)) | (simp; done) | (simp [*]; done), by repeat (first | exact Drawn0.refl _ | apply Drawn0.step)⟩

end Go.Proofs.Ytoddejmlcnbdmaa.Fn
namespace Go.Proofs.Ytoddejmlcnbdmaa.Fn
open Go.RowKit Go.Proofs.YtoddejmlcnbdmaaW.PrintWords Go.Proofs.YtoddejmlcnbdmaaW.PrintLast Go.Proofs.YtoddejmlcnbdmaaW.PrintMore
attribute [local go_sem] max2_int min2_int max_two min_two max_three min_three max_four min_four   -- for this text's walks alone
set_option linter.unusedVariables false
set_option linter.unusedSimpArgs false

/-! ### impl_isVal: function 79 -/
def impl_isVal.f (a0 : ByteArray) : Option (Bool) := some (decide ((a0.size : Int) ≤ 12))
set_option maxHeartbeats 8000000 in
set_option maxRecDepth 100000 in
theorem impl_isVal.calls (a0 : ByteArray) (r : Bool) (w : World) (h : impl_isVal.f a0 = some r) :
    Calls Try.prog 79 #[.string a0] w fun e w' => e = .returned (.bool r) ∧ Drawn0 w w' := by
  have H : (some (decide ((a0.size : Int) ≤ 12))) = some r := h
  clear h
  obtain rfl := Option.some.inj H
  go_enter Try.func79, Try.ntmps79
  go_wp2
  go_ret
  exact ⟨by first | rfl | (simp; done) | (simp [*]; done), by repeat (first | exact Drawn0.refl _ | apply Drawn0.step)⟩

end Go.Proofs.Ytoddejmlcnbdmaa.Fn
namespace Go.Proofs.Ytoddejmlcnbdmaa.Fn
open Go.RowKit Go.Proofs.YtoddejmlcnbdmaaW.PrintWords Go.Proofs.YtoddejmlcnbdmaaW.PrintLast Go.Proofs.YtoddejmlcnbdmaaW.PrintMore
attribute [local go_sem] max2_int min2_int max_two min_two max_three min_three max_four min_four   -- for this text's walks alone
set_option linter.unusedVariables false
set_option linter.unusedSimpArgs false

/-! ### impl_arePairs_1: function 117 -/
def impl_arePairs_1.f (a0 : ByteArray) : Option (Bool) := (impl_isVal.f a0).bind fun t173 => (some (!t173))
set_option maxHeartbeats 8000000 in
set_option maxRecDepth 100000 in
theorem impl_arePairs_1.calls (a0 : ByteArray) (r : Bool) (w : World) (h : impl_arePairs_1.f a0 = some r) :
    Calls Try.prog 117 #[.string a0] w fun e w' => e = .returned (.bool r) ∧ Drawn0 w w' := by
  have H : ((impl_isVal.f a0).bind fun t173 => (some (!t173))) = some r := h
  clear h
  replace H := Option.bind_eq_some_iff.mp H
  obtain ⟨t173, A20, H⟩ := H
  replace H : (some (!t173)) = some r := H
  have A2 := Aside0.mk A20
  clear A20
  obtain rfl := Option.some.inj H
  go_enter Try.func117, Try.ntmps117
  go_wp2_with (first | ((with_reducible refine gate_callee (f := 79) rfl ?_); refine goesL_ (some 4) rfl rfl Try.func79 (by kernel_rfl) rfl #[.string a0] rfl (by (try simp only [List.map_toArray, List.map_cons, List.map_nil]); first | done | rfl | (simp only [List.length_drop, List.length_take]; rfl)) ?_; (with_reducible refine (impl_isVal.calls a0 t173 _ A2.out).mono ?_); rintro e w' ⟨rfl, ⟨nd, rfl⟩⟩; refine ⟨_, rfl, ?_⟩))
  go_ret
  exact ⟨by first | rfl | (simp; done) | (simp [*]; done), by repeat (first | exact Drawn0.refl _ | apply Drawn0.step)⟩

end Go.Proofs.Ytoddejmlcnbdmaa.Fn
namespace Go.Proofs.Ytoddejmlcnbdmaa.Fn
open Go.RowKit Go.Proofs.YtoddejmlcnbdmaaW.PrintWords Go.Proofs.YtoddejmlcnbdmaaW.PrintLast Go.Proofs.YtoddejmlcnbdmaaW.PrintMore
attribute [local go_sem] max2_int min2_int max_two min_two max_three min_three max_four min_four   -- for this text's walks alone
set_option linter.unusedVariables false
set_option linter.unusedSimpArgs false

/-! ### slices_IndexFunc_at117: function 169 -/
def slices_IndexFunc_at117.l0 : Nat → List ByteArray → Int → Int → Option (Int)
  | 0, _, _, _ => none
  | k + 1, x0, x7, x8 => if x8 < x7 then (if 0 ≤ x8 then (if x8 < (x0.length : Int) then ((impl_arePairs_1.f (rdOf ByteArray.empty x0 x8)).bind fun t175 => (if t175 = true then (some x8) else (slices_IndexFunc_at117.l0 k x0 x7 (wrap64 (x8 + 1))))) else (none)) else (none)) else (some (-1))
def slices_IndexFunc_at117.f (k : Nat) (l0 : List ByteArray)  : Option (Int) := slices_IndexFunc_at117.l0 k l0 (l0.length : Int) 0
theorem slices_IndexFunc_at117.mono_l : ∀ k, (∀ y0 y1 y2, LeO (slices_IndexFunc_at117.l0 k y0 y1 y2) (slices_IndexFunc_at117.l0 (k + 1) y0 y1 y2))
  | 0 => fun _ _ _ r h => by simp [slices_IndexFunc_at117.l0] at h
  | k + 1 => by
    have ih0 := slices_IndexFunc_at117.mono_l k
    · intro y0 y1 y2
      unfold slices_IndexFunc_at117.l0
      repeat' first
      | (with_reducible exact ih0 _ _ _)
      | (with_reducible exact LeO.refl _)
      | (with_reducible exact LeO.none _)
      | (with_reducible refine LeO.ite ?_ ?_)
      | (with_reducible refine LeO.bind ?_ (fun _ => ?_))
      | exact ih0 _ _ _
      | exact LeO.none _
      | refine LeO.ite ?_ ?_
      | refine LeO.bind ?_ (fun _ => ?_)
theorem slices_IndexFunc_at117.mono : ∀ a0 k, LeO (slices_IndexFunc_at117.f k a0) (slices_IndexFunc_at117.f (k + 1) a0) := by
  intro a0 k
  have ih0 := slices_IndexFunc_at117.mono_l k
  unfold slices_IndexFunc_at117.f
  repeat' first
      | (with_reducible exact ih0 _ _ _)
      | (with_reducible exact LeO.refl _)
      | (with_reducible exact LeO.none _)
      | (with_reducible refine LeO.ite ?_ ?_)
      | (with_reducible refine LeO.bind ?_ (fun _ => ?_))
      | exact ih0 _ _ _
      | exact LeO.none _
      | refine LeO.ite ?_ ?_
      | refine LeO.bind ?_ (fun _ => ?_)
set_option maxHeartbeats 8000000 in
set_option maxRecDepth 100000 in
theorem slices_IndexFunc_at117.calls (k : Nat) (A0 : Option Addr) (c0 : Nat) (l0 : List ByteArray)  (r : Int) (w : World) (hr0 : Kd.C Kd.string w A0 l0.length l0) (hc0 : l0.length ≤ c0) (h : slices_IndexFunc_at117.f k l0 = some r) :
    Calls Try.prog 134 #[.slice A0 l0.length c0, .func (.func 117) #[] #[]] w fun e w' => e = .returned (.int .i64 r) ∧ Drawn0 w w' := by
  have HR0 := Aside0.mk hr0
  have HC0 := Aside0.mk hc0
  clear hr0 hc0
  have H : (slices_IndexFunc_at117.l0 k l0 (l0.length : Int) 0) = some r := h
  clear h
  have H' := Aside0.mk H
  clear H
  go_enter Try.func134, Try.ntmps134
  go_wp2
  go_loopg [8] k (fun kq v8 w' => ∃ (x8_1 : Int), v8 = .int .i64 x8_1 ∧ Aside0 (slices_IndexFunc_at117.l0 kq l0 (l0.length : Int) x8_1 = some r) ∧ Aside0 (kq ≤ k) ∧ Drawn0 w w')
  case atStart => exact ⟨(0), (by first | rfl | (simp; done) | (simp [*]; done)), H', ⟨Nat.le_refl _⟩, by repeat (first | exact Drawn0.refl _ | apply Drawn0.step)⟩
  case round =>
    clear H'
    try clear c1
    try clear p2
    obtain ⟨x8_1, rfl, HA, HK1, ⟨m1, rfl⟩⟩ := hrel
    cases gk with
    | zero => exact absurd HA.out (by simp [slices_IndexFunc_at117.l0])
    | succ k1 =>
      have H := HA.out
      clear HA
      simp only [slices_IndexFunc_at117.l0] at H
      by_cases c3 : x8_1 < (l0.length : Int)
      · rw [if_pos c3] at H
        have c3b0 : decide (x8_1 < (l0.length : Int)) = true := decide_eq_true c3
        clear c3
        by_cases c4 : 0 ≤ x8_1
        · rw [if_pos c4] at H
          have c4b0 : decide (0 ≤ x8_1) = true := decide_eq_true c4
          clear c4
          by_cases c5 : x8_1 < (l0.length : Int)
          · rw [if_pos c5] at H
            have c5b0 : decide (x8_1 < (l0.length : Int)) = true := decide_eq_true c5
            clear c5
            replace H := Option.bind_eq_some_iff.mp H
            obtain ⟨t175, A60, H⟩ := H
            replace H : (if t175 = true then (some x8_1) else (slices_IndexFunc_at117.l0 k1 l0 (l0.length : Int) (wrap64 (x8_1 + 1)))) = some r := H
            have A6 := Aside0.mk A60
            clear A60
            by_cases c7 : t175 = true
            · subst c7
              have H1 : (some x8_1) = some r := by rw [if_pos rfl] at H; exact H
              clear H
              have H := H1
              clear H1
              obtain rfl := Option.some.inj H
              have p174 : 0 ≤ (x8_1 : Int) := of_decide_eq_true (by first | (with_reducible assumption) | assumption)
              have q174 : x8_1 < (l0.length : Int) := of_decide_eq_true (by first | (with_reducible assumption) | assumption)
              obtain ⟨ad174, e174, hx174_0⟩ := Kd.at_string HR0.out x8_1 p174 q174
              cases e174
              replace p174 := eq_true p174
              replace q174 := eq_true q174
              go_wp2_with (first | ((with_reducible refine Go.Proofs.Ytoddejmlcnbdmaa.Gen.gateV rfl ?_); refine Go.Proofs.Ytoddejmlcnbdmaa.Gen.goesV_ (some 16) rfl rfl Try.func117 (by kernel_rfl) rfl #[.string (rdOf ByteArray.empty l0 x8_1)] rfl (by (try simp only [List.map_toArray, List.map_cons, List.map_nil]); first | done | rfl | (simp only [List.length_drop, List.length_take]; rfl)) ?_; (with_reducible refine (impl_arePairs_1.calls (rdOf ByteArray.empty l0 x8_1) true _ A6.out).mono ?_); rintro e w' ⟨rfl, ⟨nd, rfl⟩⟩; refine ⟨_, rfl, ?_⟩))
              go_ret
              exact ⟨by first | rfl | (simp; done) | (simp [*]; done), by repeat (first | exact Drawn0.refl _ | apply Drawn0.step)⟩
            · replace c7 := Bool.eq_false_iff.mpr c7
              subst c7
              have H1 : (slices_IndexFunc_at117.l0 k1 l0 (l0.length : Int) (wrap64 (x8_1 + 1))) = some r := by rw [if_neg (show ¬ (false = true) by decide)] at H; exact H
              clear H
              have H := H1
              clear H1
              have H' := Aside0.mk H
              clear H
              have p174 : 0 ≤ (x8_1 : Int) := of_decide_eq_true (by first | (with_reducible assumption) | assumption)
              have q174 : x8_1 < (l0.length : Int) := of_decide_eq_true (by first | (with_reducible assumption) | assumption)
              obtain ⟨ad174, e174, hx174_0⟩ := Kd.at_string HR0.out x8_1 p174 q174
              cases e174
              replace p174 := eq_true p174
              replace q174 := eq_true q174
              go_wp2_with (first | ((with_reducible refine Go.Proofs.Ytoddejmlcnbdmaa.Gen.gateV rfl ?_); refine Go.Proofs.Ytoddejmlcnbdmaa.Gen.goesV_ (some 16) rfl rfl Try.func117 (by kernel_rfl) rfl #[.string (rdOf ByteArray.empty l0 x8_1)] rfl (by (try simp only [List.map_toArray, List.map_cons, List.map_nil]); first | done | rfl | (simp only [List.length_drop, List.length_take]; rfl)) ?_; (with_reducible refine (impl_arePairs_1.calls (rdOf ByteArray.empty l0 x8_1) false _ A6.out).mono ?_); rintro e w' ⟨rfl, ⟨nd, rfl⟩⟩; refine ⟨_, rfl, ?_⟩))
              go_roundg k1
              case measure => have := HK1.out; omega
              case rel => exact ⟨(wrap64 (x8_1 + 1)), (by first | rfl | (simp; done) | (simp [*]; done)), H', ⟨by have := HK1.out; omega⟩, by repeat (first | exact Drawn0.refl _ | apply Drawn0.step)⟩
          · rw [if_neg c5] at H
            exact absurd H (by simp)
        · rw [if_neg c4] at H
          exact absurd H (by simp)
      · rw [if_neg c3] at H
        have c3b0 : decide (x8_1 < (l0.length : Int)) = false := decide_eq_false c3
        clear c3
        obtain rfl := Option.some.inj H
        go_wp2
        go_ret
        exact ⟨by first | rfl | (simp; done) | (simp [*]; done), by repeat (first | exact Drawn0.refl _ | apply Drawn0.step)⟩

end Go.Proofs.Ytoddejmlcnbdmaa.Fn
namespace Go.Proofs.Ytoddejmlcnbdmaa.Fn
open Go.RowKit Go.Proofs.YtoddejmlcnbdmaaW.PrintWords Go.Proofs.YtoddejmlcnbdmaaW.PrintLast Go.Proofs.YtoddejmlcnbdmaaW.PrintMore
attribute [local go_sem] max2_int min2_int max_two min_two max_three min_three max_four min_four   -- for this text's walks alone
set_option linter.unusedVariables false
set_option linter.unusedSimpArgs false

/-! ### slices_ContainsFunc_at117: function 168 -/
def slices_ContainsFunc_at117.f (k : Nat) (l0 : List ByteArray)  : Option (Bool) := (slices_IndexFunc_at117.f k l0).bind fun t176 => (some (decide (t176 ≥ 0)))
theorem slices_ContainsFunc_at117.mono : ∀ a0 k, LeO (slices_ContainsFunc_at117.f k a0) (slices_ContainsFunc_at117.f (k + 1) a0) := by
  intro a0 k
  unfold slices_ContainsFunc_at117.f
  repeat' first
      | (with_reducible exact slices_IndexFunc_at117.mono _ _)
      | (with_reducible exact LeO.refl _)
      | (with_reducible exact LeO.none _)
      | (with_reducible refine LeO.ite ?_ ?_)
      | (with_reducible refine LeO.bind ?_ (fun _ => ?_))
      | exact slices_IndexFunc_at117.mono _ _
      | exact LeO.none _
      | refine LeO.ite ?_ ?_
      | refine LeO.bind ?_ (fun _ => ?_)
set_option maxHeartbeats 8000000 in
set_option maxRecDepth 100000 in
theorem slices_ContainsFunc_at117.calls (k : Nat) (A0 : Option Addr) (c0 : Nat) (l0 : List ByteArray)  (r : Bool) (w : World) (hr0 : Kd.C Kd.string w A0 l0.length l0) (hc0 : l0.length ≤ c0) (h : slices_ContainsFunc_at117.f k l0 = some r) :
    Calls Try.prog 116 #[.slice A0 l0.length c0, .func (.func 117) #[] #[]] w fun e w' => e = .returned (.bool r) ∧ Drawn0 w w' := by
  have HR0 := Aside0.mk hr0
  have HC0 := Aside0.mk hc0
  clear hr0 hc0
  have H : ((slices_IndexFunc_at117.f k l0).bind fun t176 => (some (decide (t176 ≥ 0)))) = some r := h
  clear h
  replace H := Option.bind_eq_some_iff.mp H
  obtain ⟨t176, A30, H⟩ := H
  replace H : (some (decide (t176 ≥ 0))) = some r := H
  have A3 := Aside0.mk A30
  clear A30
  obtain rfl := Option.some.inj H
  go_enter Try.func116, Try.ntmps116
  go_wp2_with (first | ((with_reducible refine gate_callee (f := 134) rfl ?_); refine goesL_ (some 7) rfl rfl Try.func134 (by kernel_rfl) rfl #[.slice A0 l0.length c0, .func (.func 117) #[] #[]] rfl (by (try simp only [List.map_toArray, List.map_cons, List.map_nil]); first | done | rfl | (simp only [List.length_drop, List.length_take]; rfl)) ?_; (with_reducible refine (slices_IndexFunc_at117.calls k _ _ l0  t176 _ ?side1 ?side2 A3.out).mono ?_); (case side1 => repeat (first | exact HR0.out | (with_reducible refine Kd.C_alloc ?_ _) | (with_reducible refine Kd.C_drewN ?_ _) | (with_reducible refine Kd.C_drew ?_))); (case side2 => exact HC0.out); rintro e w' ⟨rfl, ⟨nd, rfl⟩⟩; refine ⟨_, rfl, ?_⟩))
  go_ret
  exact ⟨by first | rfl | (simp; done) | (simp [*]; done), by repeat (first | exact Drawn0.refl _ | apply Drawn0.step)⟩

end Go.Proofs.Ytoddejmlcnbdmaa.Fn
namespace Go.Proofs.Ytoddejmlcnbdmaa.Fn
open Go.RowKit Go.Proofs.YtoddejmlcnbdmaaW.PrintWords Go.Proofs.YtoddejmlcnbdmaaW.PrintLast Go.Proofs.YtoddejmlcnbdmaaW.PrintMore
attribute [local go_sem] max2_int min2_int max_two min_two max_three min_three max_four min_four   -- for this text's walks alone
set_option linter.unusedVariables false
set_option linter.unusedSimpArgs false

/-! ### impl_arePairs: function 86 -/
def impl_arePairs.f (k : Nat) (l0 : List ByteArray) (l1 : List ByteArray) : Option (Bool) := if (l0.length : Int) ≤ 40 then (if (l0.length : Int) = (l1.length : Int) then ((impl_areRising.f k l0).bind fun t177 => (if t177 = true then ((slices_ContainsFunc_at117.f k l1).bind fun t178 => (some (!t178))) else (some false))) else (some false)) else (some false)
theorem impl_arePairs.mono : ∀ a0 a1 k, LeO (impl_arePairs.f k a0 a1) (impl_arePairs.f (k + 1) a0 a1) := by
  intro a0 a1 k
  unfold impl_arePairs.f
  repeat' first
      | (with_reducible exact impl_areRising.mono _ _)
      | (with_reducible exact slices_ContainsFunc_at117.mono _ _)
      | (with_reducible exact LeO.refl _)
      | (with_reducible exact LeO.none _)
      | (with_reducible refine LeO.ite ?_ ?_)
      | (with_reducible refine LeO.bind ?_ (fun _ => ?_))
      | exact impl_areRising.mono _ _
      | exact slices_ContainsFunc_at117.mono _ _
      | exact LeO.none _
      | refine LeO.ite ?_ ?_
      | refine LeO.bind ?_ (fun _ => ?_)
set_option maxHeartbeats 8000000 in
set_option maxRecDepth 100000 in
theorem impl_arePairs.calls (k : Nat) (A0 : Option Addr) (c0 : Nat) (l0 : List ByteArray) (A1 : Option Addr) (c1 : Nat) (l1 : List ByteArray) (r : Bool) (w : World) (hr0 : Kd.C Kd.string w A0 l0.length l0) (hc0 : l0.length ≤ c0) (hr1 : Kd.C Kd.string w A1 l1.length l1) (hc1 : l1.length ≤ c1) (h : impl_arePairs.f k l0 l1 = some r) :
    Calls Try.prog 86 #[.slice A0 l0.length c0, .slice A1 l1.length c1] w fun e w' => e = .returned (.bool r) ∧ Drawn0 w w' := by
  have HR0 := Aside0.mk hr0
  have HC0 := Aside0.mk hc0
  clear hr0 hc0
  have HR1 := Aside0.mk hr1
  have HC1 := Aside0.mk hc1
  clear hr1 hc1
  have H : (if (l0.length : Int) ≤ 40 then (if (l0.length : Int) = (l1.length : Int) then ((impl_areRising.f k l0).bind fun t177 => (if t177 = true then ((slices_ContainsFunc_at117.f k l1).bind fun t178 => (some (!t178))) else (some false))) else (some false)) else (some false)) = some r := h
  clear h
  by_cases c3 : (l0.length : Int) ≤ 40
  · rw [if_pos c3] at H
    have c3b0 : decide ((l0.length : Int) ≤ 40) = true := decide_eq_true c3
    have c3b1 : decide (l0.length ≤ 40) = true := decide_eq_true (by omega)
    clear c3
    by_cases c4 : (l0.length : Int) = (l1.length : Int)
    · rw [if_pos c4] at H
      have c4b0 : ((l0.length : Int) == (l1.length : Int)) = true := beq_iff_eq.mpr c4
      have c4b1 : ((l0.length : Int) != (l1.length : Int)) = false := bne_eq_false_iff_eq.mpr c4
      have c4b2 : (l0.length == l1.length) = true := by first | simpa using c4 | (simp at c4 ⊢; omega)
      clear c4
      replace H := Option.bind_eq_some_iff.mp H
      obtain ⟨t177, A50, H⟩ := H
      replace H : (if t177 = true then ((slices_ContainsFunc_at117.f k l1).bind fun t178 => (some (!t178))) else (some false)) = some r := H
      have A5 := Aside0.mk A50
      clear A50
      by_cases c6 : t177 = true
      · subst c6
        have H1 : ((slices_ContainsFunc_at117.f k l1).bind fun t178 => (some (!t178))) = some r := by rw [if_pos rfl] at H; exact H
        clear H
        have H := H1
        clear H1
        replace H := Option.bind_eq_some_iff.mp H
        obtain ⟨t178, A70, H⟩ := H
        replace H : (some (!t178)) = some r := H
        have A7 := Aside0.mk A70
        clear A70
        obtain rfl := Option.some.inj H
        go_enter Try.func86, Try.ntmps86
        go_wp2_with (first | (go_at_call 115; (with_reducible refine (impl_areRising.calls k _ _ l0 true _ ?side1 ?side2 A5.out).mono ?_); (case side1 => repeat (first | exact HR0.out | (with_reducible refine Kd.C_alloc ?_ _) | (with_reducible refine Kd.C_drewN ?_ _) | (with_reducible refine Kd.C_drew ?_))); (case side2 => exact HC0.out); rintro e w' ⟨rfl, ⟨nd, rfl⟩⟩) | (go_at_call 116; (with_reducible refine (slices_ContainsFunc_at117.calls k _ _ l1  t178 _ ?side1 ?side2 A7.out).mono ?_); (case side1 => repeat (first | exact HR1.out | (with_reducible refine Kd.C_alloc ?_ _) | (with_reducible refine Kd.C_drewN ?_ _) | (with_reducible refine Kd.C_drew ?_))); (case side2 => exact HC1.out); rintro e w' ⟨rfl, ⟨nd, rfl⟩⟩))
        go_ret
        exact ⟨by first | rfl | (simp; done) | (simp [*]; done), by repeat (first | exact Drawn0.refl _ | apply Drawn0.step)⟩
      · replace c6 := Bool.eq_false_iff.mpr c6
        subst c6
        have H1 : (some false) = some r := by rw [if_neg (show ¬ (false = true) by decide)] at H; exact H
        clear H
        have H := H1
        clear H1
        obtain rfl := Option.some.inj H
        go_enter Try.func86, Try.ntmps86
        go_wp2_with (first | (go_at_call 115; (with_reducible refine (impl_areRising.calls k _ _ l0 false _ ?side1 ?side2 A5.out).mono ?_); (case side1 => repeat (first | exact HR0.out | (with_reducible refine Kd.C_alloc ?_ _) | (with_reducible refine Kd.C_drewN ?_ _) | (with_reducible refine Kd.C_drew ?_))); (case side2 => exact HC0.out); rintro e w' ⟨rfl, ⟨nd, rfl⟩⟩))
        go_ret
        exact ⟨by first | rfl | (simp; done) | (simp [*]; done), by repeat (first | exact Drawn0.refl _ | apply Drawn0.step)⟩
    · rw [if_neg c4] at H
      have c4b0 : ((l0.length : Int) == (l1.length : Int)) = false := beq_eq_false_iff_ne.mpr c4
      have c4b1 : ((l0.length : Int) != (l1.length : Int)) = true := bne_iff_ne.mpr c4
      have c4b2 : (l0.length == l1.length) = false := by first | simpa using c4 | (simp at c4 ⊢; omega)
      obtain rfl := Option.some.inj H
      go_enter Try.func86, Try.ntmps86
      go_wp2
      go_ret
      exact ⟨by first | rfl | (simp; done) | (simp [*]; done), by repeat (first | exact Drawn0.refl _ | apply Drawn0.step)⟩
  · rw [if_neg c3] at H
    have c3b0 : decide ((l0.length : Int) ≤ 40) = false := decide_eq_false c3
    have c3b1 : decide (l0.length ≤ 40) = false := decide_eq_false (by omega)
    clear c3
    obtain rfl := Option.some.inj H
    go_enter Try.func86, Try.ntmps86
    go_wp2
    go_ret
    exact ⟨by first | rfl | (simp; done) | (simp [*]; done), by repeat (first | exact Drawn0.refl _ | apply Drawn0.step)⟩

end Go.Proofs.Ytoddejmlcnbdmaa.Fn
namespace Go.Proofs.Ytoddejmlcnbdmaa.Tree
open Go.RowKit Go.Proofs.YtoddejmlcnbdmaaW.PrintWords Go.Proofs.Ytoddejmlcnbdmaa.Fn
set_option linter.unusedVariables false

def pairS (k v : ByteArray) : Bool := (spec_l5Pair.f k v).getD false
theorem pairS_f (k v : ByteArray) : spec_l5Pair.f k v = some (pairS k v) := by
  unfold pairS spec_l5Pair.f spec_l5Text.f
  simp only [Option.bind_some]
  split
  · split <;> rfl
  · rfl
def prevOk : Option ByteArray → ByteArray → Bool
  | none, _ => true
  | some p, k => ltB p k
def chkS : List ByteArray → List ByteArray → Option ByteArray → Bool
  | [], _, _ => true
  | k :: ks, vs, prev => pairS k (vs.headD ByteArray.empty) && prevOk prev k && chkS ks (vs.drop 1) (some k)
def prevAt (keys : List ByteArray) : Nat → Option ByteArray
  | 0 => none
  | j + 1 => keys[j]?
theorem chk_on {keys vals : List ByteArray} {i : Nat} {k v : ByteArray} {B : Bool} (h : B = chkS (keys.drop i) (vals.drop i) (prevAt keys i)) (hk : keys[i]? = some k) (hv : vals[i]? = some v) (hp : pairS k v = true) (ho : ∀ p, prevAt keys i = some p → ltB p k = true) :
    B = chkS (keys.drop (i + 1)) (vals.drop (i + 1)) (prevAt keys (i + 1)) := by
  rw [drop_of hk, drop_of hv, chkS, List.headD_cons, hp, List.drop_succ_cons, List.drop_zero, Bool.true_and] at h
  rw [h]
  show _ = chkS _ _ (keys[i]?)
  rw [hk]
  cases hpr : prevAt keys i with
  | none => rfl
  | some p => simp only [prevOk, ho p hpr, Bool.true_and]
theorem chk_off1 {keys vals : List ByteArray} {i : Nat} {k v : ByteArray} {B : Bool} (h : B = chkS (keys.drop i) (vals.drop i) (prevAt keys i)) (hk : keys[i]? = some k) (hv : vals[i]? = some v) (hp : pairS k v = false) : B = false := by
  rw [drop_of hk, drop_of hv, chkS, List.headD_cons, hp, Bool.false_and, Bool.false_and] at h
  exact h
theorem chk_off2 {keys vals : List ByteArray} {i : Nat} {k p : ByteArray} {B : Bool} (h : B = chkS (keys.drop i) (vals.drop i) (prevAt keys i)) (hk : keys[i]? = some k) (hpr : prevAt keys i = some p) (ho : ltB p k = false) : B = false := by
  rw [drop_of hk, chkS, hpr] at h
  rw [h]
  simp only [prevOk, ho, Bool.and_false, Bool.false_and]
theorem chk_end {keys vals : List ByteArray} {i : Nat} {B : Bool} (h : B = chkS (keys.drop i) (vals.drop i) (prevAt keys i)) (hi : keys.length ≤ i) : B = true := by
  rw [List.drop_eq_nil_of_le hi, chkS] at h
  exact h
def ofS (P : List S110) : Option PT := match readS P 10 0 with
  | none => none
  | some r => if r.2 ≠ P.length then none else if chkS (allK r.1) (allV r.1) none = false then none else if evenS r.1 < 0 ∨ (r.1.kids.length ≠ 0 ∧ r.1.keys.length = 0) ∨ 40 < (allK r.1).length then none else some r.1
/-- With k rounds for the keys' test. -/
def rootI (k : Nat) (P : List S110) : Option (Option PT) := match readS P (P.length + 1) 0 with
  | none => some none
  | some r => if r.2 ≠ P.length then some none else if (depthP r.1).2 = false then some none else (impl_arePairs.f k (allK r.1) (allV r.1)).bind fun b => some (if b = true then some r.1 else none)
/-! how much a tree that was read holds -/
theorem weave_le {α : Type} : ∀ (cs : List (List α)) (ks : List α), (weave cs ks).length ≤ (cs.map List.length).sum + ks.length
  | [], ks => by simp [weave]
  | c :: cs, [] => by simp [weave]
  | c :: cs, k :: ks => by
    have := weave_le cs ks
    simp only [weave, List.length_append, List.length_cons, List.map_cons, List.sum_cons]
    omega
structure Fits (t : PT) (m : Nat) : Prop where
  shp : Shp t
  four : t.keys.length ≤ 4
  k : (allK t).length ≤ 4 * m
  v : (allV t).length ≤ 4 * m
theorem readK_fits {rd : Nat → Option (PT × Nat)} (hrd : ∀ a t n, rd a = some (t, n) → a < n ∧ Fits t (n - a)) : ∀ (l : List Int) (next : Nat) (acc ts : List PT) (n s : Nat),
    (∀ t ∈ acc, Shp t) → ((acc.map allK).map List.length).sum ≤ 4 * s → ((acc.map allV).map List.length).sum ≤ 4 * s → readK rd l next acc = some (ts, n) →
    next ≤ n ∧ ts.length = acc.length + l.length ∧ (∀ t ∈ ts, Shp t) ∧ ((ts.map allK).map List.length).sum ≤ 4 * (s + (n - next)) ∧ ((ts.map allV).map List.length).sum ≤ 4 * (s + (n - next))
  | [], next, acc, ts, n, s, h1, h2, h3, h => by
    rw [readK] at h
    injection h with h
    injection h with e1 e2
    subst e1; subst e2
    refine ⟨Nat.le_refl _, by simp, h1, by omega, by omega⟩
  | k :: ks, next, acc, ts, n, s, h1, h2, h3, h => by
    rw [readK] at h
    split at h
    · cases h
    · cases hr : rd next with
      | none => rw [hr] at h; cases h
      | some r =>
        rw [hr] at h
        obtain ⟨t, m⟩ := r
        obtain ⟨hlt, hf⟩ := hrd next t m hr
        have hk := hf.k
        have hv := hf.v
        have := readK_fits hrd ks m (acc ++ [t]) ts n (s + (m - next)) (fun x hx => by
          rcases List.mem_append.1 hx with hx | hx
          · exact h1 x hx
          · rw [List.mem_singleton.1 hx]; exact hf.shp) (by simp only [List.map_append, List.map_cons, List.map_nil, List.sum_append, List.sum_cons, List.sum_nil]; omega) (by simp only [List.map_append, List.map_cons, List.map_nil, List.sum_append, List.sum_cons, List.sum_nil]; omega) h
        obtain ⟨g1, g2, g3, g4, g5⟩ := this
        rw [List.length_append] at g2
        simp only [List.length_cons, List.length_nil] at g2 ⊢
        exact ⟨by omega, by omega, g3, by omega, by omega⟩
theorem readS_fits {P : List S110} : ∀ (f a : Nat) (t : PT) (n : Nat), readS P f a = some (t, n) → a < n ∧ Fits t (n - a)
  | 0, a, t, n, h => by cases h
  | f + 1, a, t, n, h => by
    rw [readS] at h
    split at h
    · cases h
    · split at h
      · cases h
      · rename_i hl hb
        generalize P.getD a z110 = p at h hb
        unfold fin at h
        obtain ⟨r, hr, e⟩ := Option.map_eq_some_iff.1 h
        obtain ⟨ts, m⟩ := r
        injection e with e1 e2
        have e2 : m = n := e2
        subst e2
        have := readK_fits (fun a t n h => readS_fits f a t n h) p.f2 (a + 1) [] ts m 0 (fun t h => by cases h) (by simp) (by simp) hr
        obtain ⟨g1, g2, g3, g4, g5⟩ := this
        have hb' : badP p = false := by cases hbb : badP p <;> simp_all
        unfold badP at hb'
        simp only [Bool.or_eq_false_iff, Bool.and_eq_false_iff, decide_eq_false_iff_not, bne_eq_false_iff_eq] at hb'
        have e1 : PT.mk p.f0 p.f1 ts = t := e1
        subst e1
        simp only [List.length_nil] at g2
        have s1 : Shp1 (.mk p.f0 p.f1 ts) := by
          unfold Shp1
          simp only [PT.keys, PT.vals, PT.kids]
          omega
        refine ⟨by omega, Shp.mk' s1 (fun i s hs => g3 s (List.mem_of_getElem? hs)), by show p.f0.length ≤ 4; omega, ?_, ?_⟩
        · rw [allK_eq]
          have := weave_le (ts.map allK) p.f0
          show (weave (ts.map allK) p.f0).length ≤ _
          omega
        · rw [allV_eq]
          have := weave_le (ts.map allV) p.f1
          show (weave (ts.map allV) p.f1).length ≤ _
          omega
theorem weave_len {α β : Type} : ∀ (cs : List (List α)) (ds : List (List β)) (ks : List α) (vs : List β), cs.map List.length = ds.map List.length → ks.length = vs.length → (weave cs ks).length = (weave ds vs).length
  | [], [], ks, vs, _, h => by simpa [weave] using h
  | [], d :: ds, ks, vs, h, _ => by simp at h
  | c :: cs, [], ks, vs, h, _ => by simp at h
  | c :: cs, d :: ds, [], [], h, _ => by simp at h; simp [weave, h.1]
  | c :: cs, d :: ds, [], v :: vs, _, h => by simp at h
  | c :: cs, d :: ds, k :: ks, [], _, h => by simp at h
  | c :: cs, d :: ds, k :: ks, v :: vs, h1, h2 => by
    simp only [List.map_cons, List.cons.injEq] at h1
    have := weave_len cs ds ks vs h1.2 (by simpa using h2)
    simp only [weave, List.length_append, List.length_cons]
    omega
theorem allV_len_ : ∀ (n : Nat) {t : PT}, SizeOf.sizeOf t ≤ n → Shp t → (allV t).length = (allK t).length
  | 0, t, h, _ => by cases t; simp at h
  | n + 1, t, h, hs => by
    have h1 := hs.one
    unfold Shp1 at h1
    rw [allV_eq, allK_eq]
    refine weave_len _ _ _ _ ?_ h1.1.symm
    rw [List.map_map, List.map_map]
    refine List.map_congr_left fun s hm => ?_
    obtain ⟨i, hi⟩ := List.getElem?_of_mem hm
    have := PT.size_kid hi
    exact allV_len_ n (by omega) (hs.kid hi)
theorem allV_len {t : PT} (h : Shp t) : (allV t).length = (allK t).length := allV_len_ _ (Nat.le_refl _) h
end Go.Proofs.Ytoddejmlcnbdmaa.Tree
namespace Go.Proofs.Ytoddejmlcnbdmaa.Tree
open Go.Proofs.Ytoddejmlcnbdmaa.Gen
open Go.RowKit Go.Proofs.YtoddejmlcnbdmaaW.PrintWords Go.Proofs.YtoddejmlcnbdmaaW.PrintLast Go.Proofs.YtoddejmlcnbdmaaW.PrintMore Go.Proofs.Ytoddejmlcnbdmaa.Fn
set_option linter.unusedVariables false
set_option linter.unusedSimpArgs false
set_option maxHeartbeats 8000000
set_option maxRecDepth 100000

theorem Shp.few_ {t : PT} (h : Shp t) : Few t := Shp.few (n := SizeOf.sizeOf t) (Nat.le_refl _) h
/-- What a tree's making out of pages comes to. -/
def OfR (T E : Nat) (w : World) (r : Option PT) (e : Ending) (w' : World) : Prop :=
  Below w.heap.size w w' ∧ ((r = none ∧ e = .returned (.tuple #[.pointer none, .bool false])) ∨
    ∃ nt : NT, r = some nt.erase ∧ e = .returned (.tuple #[ptrv nt.p, .bool true]) ∧ Sat w' w.heap.size (nt.cks T E))
theorem neNil (v : Value) : NeRow (.slice none 0 0) v := fun k hk => by cases hk
theorem spec_all.calls0 (t : PT) (hs : Shp t) {p : Nat} (w : World) (h : Rd 96 w p t) (hb1 : (allK t).length ≤ 8796093022208) (hb2 : (allV t).length ≤ 8796093022208) : Calls Try.prog 65 #[ptrv p, .slice none 0 0, .slice none 0 0] w (AllR w (allK t) (allV t)) :=
  spec_all.calls _ t (Nat.le_refl _) hs w w (.slice none 0 0) (.slice none 0 0) [] [] h (Below.refl _ _) (SR.nil _ _) (SR.nil _ _) (neNil _) hb1 hb2
theorem spec_l5Read.calls0 (P : List S110) (hN : P.length ≤ 1000000000000) (A : Option Addr) (c : Nat) (w : World) (hp : Kd.C k110 w A P.length P) (hm : ∀ p ∈ P, p.f0.length ≤ 1000000000000 ∧ p.f1.length ≤ 1000000000000 ∧ p.f2.length ≤ 1000000000000) :
    Calls Try.prog 95 #[.agg #[.slice A P.length c], .int .i64 0, .int .i64 1] w (ReadR 96 70 w (readS P 10 0)) :=
  spec_l5Read.calls P hN 10 1 (by omega) (by omega) 0 A c w hp hm (Nat.zero_le _)
theorem spec_l5Of.calls (P : List S110) (hN : P.length ≤ 1000000000000) (A : Option Addr) (c : Nat) (w : World) (hp : Kd.C k110 w A P.length P) (hm : ∀ p ∈ P, p.f0.length ≤ 1000000000000 ∧ p.f1.length ≤ 1000000000000 ∧ p.f2.length ≤ 1000000000000) :
    Calls Try.prog 57 #[.agg #[.slice A P.length c]] w (OfR 96 70 w (ofS P)) := by
  have HP := Aside0.mk hp
  have HM := Aside0.mk hm
  have HNP := Aside0.mk hN
  have hNl : P.length ≤ 1000000000000 := hN
  obtain ⟨R, hR⟩ : ∃ R, R = ofS P := ⟨_, rfl⟩
  rw [← hR]
  unfold ofS at hR
  cases hrs : readS P 10 0 with
  | none =>
    rw [hrs] at hR
    have HE := Aside0.mk hR
    have HRS := Aside0.mk hrs
    have tn : ((-1 : Int) != (P.length : Int)) = true := by rw [bne_iff_ne]; omega
    clear hp hm hN hR hrs
    go_enter Try.func57, Try.ntmps57
    go_wp2_with (first | ((with_reducible refine gate_dst (N := 1) rfl ?_); refine box_event ?hg (N := 1) ?hd (cs := #[.slice A P.length c]) (t := 29) ?hr ?_; (case hd => rfl); (case hg => rfl); (case hr => first | (go_simp; done) | (go_simp; rfl)); intro b3 hg w1 hbox hb; have HBX := Aside0.mk hbox; have HB := Aside0.mk hb; have hz3 : w1.cell? ⟨b3, 0, none⟩ = some (.slice A P.length c) := (blk_cell hbox 0).trans rfl; clear hg hbox hb) | (go_at_call 95; (with_reducible refine (spec_l5Read.calls0 P HNP.out A c _ (Kd.C_below HP.out HB.out) HM.out).mono ?_); rintro e w2 ⟨hb, hr⟩; rw [HRS.out] at hr; obtain ⟨-, rfl⟩ := hr.resolve_right (by rintro ⟨_, _, h, _⟩; cases h); have hz3b : w2.cell? ⟨b3, 0, none⟩ = some (.slice A P.length c) := (blk_cell (blk_below HBX.out hb) 0).trans rfl; have n1_ := Aside0.mk (below_step HB.out hb); clear HB; have HB := n1_; clear n1_ hb hr))
    go_ret2
    exact ⟨HB.out, .inl ⟨HE.out, rfl⟩⟩
  | some tn =>
    obtain ⟨t, n⟩ := tn
    rw [hrs] at hR
    simp only at hR
    have HRS := Aside0.mk hrs
    have HFT := Aside0.mk (readS_fits 10 0 t n hrs).2
    have HLE := Aside0.mk (readS_le 10 0 t n hrs)
    have hn0 : decide ((n : Int) < 0) = false := decide_eq_false (by omega)
    by_cases hn : n = P.length
    · rw [if_neg (by simp [hn])] at hR
      have tn1 : ((n : Int) != (P.length : Int)) = false := ne_f hn
      have tn2 : (n != P.length) = false := nen_f hn
      have HZ1 := Aside0.mk (show (allK t).length ≤ 8796093022208 by have := HFT.out.k; omega)
      have HZ2 := Aside0.mk (show (allV t).length ≤ 8796093022208 by have := HFT.out.v; omega)
      have HKB := Aside0.mk (show (allK t).length ≤ 4000000000000 by have := HFT.out.k; omega)
      have HRR := Aside0.mk hR
      clear hp hm hN hR hrs hn
      go_enter Try.func57, Try.ntmps57
      go_upto_region 6 with (first | ((with_reducible refine gate_dst (N := 1) rfl ?_); refine box_event ?hg (N := 1) ?hd (cs := #[.slice A P.length c]) (t := 29) ?hr ?_; (case hd => rfl); (case hg => rfl); (case hr => first | (go_simp; done) | (go_simp; rfl)); intro b3 hg w1 hbox hb; have HBX := Aside0.mk hbox; have HB := Aside0.mk hb; have hz3 : w1.cell? ⟨b3, 0, none⟩ = some (.slice A P.length c) := (blk_cell hbox 0).trans rfl; clear hg hbox hb) | (go_at_call 95; (with_reducible refine (spec_l5Read.calls0 P HNP.out A c _ (Kd.C_below HP.out HB.out) HM.out).mono ?_); rintro e w2 ⟨hb, hr⟩; rw [HRS.out] at hr; obtain ⟨nt, n9, h9, rfl, hs⟩ := hr.resolve_left (by rintro ⟨h, _⟩; cases h); injection h9 with h9; injection h9 with h9 h8; subst h9; subst h8; have hz3b : w2.cell? ⟨b3, 0, none⟩ = some (.slice A P.length c) := (blk_cell (blk_below HBX.out hb) 0).trans rfl; have HS2 := Aside0.mk (hs.lower HB.out.size); have n1_ := Aside0.mk (below_step HB.out hb); clear HB; have HB := n1_; clear n1_ hb hr hs) | (go_at_call 65; (with_reducible refine (spec_all.calls0 nt.erase HFT.out.shp w2 (rd_of HS2.out) HZ1.out HZ2.out).mono ?_); rintro e w3 ⟨u1, u2, rfl, ho1, ho2, hne, hb⟩; obtain ⟨B1, d1, rfl, hl1, hc1⟩ := Kd.R_reads ho1; obtain ⟨B2, d2, rfl, hl2, hc2⟩ := Kd.R_reads ho2; have HC1 := Aside0.mk hc1; have HC2 := Aside0.mk hc2; have n1_ := Aside0.mk (below_step HB.out hb); have HR3 := Aside0.mk ((rd_of HS2.out).under hb); have HS3 := Aside0.mk (HS2.out.under hb); clear HB; have HB := n1_; clear n1_ hb ho1 ho2 hne hl1 hl2 hc1 hc2 HS2))
      have hkb : (allK nt.erase).length ≤ 4000000000000 := HKB.out
      obtain ⟨B, hB⟩ : ∃ B, B = chkS (allK nt.erase) (allV nt.erase) none := ⟨_, rfl⟩
      have HBB := Aside0.mk hB
      have HVK := Aside0.mk (allV_len HFT.out.shp)
      have HCH := Aside0.mk (show B = chkS ((allK nt.erase).drop 0) ((allV nt.erase).drop 0) (prevAt (allK nt.erase) 0) from hB)
      clear hz3 hz3b hB
      go_loopg [31] (allK nt.erase).length (fun kq u31 w' => ∃ (i m : Nat), u31 = .int .i64 (i : Int) ∧ Aside0 (i ≤ (allK nt.erase).length ∧ kq + i = (allK nt.erase).length) ∧ Aside0 (B = chkS ((allK nt.erase).drop i) ((allV nt.erase).drop i) (prevAt (allK nt.erase) i)) ∧ w' = w3.drewN m)
      case atStart => exact ⟨0, 0, by first | rfl | (simp; done), ⟨by omega⟩, HCH, rfl⟩
      case round =>
        clear HCH
        obtain ⟨i, m, rfl, HK, HCH, rfl⟩ := hrel
        have ci : (0 ≤ (i : Int)) = True := eq_true (by omega)
        by_cases hi : i < (allK nt.erase).length
        · have ce : decide ((i : Int) < ((allK nt.erase).length : Int)) = true := decide_eq_true (by omega)
          have ceb : (i < (allK nt.erase).length) = True := eq_true hi
          have hil : i < 4000000000000 := by omega
          have hiv : i < (allV nt.erase).length := by rw [HVK.out]; exact hi
          have cva : ((i : Int) < ((allV nt.erase).length : Int)) = True := eq_true (by omega)
          have cvb : (i < (allV nt.erase).length) = True := eq_true hiv
          have HI := Aside0.mk hi
          obtain ⟨adk, hA1, hk0⟩ := Kd.at_string HC1.out (i : Int) (by omega) (by omega)
          obtain ⟨adv, hA2, hv0⟩ := Kd.at_string HC2.out (i : Int) (by omega) (by omega)
          subst hA1
          subst hA2
          rw [Int.toNat_natCast] at hk0 hv0
          have hks : (allK nt.erase)[i]? = some (rdOf ByteArray.empty (allK nt.erase) (i : Int)) := by unfold rdOf; rw [Int.toNat_natCast, List.getD_eq_getElem?_getD, List.getElem?_eq_getElem hi]; rfl
          have hvs : (allV nt.erase)[i]? = some (rdOf ByteArray.empty (allV nt.erase) (i : Int)) := by unfold rdOf; rw [Int.toNat_natCast, List.getD_eq_getElem?_getD, List.getElem?_eq_getElem hiv]; rfl
          generalize rdOf ByteArray.empty (allK nt.erase) (i : Int) = kx at hk0 hks
          generalize rdOf ByteArray.empty (allV nt.erase) (i : Int) = vx at hv0 hvs
          have HKS := Aside0.mk hks
          have HVS := Aside0.mk hvs
          clear hks hvs hi hiv
          cases hpr : pairS kx vx with
          | false =>
            have HPR := Aside0.mk ((pairS_f kx vx).trans (by rw [hpr]))
            have hbf := chk_off1 HCH.out HKS.out HVS.out hpr
            have HE := Aside0.mk (show R = none by have := HRR.out; rw [if_pos (by rw [← HBB.out]; exact hbf)] at this; exact this)
            clear hpr hbf
            go_wp2_with (go_at_call 75; (with_reducible refine (spec_l5Pair.calls kx vx false _ HPR.out).mono ?_); rintro e w' ⟨rfl, ⟨nd, rfl⟩⟩)
            go_ret2
            exact ⟨pw_below_drewN HB.out _, .inl ⟨HE.out, rfl⟩⟩
          | true =>
            have HPR := Aside0.mk ((pairS_f kx vx).trans (by rw [hpr]))
            have HPRT := Aside0.mk hpr
            clear hpr
            by_cases hi0 : 0 < i
            · have t0 : decide (0 < (i : Int)) = true := decide_eq_true (by omega)
              have t0b : (0 < i) = True := eq_true hi0
              obtain ⟨ji, hji⟩ : ∃ j : Int, j = (i : Int) - 1 := ⟨_, rfl⟩
              have hjw : IntKind.i64.wrap ((i : Int) - 1) = ji := by rw [IntWalk.i64_in _ (by omega)]; exact hji.symm
              obtain ⟨adp, hA3, hp0⟩ := Kd.at_string HC1.out ji (by omega) (by have := HI.out; omega)
              obtain rfl : adk = adp := Option.some.inj hA3
              have hps : prevAt (allK nt.erase) i = some (rdOf ByteArray.empty (allK nt.erase) ji) := by
                obtain ⟨j, rfl⟩ : ∃ j, i = j + 1 := ⟨i - 1, by omega⟩
                have e : ji.toNat = j := by omega
                show (allK nt.erase)[j]? = _
                unfold rdOf
                rw [e, List.getD_eq_getElem?_getD, List.getElem?_eq_getElem (by have := HI.out; omega)]
                rfl
              generalize rdOf ByteArray.empty (allK nt.erase) ji = px at hp0 hps
              have cj0 : (0 ≤ ji) = True := eq_true (by omega)
              have cj1 : (ji < ((allK nt.erase).length : Int)) = True := eq_true (by have := HI.out; omega)
              have cj2 : decide (0 ≤ ji) = true := decide_eq_true (by omega)
              have cj3 : decide (ji < ((allK nt.erase).length : Int)) = true := decide_eq_true (by have := HI.out; omega)
              have HPS := Aside0.mk hps
              clear hps hi0 hji
              cases hlt : ltB px kx with
              | true =>
                have HC' := Aside0.mk (chk_on HCH.out HKS.out HVS.out HPRT.out (fun p hp => by rw [HPS.out] at hp; injection hp with hp; rw [← hp]; exact hlt))
                have hl' : Op.bytesLess px.toList kx.toList = true := hlt
                clear hlt
                go_wp2_with (go_at_call 75; (with_reducible refine (spec_l5Pair.calls kx vx true _ HPR.out).mono ?_); rintro e w' ⟨rfl, ⟨nd, rfl⟩⟩)
                go_roundg ((allK nt.erase).length - (i + 1))
                case measure => have := HK.out; have := HI.out; omega
                case rel => exact ⟨i + 1, _, by first | rfl | go_num | (simp; done), ⟨by have := HK.out; have := HI.out; omega⟩, HC', rfl⟩
              | false =>
                have hbf := chk_off2 HCH.out HKS.out HPS.out hlt
                have HE := Aside0.mk (show R = none by have := HRR.out; rw [if_pos (by rw [← HBB.out]; exact hbf)] at this; exact this)
                have hl' : Op.bytesLess px.toList kx.toList = false := hlt
                clear hlt hbf
                go_wp2_with (go_at_call 75; (with_reducible refine (spec_l5Pair.calls kx vx true _ HPR.out).mono ?_); rintro e w' ⟨rfl, ⟨nd, rfl⟩⟩)
                go_ret2
                exact ⟨pw_below_drewN HB.out _, .inl ⟨HE.out, rfl⟩⟩
            · have t0 : decide (0 < (i : Int)) = false := decide_eq_false (by omega)
              have t0b : (0 < i) = False := eq_false hi0
              have HC' := Aside0.mk (chk_on HCH.out HKS.out HVS.out HPRT.out (fun p hp => by have h_ : i = 0 := (by omega); rw [h_] at hp; cases hp))
              clear hi0
              go_wp2_with (go_at_call 75; (with_reducible refine (spec_l5Pair.calls kx vx true _ HPR.out).mono ?_); rintro e w' ⟨rfl, ⟨nd, rfl⟩⟩)
              go_roundg ((allK nt.erase).length - (i + 1))
              case measure => have := HK.out; have := HI.out; omega
              case rel => exact ⟨i + 1, _, by first | rfl | go_num | (simp; done), ⟨by have := HK.out; have := HI.out; omega⟩, HC', rfl⟩
        · have ce : decide ((i : Int) < ((allK nt.erase).length : Int)) = false := decide_eq_false (by omega)
          have ceb : (i < (allK nt.erase).length) = False := eq_false hi
          have hbt := chk_end HCH.out (by omega)
          have hrr := HRR.out
          rw [if_neg (by rw [← HBB.out, hbt]; decide)] at hrr
          obtain ⟨Ak, ck, Av, cv, Ac, cc, ps, HN3⟩ := HR3.out.open
          have hzn := HN3.z0
          clear hi hbt HN3
          by_cases h1 : evenS nt.erase < 0
          · have HE := Aside0.mk (show R = none by rw [hrr, if_pos (.inl h1)])
            have t1 : decide (evenS nt.erase < 0) = true := decide_eq_true h1
            clear h1 hrr
            go_wp2_with (go_at_call 61; (with_reducible refine (spec_even.calls _ nt.erase (Nat.le_refl _) HFT.out.shp.few_ _ ?side1).mono ?_); (case side1 => repeat (first | exact HR3.out | (with_reducible refine Rd.drewN ?_ _) | (with_reducible refine Rd.drew ?_))); rintro e w' ⟨rfl, ⟨nd, rfl⟩⟩)
            go_ret2
            exact ⟨pw_below_drewN HB.out _, .inl ⟨HE.out, rfl⟩⟩
          · have t1 : decide (evenS nt.erase < 0) = false := decide_eq_false h1
            by_cases h2 : nt.erase.kids.length = 0
            · have hbl := Aside0.mk (show decide ((nt.erase.kids.length : Int) = 0) = true from decide_eq_true (by omega))
              by_cases h4 : 40 < (allK nt.erase).length
              · have HE := Aside0.mk (show R = none by rw [hrr, if_pos (.inr (.inr h4))])
                have t4 : decide (40 < ((allK nt.erase).length : Int)) = true := decide_eq_true (by omega)
                have t4b : (40 < (allK nt.erase).length) = True := eq_true h4
                clear h1 h2 h4 hrr
                go_wp2_with (first | (go_at_call 61; (with_reducible refine (spec_even.calls _ nt.erase (Nat.le_refl _) HFT.out.shp.few_ _ ?side1).mono ?_); (case side1 => repeat (first | exact HR3.out | (with_reducible refine Rd.drewN ?_ _) | (with_reducible refine Rd.drew ?_))); rintro e w' ⟨rfl, ⟨nd, rfl⟩⟩) | (go_at_call 84; (with_reducible refine (spec_leaf.callsB true hbl.out _ ?side1).mono ?_); (case side1 => repeat (first | exact HR3.out | (with_reducible refine Rd.drewN ?_ _) | (with_reducible refine Rd.drew ?_))); rintro e w' ⟨rfl, ⟨nd, rfl⟩⟩))
                go_ret2
                exact ⟨pw_below_drewN HB.out _, .inl ⟨HE.out, rfl⟩⟩
              · have HE := Aside0.mk (show R = some nt.erase by rw [hrr, if_neg (by omega)])
                have t4 : decide (40 < ((allK nt.erase).length : Int)) = false := decide_eq_false (by omega)
                have t4b : (40 < (allK nt.erase).length) = False := eq_false h4
                clear h1 h2 h4 hrr
                go_wp2_with (first | (go_at_call 61; (with_reducible refine (spec_even.calls _ nt.erase (Nat.le_refl _) HFT.out.shp.few_ _ ?side1).mono ?_); (case side1 => repeat (first | exact HR3.out | (with_reducible refine Rd.drewN ?_ _) | (with_reducible refine Rd.drew ?_))); rintro e w' ⟨rfl, ⟨nd, rfl⟩⟩) | (go_at_call 84; (with_reducible refine (spec_leaf.callsB true hbl.out _ ?side1).mono ?_); (case side1 => repeat (first | exact HR3.out | (with_reducible refine Rd.drewN ?_ _) | (with_reducible refine Rd.drew ?_))); rintro e w' ⟨rfl, ⟨nd, rfl⟩⟩))
                go_ret2
                exact ⟨pw_below_drewN HB.out _, .inr ⟨nt, HE.out, rfl, (HS3.out.drewN _).lower (Nat.le_refl _)⟩⟩
            · have hbl := Aside0.mk (show decide ((nt.erase.kids.length : Int) = 0) = false from decide_eq_false (by omega))
              by_cases h3 : nt.erase.keys.length = 0
              · have HE := Aside0.mk (show R = none by rw [hrr, if_pos (.inr (.inl ⟨h2, h3⟩))])
                have t3 : ((nt.erase.keys.length : Int) == 0) = true := by rw [beq_iff_eq]; omega
                have t3b : ((nt.erase.keys.length : Int) = 0) = True := eq_true (by omega)
                have t3c : decide ((nt.erase.keys.length : Int) = 0) = true := decide_eq_true (by omega)
                clear h1 h2 h3 hrr
                go_wp2_with (first | (go_at_call 61; (with_reducible refine (spec_even.calls _ nt.erase (Nat.le_refl _) HFT.out.shp.few_ _ ?side1).mono ?_); (case side1 => repeat (first | exact HR3.out | (with_reducible refine Rd.drewN ?_ _) | (with_reducible refine Rd.drew ?_))); rintro e w' ⟨rfl, ⟨nd, rfl⟩⟩) | (go_at_call 84; (with_reducible refine (spec_leaf.callsB false hbl.out _ ?side1).mono ?_); (case side1 => repeat (first | exact HR3.out | (with_reducible refine Rd.drewN ?_ _) | (with_reducible refine Rd.drew ?_))); rintro e w' ⟨rfl, ⟨nd, rfl⟩⟩))
                go_ret2
                exact ⟨pw_below_drewN HB.out _, .inl ⟨HE.out, rfl⟩⟩
              · have t3 : ((nt.erase.keys.length : Int) == 0) = false := by rw [beq_eq_false_iff_ne]; omega
                have t3c : decide ((nt.erase.keys.length : Int) = 0) = false := decide_eq_false (by omega)
                by_cases h4 : 40 < (allK nt.erase).length
                · have HE := Aside0.mk (show R = none by rw [hrr, if_pos (.inr (.inr h4))])
                  have t4 : decide (40 < ((allK nt.erase).length : Int)) = true := decide_eq_true (by omega)
                  have t4b : (40 < (allK nt.erase).length) = True := eq_true h4
                  clear h1 h2 h3 h4 hrr
                  go_wp2_with (first | (go_at_call 61; (with_reducible refine (spec_even.calls _ nt.erase (Nat.le_refl _) HFT.out.shp.few_ _ ?side1).mono ?_); (case side1 => repeat (first | exact HR3.out | (with_reducible refine Rd.drewN ?_ _) | (with_reducible refine Rd.drew ?_))); rintro e w' ⟨rfl, ⟨nd, rfl⟩⟩) | (go_at_call 84; (with_reducible refine (spec_leaf.callsB false hbl.out _ ?side1).mono ?_); (case side1 => repeat (first | exact HR3.out | (with_reducible refine Rd.drewN ?_ _) | (with_reducible refine Rd.drew ?_))); rintro e w' ⟨rfl, ⟨nd, rfl⟩⟩))
                  go_ret2
                  exact ⟨pw_below_drewN HB.out _, .inl ⟨HE.out, rfl⟩⟩
                · have HE := Aside0.mk (show R = some nt.erase by rw [hrr, if_neg (by omega)])
                  have t4 : decide (40 < ((allK nt.erase).length : Int)) = false := decide_eq_false (by omega)
                  have t4b : (40 < (allK nt.erase).length) = False := eq_false h4
                  clear h1 h2 h3 h4 hrr
                  go_wp2_with (first | (go_at_call 61; (with_reducible refine (spec_even.calls _ nt.erase (Nat.le_refl _) HFT.out.shp.few_ _ ?side1).mono ?_); (case side1 => repeat (first | exact HR3.out | (with_reducible refine Rd.drewN ?_ _) | (with_reducible refine Rd.drew ?_))); rintro e w' ⟨rfl, ⟨nd, rfl⟩⟩) | (go_at_call 84; (with_reducible refine (spec_leaf.callsB false hbl.out _ ?side1).mono ?_); (case side1 => repeat (first | exact HR3.out | (with_reducible refine Rd.drewN ?_ _) | (with_reducible refine Rd.drew ?_))); rintro e w' ⟨rfl, ⟨nd, rfl⟩⟩))
                  go_ret2
                  exact ⟨pw_below_drewN HB.out _, .inr ⟨nt, HE.out, rfl, (HS3.out.drewN _).lower (Nat.le_refl _)⟩⟩
    · rw [if_pos (by simpa using hn)] at hR
      have HE := Aside0.mk hR
      have tn1 : ((n : Int) != (P.length : Int)) = true := ne_t hn
      have tn2 : (n != P.length) = true := nen_t hn
      clear hp hm hN hR hrs hn
      go_enter Try.func57, Try.ntmps57
      go_wp2_with (first | ((with_reducible refine gate_dst (N := 1) rfl ?_); refine box_event ?hg (N := 1) ?hd (cs := #[.slice A P.length c]) (t := 29) ?hr ?_; (case hd => rfl); (case hg => rfl); (case hr => first | (go_simp; done) | (go_simp; rfl)); intro b3 hg w1 hbox hb; have HBX := Aside0.mk hbox; have HB := Aside0.mk hb; have hz3 : w1.cell? ⟨b3, 0, none⟩ = some (.slice A P.length c) := (blk_cell hbox 0).trans rfl; clear hg hbox hb) | (go_at_call 95; (with_reducible refine (spec_l5Read.calls0 P HNP.out A c _ (Kd.C_below HP.out HB.out) HM.out).mono ?_); rintro e w2 ⟨hb, hr⟩; rw [HRS.out] at hr; obtain ⟨nt, n9, h9, rfl, hs⟩ := hr.resolve_left (by rintro ⟨h, _⟩; cases h); injection h9 with h9; injection h9 with h9 h8; subst h9; subst h8; have hz3b : w2.cell? ⟨b3, 0, none⟩ = some (.slice A P.length c) := (blk_cell (blk_below HBX.out hb) 0).trans rfl; have HS2 := Aside0.mk (hs.lower HB.out.size); have n1_ := Aside0.mk (below_step HB.out hb); clear HB; have HB := n1_; clear n1_ hb hr hs))
      go_ret2
      exact ⟨HB.out, .inl ⟨HE.out, rfl⟩⟩
end Go.Proofs.Ytoddejmlcnbdmaa.Tree
namespace Go.Proofs.Ytoddejmlcnbdmaa.Tree
open Go.Proofs.Ytoddejmlcnbdmaa.Gen
open Go.RowKit Go.Proofs.YtoddejmlcnbdmaaW.PrintWords Go.Proofs.YtoddejmlcnbdmaaW.PrintLast Go.Proofs.YtoddejmlcnbdmaaW.PrintMore Go.Proofs.Ytoddejmlcnbdmaa.Fn
set_option linter.unusedVariables false
set_option linter.unusedSimpArgs false
set_option maxHeartbeats 8000000
set_option maxRecDepth 100000

theorem impl_all.calls0 (t : PT) (hs : Shp t) {p : Nat} (w : World) (h : Rd 101 w p t) (hb1 : (allK t).length ≤ 8796093022208) (hb2 : (allV t).length ≤ 8796093022208) : Calls Try.prog 66 #[ptrv p, .slice none 0 0, .slice none 0 0] w (AllR w (allK t) (allV t)) :=
  impl_all.calls _ t (Nat.le_refl _) hs w w (.slice none 0 0) (.slice none 0 0) [] [] h (Below.refl _ _) (SR.nil _ _) (SR.nil _ _) (neNil _) hb1 hb2
theorem impl_node.calls0 (P : List S110) (hN : P.length ≤ 1000000000000) (w0 : World) (A : Option Addr) (c : Nat) (hp : Kd.C k110 w0 A P.length P) (hm : ∀ p ∈ P, p.f0.length ≤ 1000000000000 ∧ p.f1.length ≤ 1000000000000 ∧ p.f2.length ≤ 1000000000000) (gb : Nat) (w : World) (hb : Below w0.heap.size w0 w) (hgb : w0.heap.size ≤ gb) (hg : w.heap[gb]? = some (.cells #[.slice A P.length c, .int .i64 0] 121 (0, 0))) :
    Calls Try.prog 97 #[ptrv gb] w (NodeR w0 w gb (.slice A P.length c) (readS P (P.length + 1) 0)) :=
  impl_node.calls P hN w0 A c hp hm (P.length + 1) 0 (by omega) (Nat.zero_le _) gb w hb hgb hg
theorem impl_root.calls (k : Nat) (P : List S110) (hN : P.length ≤ 1000000000000) (A : Option Addr) (c : Nat) (w : World) (hp : Kd.C k110 w A P.length P) (hm : ∀ p ∈ P, p.f0.length ≤ 1000000000000 ∧ p.f1.length ≤ 1000000000000 ∧ p.f2.length ≤ 1000000000000) (r : Option PT) (h : rootI k P = some r) :
    Calls Try.prog 59 #[.agg #[.slice A P.length c]] w (OfR 101 74 w r) := by
  have HP := Aside0.mk hp
  have HM := Aside0.mk hm
  have HNP := Aside0.mk hN
  have hNl : P.length ≤ 1000000000000 := hN
  unfold rootI at h
  cases hrs : readS P (P.length + 1) 0 with
  | none =>
    rw [hrs] at h
    have HE := Aside0.mk (Option.some.inj h)
    have HRS := Aside0.mk hrs
    clear hp hm hN h hrs
    go_enter Try.func59, Try.ntmps59
    go_wp2_with (first | ((with_reducible refine gate_dst (N := 1) rfl ?_); refine box_event ?hg (N := 1) ?hd (cs := #[.slice A P.length c]) (t := 29) ?hr ?_; (case hd => rfl); (case hg => rfl); (case hr => first | (go_simp; done) | (go_simp; rfl)); intro b3 hg w1 hbox hb; have HBX := Aside0.mk hbox; have HB := Aside0.mk hb; have hz3 : w1.cell? ⟨b3, 0, none⟩ = some (.slice A P.length c) := (blk_cell hbox 0).trans rfl; clear hg hbox hb) | ((with_reducible refine gate_dst (N := 12) rfl ?_); refine box_event ?hg (N := 12) ?hd (cs := #[.slice A P.length c, .int .i64 0]) (t := 121) ?hr ?_; (case hd => rfl); (case hg => rfl); (case hr => first | (go_simp; done) | (go_simp; rfl)); intro gb hg w2 hbox hb; have HGB := Aside0.mk (show w.heap.size ≤ gb by rw [hg]; exact HB.out.size); have HBG := Aside0.mk (show b3 ≠ gb by have := blk_lt HBX.out; omega); have HG := Aside0.mk hbox; have n2_ := Aside0.mk (blk_below HBX.out hb); have n1_ := Aside0.mk (below_step HB.out hb); clear HB; clear HBX; have HB := n1_; have HBX := n2_; clear n1_ n2_ hg hbox hb) | (go_at_call 97; (with_reducible refine (impl_node.calls0 P HNP.out w A c HP.out HM.out gb _ HB.out HGB.out HG.out).mono ?_); rintro e w3 ⟨hb, hr⟩; rw [HRS.out] at hr; obtain ⟨-, rfl⟩ := hr.resolve_right (by rintro ⟨_, _, h, _⟩; cases h); clear HB; have HB := Aside0.mk hb; clear hb hr))
    go_quiet (fail)
    go_wp2
    go_ret2
    exact ⟨pw_below_drewN HB.out _, .inl ⟨HE.out.symm, rfl⟩⟩
  | some tn =>
    obtain ⟨t, n⟩ := tn
    rw [hrs] at h
    simp only at h
    have HRS := Aside0.mk hrs
    have HFT := Aside0.mk (readS_fits _ 0 t n hrs).2
    have HLE := Aside0.mk (readS_le _ 0 t n hrs)
    by_cases hn : n = P.length
    · rw [if_neg (by simp [hn])] at h
      have tn1 : ((n : Int) != (P.length : Int)) = false := ne_f hn
      have tn2 : (n != P.length) = false := nen_f hn
      have HZ1 := Aside0.mk (show (allK t).length ≤ 8796093022208 by have := HFT.out.k; omega)
      have HZ2 := Aside0.mk (show (allV t).length ≤ 8796093022208 by have := HFT.out.v; omega)
      obtain ⟨dd, bb, hdp⟩ : ∃ d b, depthP t = (d, b) := ⟨_, _, rfl⟩
      have HDP := Aside0.mk hdp
      rw [hdp] at h
      cases bb with
      | false =>
        have HE := Aside0.mk (Option.some.inj h)
        clear hp hm hN h hrs hn hdp
        go_enter Try.func59, Try.ntmps59
        go_wp2_with (first | ((with_reducible refine gate_dst (N := 1) rfl ?_); refine box_event ?hg (N := 1) ?hd (cs := #[.slice A P.length c]) (t := 29) ?hr ?_; (case hd => rfl); (case hg => rfl); (case hr => first | (go_simp; done) | (go_simp; rfl)); intro b3 hg w1 hbox hb; have HBX := Aside0.mk hbox; have HB := Aside0.mk hb; have hz3 : w1.cell? ⟨b3, 0, none⟩ = some (.slice A P.length c) := (blk_cell hbox 0).trans rfl; clear hg hbox hb) | ((with_reducible refine gate_dst (N := 12) rfl ?_); refine box_event ?hg (N := 12) ?hd (cs := #[.slice A P.length c, .int .i64 0]) (t := 121) ?hr ?_; (case hd => rfl); (case hg => rfl); (case hr => first | (go_simp; done) | (go_simp; rfl)); intro gb hg w2 hbox hb; have HGB := Aside0.mk (show w.heap.size ≤ gb by rw [hg]; exact HB.out.size); have HBG := Aside0.mk (show b3 ≠ gb by have := blk_lt HBX.out; omega); have HG := Aside0.mk hbox; have n2_ := Aside0.mk (blk_below HBX.out hb); have n1_ := Aside0.mk (below_step HB.out hb); clear HB; clear HBX; have HB := n1_; have HBX := n2_; clear n1_ n2_ hg hbox hb) | (go_at_call 97; (with_reducible refine (impl_node.calls0 P HNP.out w A c HP.out HM.out gb _ HB.out HGB.out HG.out).mono ?_); rintro e w3 ⟨hb, hr⟩; rw [HRS.out] at hr; obtain ⟨nt, n9, h9, rfl, hs, hk, hg⟩ := hr.resolve_left (by rintro ⟨h, _⟩; cases h); injection h9 with h9; injection h9 with h9 h8; subst h9; subst h8; have hz3b : w3.cell? ⟨b3, 0, none⟩ = some (.slice A P.length c) := (blk_cell (blk_kept HBX.out hk HBG.out) 0).trans rfl; have hzg : w3.cell? ⟨gb, 1, none⟩ = some (.int .i64 (n : Int)) := (blk_cell hg 1).trans rfl; have HS2 := Aside0.mk (hs.lower HB.out.size); clear HB; have HB := Aside0.mk hb; have HR3 := Aside0.mk (rd_of HS2.out); clear hb hr hs hk hg))
        go_quiet (fail)
        go_wp2_with (go_at_call 62; (with_reducible refine (impl_depth.calls _ nt.erase (Nat.le_refl _) HFT.out.shp.few_ dd false HDP.out _ ?side1).mono ?_); (case side1 => repeat (first | exact HR3.out | (with_reducible refine Rd.drewN ?_ _) | (with_reducible refine Rd.drew ?_))); rintro e w' ⟨rfl, ⟨nd, rfl⟩⟩)
        go_ret2
        exact ⟨pw_below_drewN HB.out _, .inl ⟨HE.out.symm, rfl⟩⟩
      | true =>
        rw [if_neg (by simp)] at h
        obtain ⟨b, hap, h⟩ := Option.bind_eq_some_iff.mp h
        have HAP := Aside0.mk hap
        cases b with
        | false =>
          have HE := Aside0.mk (Option.some.inj h)
          clear hp hm hN h hrs hn hdp hap
          go_enter Try.func59, Try.ntmps59
          go_wp2_with (first | ((with_reducible refine gate_dst (N := 1) rfl ?_); refine box_event ?hg (N := 1) ?hd (cs := #[.slice A P.length c]) (t := 29) ?hr ?_; (case hd => rfl); (case hg => rfl); (case hr => first | (go_simp; done) | (go_simp; rfl)); intro b3 hg w1 hbox hb; have HBX := Aside0.mk hbox; have HB := Aside0.mk hb; have hz3 : w1.cell? ⟨b3, 0, none⟩ = some (.slice A P.length c) := (blk_cell hbox 0).trans rfl; clear hg hbox hb) | ((with_reducible refine gate_dst (N := 12) rfl ?_); refine box_event ?hg (N := 12) ?hd (cs := #[.slice A P.length c, .int .i64 0]) (t := 121) ?hr ?_; (case hd => rfl); (case hg => rfl); (case hr => first | (go_simp; done) | (go_simp; rfl)); intro gb hg w2 hbox hb; have HGB := Aside0.mk (show w.heap.size ≤ gb by rw [hg]; exact HB.out.size); have HBG := Aside0.mk (show b3 ≠ gb by have := blk_lt HBX.out; omega); have HG := Aside0.mk hbox; have n2_ := Aside0.mk (blk_below HBX.out hb); have n1_ := Aside0.mk (below_step HB.out hb); clear HB; clear HBX; have HB := n1_; have HBX := n2_; clear n1_ n2_ hg hbox hb) | (go_at_call 97; (with_reducible refine (impl_node.calls0 P HNP.out w A c HP.out HM.out gb _ HB.out HGB.out HG.out).mono ?_); rintro e w3 ⟨hb, hr⟩; rw [HRS.out] at hr; obtain ⟨nt, n9, h9, rfl, hs, hk, hg⟩ := hr.resolve_left (by rintro ⟨h, _⟩; cases h); injection h9 with h9; injection h9 with h9 h8; subst h9; subst h8; have hz3b : w3.cell? ⟨b3, 0, none⟩ = some (.slice A P.length c) := (blk_cell (blk_kept HBX.out hk HBG.out) 0).trans rfl; have hzg : w3.cell? ⟨gb, 1, none⟩ = some (.int .i64 (n : Int)) := (blk_cell hg 1).trans rfl; have HS2 := Aside0.mk (hs.lower HB.out.size); clear HB; have HB := Aside0.mk hb; have HR3 := Aside0.mk (rd_of HS2.out); clear hb hr hs hk hg))
          have HRN := fun m => HR3.out.drewN m
          go_quiet (fail)
          go_wp2_with (first | (go_at_call 62; (with_reducible refine (impl_depth.calls _ nt.erase (Nat.le_refl _) HFT.out.shp.few_ dd true HDP.out _ ?side1).mono ?_); (case side1 => repeat (first | exact HR3.out | (with_reducible refine Rd.drewN ?_ _) | (with_reducible refine Rd.drew ?_))); rintro e w' ⟨rfl, ⟨nd, rfl⟩⟩) | (go_at_call 66; (with_reducible refine (impl_all.calls0 nt.erase HFT.out.shp _ (HRN _) HZ1.out HZ2.out).mono ?_); rintro e w5 ⟨u1, u2, rfl, ho1, ho2, hne, hb⟩; obtain ⟨B1, d1, rfl, hl1, hc1⟩ := Kd.R_reads ho1; obtain ⟨B2, d2, rfl, hl2, hc2⟩ := Kd.R_reads ho2; have HC1 := Aside0.mk hc1; have HC2 := Aside0.mk hc2; have HD1 := Aside0.mk hl1; have HD2 := Aside0.mk hl2; have n1_ := Aside0.mk (below_step (pw_below_drewN HB.out _) hb); have HS3 := Aside0.mk ((HS2.out.drewN _).under hb); clear HB; have HB := n1_; clear n1_ hb ho1 ho2 hne hl1 hl2 hc1 hc2 HS2) | (go_at_call 86; (with_reducible refine (impl_arePairs.calls k _ _ (allK nt.erase) _ _ (allV nt.erase) false _ HC1.out HD1.out HC2.out HD2.out HAP.out).mono ?_); rintro e w' ⟨rfl, ⟨nd, rfl⟩⟩))
          go_ret2
          exact ⟨pw_below_drewN HB.out _, .inl ⟨HE.out.symm, rfl⟩⟩
        | true =>
          have HE := Aside0.mk (Option.some.inj h)
          clear hp hm hN h hrs hn hdp hap
          go_enter Try.func59, Try.ntmps59
          go_wp2_with (first | ((with_reducible refine gate_dst (N := 1) rfl ?_); refine box_event ?hg (N := 1) ?hd (cs := #[.slice A P.length c]) (t := 29) ?hr ?_; (case hd => rfl); (case hg => rfl); (case hr => first | (go_simp; done) | (go_simp; rfl)); intro b3 hg w1 hbox hb; have HBX := Aside0.mk hbox; have HB := Aside0.mk hb; have hz3 : w1.cell? ⟨b3, 0, none⟩ = some (.slice A P.length c) := (blk_cell hbox 0).trans rfl; clear hg hbox hb) | ((with_reducible refine gate_dst (N := 12) rfl ?_); refine box_event ?hg (N := 12) ?hd (cs := #[.slice A P.length c, .int .i64 0]) (t := 121) ?hr ?_; (case hd => rfl); (case hg => rfl); (case hr => first | (go_simp; done) | (go_simp; rfl)); intro gb hg w2 hbox hb; have HGB := Aside0.mk (show w.heap.size ≤ gb by rw [hg]; exact HB.out.size); have HBG := Aside0.mk (show b3 ≠ gb by have := blk_lt HBX.out; omega); have HG := Aside0.mk hbox; have n2_ := Aside0.mk (blk_below HBX.out hb); have n1_ := Aside0.mk (below_step HB.out hb); clear HB; clear HBX; have HB := n1_; have HBX := n2_; clear n1_ n2_ hg hbox hb) | (go_at_call 97; (with_reducible refine (impl_node.calls0 P HNP.out w A c HP.out HM.out gb _ HB.out HGB.out HG.out).mono ?_); rintro e w3 ⟨hb, hr⟩; rw [HRS.out] at hr; obtain ⟨nt, n9, h9, rfl, hs, hk, hg⟩ := hr.resolve_left (by rintro ⟨h, _⟩; cases h); injection h9 with h9; injection h9 with h9 h8; subst h9; subst h8; have hz3b : w3.cell? ⟨b3, 0, none⟩ = some (.slice A P.length c) := (blk_cell (blk_kept HBX.out hk HBG.out) 0).trans rfl; have hzg : w3.cell? ⟨gb, 1, none⟩ = some (.int .i64 (n : Int)) := (blk_cell hg 1).trans rfl; have HS2 := Aside0.mk (hs.lower HB.out.size); clear HB; have HB := Aside0.mk hb; have HR3 := Aside0.mk (rd_of HS2.out); clear hb hr hs hk hg))
          have HRN := fun m => HR3.out.drewN m
          go_quiet (fail)
          go_wp2_with (first | (go_at_call 62; (with_reducible refine (impl_depth.calls _ nt.erase (Nat.le_refl _) HFT.out.shp.few_ dd true HDP.out _ ?side1).mono ?_); (case side1 => repeat (first | exact HR3.out | (with_reducible refine Rd.drewN ?_ _) | (with_reducible refine Rd.drew ?_))); rintro e w' ⟨rfl, ⟨nd, rfl⟩⟩) | (go_at_call 66; (with_reducible refine (impl_all.calls0 nt.erase HFT.out.shp _ (HRN _) HZ1.out HZ2.out).mono ?_); rintro e w5 ⟨u1, u2, rfl, ho1, ho2, hne, hb⟩; obtain ⟨B1, d1, rfl, hl1, hc1⟩ := Kd.R_reads ho1; obtain ⟨B2, d2, rfl, hl2, hc2⟩ := Kd.R_reads ho2; have HC1 := Aside0.mk hc1; have HC2 := Aside0.mk hc2; have HD1 := Aside0.mk hl1; have HD2 := Aside0.mk hl2; have n1_ := Aside0.mk (below_step (pw_below_drewN HB.out _) hb); have HS3 := Aside0.mk ((HS2.out.drewN _).under hb); clear HB; have HB := n1_; clear n1_ hb ho1 ho2 hne hl1 hl2 hc1 hc2 HS2) | (go_at_call 86; (with_reducible refine (impl_arePairs.calls k _ _ (allK nt.erase) _ _ (allV nt.erase) true _ HC1.out HD1.out HC2.out HD2.out HAP.out).mono ?_); rintro e w' ⟨rfl, ⟨nd, rfl⟩⟩))
          go_ret2
          exact ⟨pw_below_drewN HB.out _, .inr ⟨nt, by rw [← HE.out]; rfl, rfl, HS3.out.drewN _⟩⟩
    · rw [if_pos (by simpa using hn)] at h
      have HE := Aside0.mk (Option.some.inj h)
      have tn1 : ((n : Int) != (P.length : Int)) = true := ne_t hn
      have tn2 : (n != P.length) = true := nen_t hn
      clear hp hm hN h hrs hn
      go_enter Try.func59, Try.ntmps59
      go_wp2_with (first | ((with_reducible refine gate_dst (N := 1) rfl ?_); refine box_event ?hg (N := 1) ?hd (cs := #[.slice A P.length c]) (t := 29) ?hr ?_; (case hd => rfl); (case hg => rfl); (case hr => first | (go_simp; done) | (go_simp; rfl)); intro b3 hg w1 hbox hb; have HBX := Aside0.mk hbox; have HB := Aside0.mk hb; have hz3 : w1.cell? ⟨b3, 0, none⟩ = some (.slice A P.length c) := (blk_cell hbox 0).trans rfl; clear hg hbox hb) | ((with_reducible refine gate_dst (N := 12) rfl ?_); refine box_event ?hg (N := 12) ?hd (cs := #[.slice A P.length c, .int .i64 0]) (t := 121) ?hr ?_; (case hd => rfl); (case hg => rfl); (case hr => first | (go_simp; done) | (go_simp; rfl)); intro gb hg w2 hbox hb; have HGB := Aside0.mk (show w.heap.size ≤ gb by rw [hg]; exact HB.out.size); have HBG := Aside0.mk (show b3 ≠ gb by have := blk_lt HBX.out; omega); have HG := Aside0.mk hbox; have n2_ := Aside0.mk (blk_below HBX.out hb); have n1_ := Aside0.mk (below_step HB.out hb); clear HB; clear HBX; have HB := n1_; have HBX := n2_; clear n1_ n2_ hg hbox hb) | (go_at_call 97; (with_reducible refine (impl_node.calls0 P HNP.out w A c HP.out HM.out gb _ HB.out HGB.out HG.out).mono ?_); rintro e w3 ⟨hb, hr⟩; rw [HRS.out] at hr; obtain ⟨nt, n9, h9, rfl, hs, hk, hg⟩ := hr.resolve_left (by rintro ⟨h, _⟩; cases h); injection h9 with h9; injection h9 with h9 h8; subst h9; subst h8; have hz3b : w3.cell? ⟨b3, 0, none⟩ = some (.slice A P.length c) := (blk_cell (blk_kept HBX.out hk HBG.out) 0).trans rfl; have hzg : w3.cell? ⟨gb, 1, none⟩ = some (.int .i64 (n : Int)) := (blk_cell hg 1).trans rfl; have HS2 := Aside0.mk (hs.lower HB.out.size); clear HB; have HB := Aside0.mk hb; have HR3 := Aside0.mk (rd_of HS2.out); clear hb hr hs hk hg))
      go_quiet (fail)
      go_wp2
      go_ret2
      exact ⟨pw_below_drewN HB.out _, .inl ⟨HE.out.symm, rfl⟩⟩
end Go.Proofs.Ytoddejmlcnbdmaa.Tree
namespace Go.Proofs.Ytoddejmlcnbdmaa.Tree
open Go.Proofs.Ytoddejmlcnbdmaa.Gen
open Go.RowKit Go.Proofs.YtoddejmlcnbdmaaW.PrintWords Go.Proofs.YtoddejmlcnbdmaaW.PrintLast Go.Proofs.YtoddejmlcnbdmaaW.PrintMore Go.Proofs.Ytoddejmlcnbdmaa.Fn
set_option linter.unusedVariables false
set_option linter.unusedSimpArgs false
set_option maxHeartbeats 8000000
set_option maxRecDepth 100000

theorem spec_at.calls (t : PT) (hm : t.keys.length ≤ 1000000000000) (key : ByteArray) (i0 : Nat) (b : Bool) (hi0 : atI key t.keys = i0) (hb : hasS t.keys i0 key = b) {p : Nat} (w : World) (h : Rd 96 w p t) :
    Calls Try.prog 100 #[ptrv p, .string key] w fun e w' => e = .returned (.tuple #[.int .i64 (i0 : Int), .bool b]) ∧ Drawn0 w w' := by
  obtain ⟨Ak, ck, Av, cv, Ac, cc, ps, HN0⟩ := h.open
  have HN := Aside0.mk HN0
  have hz0 := HN0.z0
  have HE := Aside0.mk (show i0 = 0 + atI key (t.keys.drop 0) by rw [List.drop_zero, Nat.zero_add]; exact hi0.symm)
  have HBB := Aside0.mk hb
  clear h HN0 hi0 hb
  go_enter Try.func100, Try.ntmps100
  go_wp2
  go_loopg [6] t.keys.length (fun kq u6 w' => ∃ (i m : Nat), u6 = .int .i64 (i : Int) ∧ Aside0 (i ≤ t.keys.length ∧ kq + i = t.keys.length) ∧ Aside0 (i0 = i + atI key (t.keys.drop i)) ∧ w' = w.drewN m)
  case atStart => exact ⟨0, 0, by first | rfl | (simp; done), ⟨by omega⟩, HE, rfl⟩
  case round =>
    clear HE
    obtain ⟨i, m, rfl, HK, HE, rfl⟩ := hrel
    have ci : (0 ≤ (i : Int)) = True := eq_true (by omega)
    by_cases hi : i < t.keys.length
    · have ce : decide ((i : Int) < (t.keys.length : Int)) = true := decide_eq_true (by omega)
      have ceb : (i < t.keys.length) = True := eq_true hi
      have hil : i < 1000000000000 := by omega
      have HI := Aside0.mk hi
      obtain ⟨adk, rfl, hk0⟩ := HN.out.key i (by omega) (by omega)
      rw [Int.toNat_natCast] at hk0
      have hks : t.keys[i]? = some (rdOf ByteArray.empty t.keys (i : Int)) := by unfold rdOf; rw [Int.toNat_natCast, List.getD_eq_getElem?_getD, List.getElem?_eq_getElem hi]; rfl
      generalize rdOf ByteArray.empty t.keys (i : Int) = k at hk0 hks
      have HKS := Aside0.mk hks
      clear hks hi
      cases hlt : ltB k key with
      | true =>
        have HE1 := Aside0.mk (atI_on HKS.out HE.out hlt)
        have hlt' : Op.bytesLess k.toList key.toList = true := hlt
        clear hlt
        go_wp2
        go_roundg (t.keys.length - (i + 1))
        case measure => have := HK.out; have := HI.out; omega
        case rel => exact ⟨i + 1, _, by first | rfl | go_num | (simp; done), ⟨by have := HK.out; have := HI.out; omega⟩, HE1, rfl⟩
      | false =>
        have he := atI_off HKS.out HE.out hlt
        subst he
        have hlt' : Op.bytesLess k.toList key.toList = false := hlt
        have hbb : (k.toList == key.toList) = b := by have := HBB.out; unfold hasS at this; rw [HKS.out] at this; exact this
        clear hlt
        go_wp2
        go_quiet (fail)
        go_wp2
        go_ret2
        exact ⟨rfl, by repeat (first | exact Drawn0.refl _ | apply Drawn0.step | exact ⟨_, rfl⟩)⟩
    · have ce : decide ((i : Int) < (t.keys.length : Int)) = false := decide_eq_false (by omega)
      have ceb : (i < t.keys.length) = False := eq_false hi
      have he := atI_end (by omega) HE.out
      subst he
      obtain rfl : b = false := by
        cases b with
        | false => rfl
        | true => exact absurd (hasS_lt HBB.out) hi
      clear hi
      go_wp2
      go_quiet (fail)
      go_wp2
      go_ret2
      exact ⟨rfl, by repeat (first | exact Drawn0.refl _ | apply Drawn0.step | exact ⟨_, rfl⟩)⟩
theorem spec_get.calls : ∀ (n : Nat) (t : PT), t.big ≤ n → Shp t → ∀ (key v : ByteArray) (b : Bool), getS n t key = (v, b) → ∀ {p : Nat} (w : World), Rd 96 w p t →
    Calls Try.prog 63 #[ptrv p, .string key] w fun e w' => e = .returned (.tuple #[.string v, .bool b]) ∧ Drawn0 w w' := by
  intro n
  induction n with
  | zero =>
    intro t hs
    exact absurd (PT.big_pos t) (by omega)
  | succ n ih =>
    intro t hs hf key v b hr p w h
    obtain ⟨Ak, ck, Av, cv, Ac, cc, ps, HN0⟩ := h.open
    have h1 := hf.one
    unfold Shp1 at h1
    have hle := atI_le key t.keys
    have HN := Aside0.mk HN0
    have HO := Aside0.mk h
    have HF := Aside0.mk hf
    have HSZ := Aside0.mk hs
    have hz1 := HN0.z1
    have hz2 := HN0.z2
    obtain ⟨i, hi⟩ : ∃ i, atI key t.keys = i := ⟨_, rfl⟩
    rw [getS, hi] at hr
    rw [hi] at hle
    have HI := Aside0.mk hi
    have ci : (0 ≤ (i : Int)) = True := eq_true (by omega)
    cases hh : hasS t.keys i key with
    | true =>
      have hlt := hasS_lt hh
      rw [hh, if_pos rfl] at hr
      injection hr with e1 e2
      subst e2
      obtain ⟨adv, rfl, hv0⟩ := HN0.val i (by omega) (by omega)
      rw [Int.toNat_natCast] at hv0
      rw [e1] at hv0
      have cvb : (i < t.vals.length) = True := eq_true (by omega)
      have cva : ((i : Int) < (t.vals.length : Int)) = True := eq_true (by omega)
      have HH := Aside0.mk hh
      have HM := Aside0.mk (show t.keys.length ≤ 1000000000000 by omega)
      clear h1 hle hlt hh hi h hf hs HN0 e1
      go_enter Try.func63, Try.ntmps63
      go_wp2_with (go_at_call 100; (with_reducible refine (spec_at.calls t HM.out key i true HI.out HH.out _ ?side1).mono ?_); (case side1 => repeat (first | exact HO.out | (with_reducible refine Rd.drewN ?_ _) | (with_reducible refine Rd.drew ?_))); rintro e w' ⟨rfl, ⟨nd, rfl⟩⟩)
      go_ret2
      exact ⟨rfl, by repeat (first | exact Drawn0.refl _ | apply Drawn0.step | exact ⟨_, rfl⟩)⟩
    | false =>
      rw [hh, if_neg (by decide)] at hr
      have HH := Aside0.mk hh
      have HM := Aside0.mk (show t.keys.length ≤ 1000000000000 by omega)
      by_cases h0 : t.kids.length = 0
      · rw [if_pos h0] at hr
        injection hr with e1 e2
        subst e1; subst e2
        have hb0 := Aside0.mk (show decide ((t.kids.length : Int) = 0) = true from decide_eq_true (by omega))
        clear h1 hle hh hi h hf hs HN0 h0
        go_enter Try.func63, Try.ntmps63
        go_wp2_with (first | (go_at_call 100; (with_reducible refine (spec_at.calls t HM.out key i false HI.out HH.out _ ?side1).mono ?_); (case side1 => repeat (first | exact HO.out | (with_reducible refine Rd.drewN ?_ _) | (with_reducible refine Rd.drew ?_))); rintro e w' ⟨rfl, ⟨nd, rfl⟩⟩) | (go_at_call 84; (with_reducible refine (spec_leaf.callsB true hb0.out _ ?side1).mono ?_); (case side1 => repeat (first | exact HO.out | (with_reducible refine Rd.drewN ?_ _) | (with_reducible refine Rd.drew ?_))); rintro e w' ⟨rfl, ⟨nd, rfl⟩⟩))
        go_ret2
        exact ⟨by first | rfl | (simp; done), by repeat (first | exact Drawn0.refl _ | apply Drawn0.step | exact ⟨_, rfl⟩)⟩
      · rw [if_neg h0] at hr
        have hb0 := Aside0.mk (show decide ((t.kids.length : Int) = 0) = false from decide_eq_false (by omega))
        have hkl : t.kids.length = t.keys.length + 1 := h1.2.2.resolve_left h0
        obtain ⟨adc, q, s, rfl, hc0, hs', hrs⟩ := HN0.kid i (by omega) (by omega)
        rw [Int.toNat_natCast] at hc0 hs'
        rw [hs'] at hr
        have HS := Aside0.mk hs'
        have HRs := Aside0.mk hrs
        have HR := Aside0.mk (show getS n s key = (v, b) from hr)
        have hca : ((i : Int) < (t.kids.length : Int)) = True := eq_true (by omega)
        have hcb : (i < t.kids.length) = True := eq_true (by omega)
        clear h1 hle hh hi h hf hs HN0 h0 hr hkl hs' hrs
        go_enter Try.func63, Try.ntmps63
        go_wp2_with (first | (go_at_call 100; (with_reducible refine (spec_at.calls t HM.out key i false HI.out HH.out _ ?side1).mono ?_); (case side1 => repeat (first | exact HO.out | (with_reducible refine Rd.drewN ?_ _) | (with_reducible refine Rd.drew ?_))); rintro e w' ⟨rfl, ⟨nd, rfl⟩⟩) | (go_at_call 84; (with_reducible refine (spec_leaf.callsB false hb0.out _ ?side1).mono ?_); (case side1 => repeat (first | exact HO.out | (with_reducible refine Rd.drewN ?_ _) | (with_reducible refine Rd.drew ?_))); rintro e w' ⟨rfl, ⟨nd, rfl⟩⟩) | (go_at_call 63; (with_reducible refine (ih s (by have := PT.big_kid HS.out; have := HSZ.out; omega) (HF.out.kid HS.out) key v b HR.out _ ?side1).mono ?_); (case side1 => repeat (first | exact HRs.out | (with_reducible refine Rd.drewN ?_ _) | (with_reducible refine Rd.drew ?_))); rintro e w' ⟨rfl, ⟨nd, rfl⟩⟩))
        go_ret2
        exact ⟨by first | rfl | (simp; done), by repeat (first | exact Drawn0.refl _ | apply Drawn0.step | exact ⟨_, rfl⟩)⟩
theorem impl_get.calls (k : Nat) : ∀ (n : Nat) (t : PT) (key v : ByteArray) (b : Bool), getI k n t key = some (v, b) → ∀ {p : Nat} (w : World), Rd 101 w p t →
    Calls Try.prog 64 #[ptrv p, .string key] w fun e w' => e = .returned (.tuple #[.string v, .bool b]) ∧ Drawn0 w w' := by
  intro n
  induction n with
  | zero =>
    intro t key v b hr
    cases hr
  | succ n ih =>
    intro t key v b hr p w h
    obtain ⟨Ak, ck, Av, cv, Ac, cc, ps, HN0⟩ := h.open
    have HN := Aside0.mk HN0
    have HO := Aside0.mk h
    have hz0 := HN0.z0
    have hz1 := HN0.z1
    have hz2 := HN0.z2
    rw [getI] at hr
    obtain ⟨a, hl, hr⟩ := Option.bind_eq_some_iff.mp hr
    obtain ⟨hh, hha, hr⟩ := Option.bind_eq_some_iff.mp hr
    have HLE := Aside0.mk hl
    have HHA := Aside0.mk hha
    clear hl hha
    cases hh with
    | true =>
      rw [if_pos rfl] at hr
      by_cases ha : 0 ≤ a ∧ a < (t.vals.length : Int)
      · rw [if_pos ha] at hr
        injection hr with hr
        injection hr with e1 e2
        subst e2
        obtain ⟨adv, rfl, hv0⟩ := HN0.val a ha.1 ha.2
        rw [e1] at hv0
        have cva : (a < (t.vals.length : Int)) = True := eq_true ha.2
        have ci : (0 ≤ a) = True := eq_true ha.1
        clear ha h HN0 e1
        go_enter Try.func64, Try.ntmps64
        go_wp2_with (first | (go_at_call 73; (with_reducible refine (impl_less.calls k _ _ t.keys key a _ ?side1 ?side2 HLE.out).mono ?_); (case side1 => repeat (first | exact HN.out.hk | (with_reducible refine Kd.C_drewN ?_ _) | (with_reducible refine Kd.C_drew ?_))); (case side2 => exact HN.out.h1); rintro e w' ⟨rfl, ⟨nd, rfl⟩⟩) | (go_at_call 101; (with_reducible refine (impl_hasAt.calls _ _ t.keys a key true _ ?side1 ?side2 HHA.out).mono ?_); (case side1 => repeat (first | exact HN.out.hk | (with_reducible refine Kd.C_drewN ?_ _) | (with_reducible refine Kd.C_drew ?_))); (case side2 => exact HN.out.h1); rintro e w' ⟨rfl, ⟨nd, rfl⟩⟩))
        go_ret2
        exact ⟨rfl, by repeat (first | exact Drawn0.refl _ | apply Drawn0.step | exact ⟨_, rfl⟩)⟩
      · rw [if_neg ha] at hr
        cases hr
    | false =>
      rw [if_neg (by decide)] at hr
      by_cases h0 : t.kids.length = 0
      · rw [if_pos h0] at hr
        injection hr with hr
        injection hr with e1 e2
        subst e1; subst e2
        have hb0 := Aside0.mk (show decide ((t.kids.length : Int) = 0) = true from decide_eq_true (by omega))
        clear h HN0 h0
        go_enter Try.func64, Try.ntmps64
        go_wp2_with (first | (go_at_call 73; (with_reducible refine (impl_less.calls k _ _ t.keys key a _ ?side1 ?side2 HLE.out).mono ?_); (case side1 => repeat (first | exact HN.out.hk | (with_reducible refine Kd.C_drewN ?_ _) | (with_reducible refine Kd.C_drew ?_))); (case side2 => exact HN.out.h1); rintro e w' ⟨rfl, ⟨nd, rfl⟩⟩) | (go_at_call 101; (with_reducible refine (impl_hasAt.calls _ _ t.keys a key false _ ?side1 ?side2 HHA.out).mono ?_); (case side1 => repeat (first | exact HN.out.hk | (with_reducible refine Kd.C_drewN ?_ _) | (with_reducible refine Kd.C_drew ?_))); (case side2 => exact HN.out.h1); rintro e w' ⟨rfl, ⟨nd, rfl⟩⟩) | (go_at_call 99; (with_reducible refine (impl_isLeaf.callsB true hb0.out _ ?side1).mono ?_); (case side1 => repeat (first | exact HO.out | (with_reducible refine Rd.drewN ?_ _) | (with_reducible refine Rd.drew ?_))); rintro e w' ⟨rfl, ⟨nd, rfl⟩⟩))
        go_ret2
        exact ⟨by first | rfl | (simp; done), by repeat (first | exact Drawn0.refl _ | apply Drawn0.step | exact ⟨_, rfl⟩)⟩
      · rw [if_neg h0] at hr
        by_cases ha : 0 ≤ a
        · rw [if_pos ha] at hr
          have hb0 := Aside0.mk (show decide ((t.kids.length : Int) = 0) = false from decide_eq_false (by omega))
          rcases Nat.lt_or_ge a.toNat t.kids.length with hlt | hge
          · obtain ⟨adc, q, s, rfl, hc0, hs', hrs⟩ := HN0.kid a ha (by omega)
            rw [hs'] at hr
            have HRs := Aside0.mk hrs
            have HR := Aside0.mk (show getI k n s key = some (v, b) from hr)
            have hca : (a < (t.kids.length : Int)) = True := eq_true (by omega)
            have ci : (0 ≤ a) = True := eq_true ha
            clear ha h HN0 h0 hr hs' hrs hlt
            go_enter Try.func64, Try.ntmps64
            go_wp2_with (first | (go_at_call 73; (with_reducible refine (impl_less.calls k _ _ t.keys key a _ ?side1 ?side2 HLE.out).mono ?_); (case side1 => repeat (first | exact HN.out.hk | (with_reducible refine Kd.C_drewN ?_ _) | (with_reducible refine Kd.C_drew ?_))); (case side2 => exact HN.out.h1); rintro e w' ⟨rfl, ⟨nd, rfl⟩⟩) | (go_at_call 101; (with_reducible refine (impl_hasAt.calls _ _ t.keys a key false _ ?side1 ?side2 HHA.out).mono ?_); (case side1 => repeat (first | exact HN.out.hk | (with_reducible refine Kd.C_drewN ?_ _) | (with_reducible refine Kd.C_drew ?_))); (case side2 => exact HN.out.h1); rintro e w' ⟨rfl, ⟨nd, rfl⟩⟩) | (go_at_call 99; (with_reducible refine (impl_isLeaf.callsB false hb0.out _ ?side1).mono ?_); (case side1 => repeat (first | exact HO.out | (with_reducible refine Rd.drewN ?_ _) | (with_reducible refine Rd.drew ?_))); rintro e w' ⟨rfl, ⟨nd, rfl⟩⟩) | (go_at_call 64; (with_reducible refine (ih s key v b HR.out _ ?side1).mono ?_); (case side1 => repeat (first | exact HRs.out | (with_reducible refine Rd.drewN ?_ _) | (with_reducible refine Rd.drew ?_))); rintro e w' ⟨rfl, ⟨nd, rfl⟩⟩))
            go_ret2
            exact ⟨by first | rfl | (simp; done), by repeat (first | exact Drawn0.refl _ | apply Drawn0.step | exact ⟨_, rfl⟩)⟩
          · rw [List.getElem?_eq_none hge] at hr
            cases hr
        · rw [if_neg ha] at hr
          cases hr
end Go.Proofs.Ytoddejmlcnbdmaa.Tree
namespace Go.Proofs.Ytoddejmlcnbdmaa.Fn
open Go.Proofs.Ytoddejmlcnbdmaa.Gen Go.Proofs.Ytoddejmlcnbdmaa.Tree
open Go.RowKit Go.Proofs.YtoddejmlcnbdmaaW.PrintWords Go.Proofs.YtoddejmlcnbdmaaW.PrintLast Go.Proofs.YtoddejmlcnbdmaaW.PrintMore
set_option linter.unusedVariables false
set_option linter.unusedSimpArgs false
set_option maxHeartbeats 8000000
set_option maxRecDepth 100000

def okP (P : List S110) : Bool := decide (P.length ≤ 1000000000000) && P.all fun p => decide (p.f0.length ≤ 1000000000000) && decide (p.f1.length ≤ 1000000000000) && decide (p.f2.length ≤ 1000000000000)
theorem okP_parts {P : List S110} (h : okP P = true) : P.length ≤ 1000000000000 ∧ ∀ p ∈ P, p.f0.length ≤ 1000000000000 ∧ p.f1.length ≤ 1000000000000 ∧ p.f2.length ≤ 1000000000000 := by
  unfold okP at h
  simp only [Bool.and_eq_true, decide_eq_true_eq, List.all_eq_true] at h
  exact ⟨h.1, fun p hp => ⟨(h.2 p hp).1.1, (h.2 p hp).1.2, (h.2 p hp).2⟩⟩
theorem rootI_mono (P : List S110) (k : Nat) : LeO (rootI k P) (rootI (k + 1) P) := by
  unfold rootI
  cases readS P (P.length + 1) 0 with
  | none => exact LeO.refl _
  | some r =>
    refine LeO.ite (LeO.refl _) (LeO.ite (LeO.refl _) (LeO.bind (impl_arePairs.mono _ _ _) fun _ => LeO.refl _))
theorem getI_mono : ∀ (k n : Nat) (t : PT) (key : ByteArray), LeO (getI k n t key) (getI (k + 1) (n + 1) t key)
  | k, 0, t, key => LeO.none _
  | k, n + 1, t, key => by
    rw [getI, getI]
    refine LeO.bind (impl_less.mono _ _ _) fun a => LeO.bind (LeO.refl _) fun h => LeO.ite (LeO.refl _) (LeO.ite (LeO.refl _) (LeO.ite ?_ (LeO.refl _)))
    cases t.kids[a.toNat]? with
    | none => exact LeO.refl _
    | some s => exact getI_mono k n s key
def spec_GoodTree.f (l0_0 : List S110) : Option Bool := if okP l0_0 = true then some (ofS l0_0).isSome else none
theorem spec_GoodTree.calls (A0_0 : Option Addr) (c0_0 : Nat) (l0_0 : List (S110)) (r : Bool) (w : World) (hr0_0 : Kd.C k110 w A0_0 l0_0.length l0_0) (hc0_0 : l0_0.length ≤ c0_0) (h : spec_GoodTree.f l0_0 = some r) :
    Calls Try.prog 16 #[.agg #[.slice A0_0 l0_0.length c0_0]] w fun e w' => e = .returned (.bool r) ∧ Below w.heap.size w w' := by
  unfold spec_GoodTree.f at h
  have HP := Aside0.mk hr0_0
  clear hr0_0 hc0_0
  by_cases hok : okP l0_0 = true
  · rw [if_pos hok] at h
    have HNP := Aside0.mk (okP_parts hok).1
    have HM := Aside0.mk (okP_parts hok).2
    cases hrs : ofS l0_0 with
    | none =>
      rw [hrs] at h
      obtain rfl := Option.some.inj h
      have HRS := Aside0.mk hrs
      clear h hrs hok
      go_enter Try.func16, Try.ntmps16
      go_wp2_with (first | ((with_reducible refine gate_dst (N := 1) rfl ?_); refine box_event ?hg (N := 1) ?hd (cs := #[.slice A0_0 l0_0.length c0_0]) (t := 29) ?hr ?_; (case hd => rfl); (case hg => rfl); (case hr => first | (go_simp; done) | (go_simp; rfl)); intro b3 hg w1 hbox hb; have HB := Aside0.mk hb; have hz3 : w1.cell? ⟨b3, 0, none⟩ = some (.slice A0_0 l0_0.length c0_0) := (blk_cell hbox 0).trans rfl; clear hg hbox hb) | (go_at_call 57; (with_reducible refine (spec_l5Of.calls l0_0 HNP.out A0_0 c0_0 _ (Kd.C_below HP.out HB.out) HM.out).mono ?_); rintro e w2 ⟨hb, hr⟩; rw [HRS.out] at hr; obtain ⟨-, rfl⟩ := hr.resolve_right (by rintro ⟨_, h, _⟩; cases h); have n1_ := Aside0.mk (below_step HB.out hb); clear HB; have HB := n1_; clear n1_ hb hr))
      go_ret
      exact ⟨by first | rfl | (simp; done), HB.out⟩
    | some t =>
      rw [hrs] at h
      obtain rfl := Option.some.inj h
      have HRS := Aside0.mk hrs
      clear h hrs hok
      go_enter Try.func16, Try.ntmps16
      go_wp2_with (first | ((with_reducible refine gate_dst (N := 1) rfl ?_); refine box_event ?hg (N := 1) ?hd (cs := #[.slice A0_0 l0_0.length c0_0]) (t := 29) ?hr ?_; (case hd => rfl); (case hg => rfl); (case hr => first | (go_simp; done) | (go_simp; rfl)); intro b3 hg w1 hbox hb; have HB := Aside0.mk hb; have hz3 : w1.cell? ⟨b3, 0, none⟩ = some (.slice A0_0 l0_0.length c0_0) := (blk_cell hbox 0).trans rfl; clear hg hbox hb) | (go_at_call 57; (with_reducible refine (spec_l5Of.calls l0_0 HNP.out A0_0 c0_0 _ (Kd.C_below HP.out HB.out) HM.out).mono ?_); rintro e w2 ⟨hb, hr⟩; rw [HRS.out] at hr; obtain ⟨nt, h9, rfl, hs⟩ := hr.resolve_left (by rintro ⟨h, _⟩; cases h); injection h9 with h9; subst h9; have HR2 := Aside0.mk (rd_of hs); have n1_ := Aside0.mk (below_step HB.out hb); clear HB; have HB := n1_; clear n1_ hb hr hs))
      go_ret
      exact ⟨by first | rfl | (simp; done), HB.out⟩
  · rw [if_neg hok] at h
    cases h
def impl_GoodTree.f (k : Nat) (l0_0 : List S110) : Option Bool := if okP l0_0 = true then (rootI k l0_0).bind fun r => some r.isSome else none
theorem impl_GoodTree.mono : ∀ a0 k, LeO (impl_GoodTree.f k a0) (impl_GoodTree.f (k + 1) a0) := fun a0 k => LeO.ite (LeO.bind (rootI_mono _ _) fun _ => LeO.refl _) (LeO.refl _)
theorem impl_GoodTree.calls (k : Nat) (A0_0 : Option Addr) (c0_0 : Nat) (l0_0 : List (S110)) (r : Bool) (w : World) (hr0_0 : Kd.C k110 w A0_0 l0_0.length l0_0) (hc0_0 : l0_0.length ≤ c0_0) (h : impl_GoodTree.f k l0_0 = some r) :
    Calls Try.prog 18 #[.agg #[.slice A0_0 l0_0.length c0_0]] w fun e w' => e = .returned (.bool r) ∧ Below w.heap.size w w' := by
  unfold impl_GoodTree.f at h
  have HP := Aside0.mk hr0_0
  clear hr0_0 hc0_0
  by_cases hok : okP l0_0 = true
  · rw [if_pos hok] at h
    have HNP := Aside0.mk (okP_parts hok).1
    have HM := Aside0.mk (okP_parts hok).2
    obtain ⟨o, hrs, h⟩ := Option.bind_eq_some_iff.mp h
    cases o with
    | none =>
      obtain rfl := Option.some.inj h
      have HRS := Aside0.mk hrs
      clear h hrs hok
      go_enter Try.func18, Try.ntmps18
      go_wp2_with (first | ((with_reducible refine gate_dst (N := 1) rfl ?_); refine box_event ?hg (N := 1) ?hd (cs := #[.slice A0_0 l0_0.length c0_0]) (t := 29) ?hr ?_; (case hd => rfl); (case hg => rfl); (case hr => first | (go_simp; done) | (go_simp; rfl)); intro b3 hg w1 hbox hb; have HB := Aside0.mk hb; have hz3 : w1.cell? ⟨b3, 0, none⟩ = some (.slice A0_0 l0_0.length c0_0) := (blk_cell hbox 0).trans rfl; clear hg hbox hb) | (go_at_call 59; (with_reducible refine (impl_root.calls k l0_0 HNP.out A0_0 c0_0 _ (Kd.C_below HP.out HB.out) HM.out _ HRS.out).mono ?_); rintro e w2 ⟨hb, hr⟩; obtain ⟨-, rfl⟩ := hr.resolve_right (by rintro ⟨_, h, _⟩; cases h); have n1_ := Aside0.mk (below_step HB.out hb); clear HB; have HB := n1_; clear n1_ hb hr))
      go_ret
      exact ⟨by first | rfl | (simp; done), HB.out⟩
    | some t =>
      obtain rfl := Option.some.inj h
      have HRS := Aside0.mk hrs
      clear h hrs hok
      go_enter Try.func18, Try.ntmps18
      go_wp2_with (first | ((with_reducible refine gate_dst (N := 1) rfl ?_); refine box_event ?hg (N := 1) ?hd (cs := #[.slice A0_0 l0_0.length c0_0]) (t := 29) ?hr ?_; (case hd => rfl); (case hg => rfl); (case hr => first | (go_simp; done) | (go_simp; rfl)); intro b3 hg w1 hbox hb; have HB := Aside0.mk hb; have hz3 : w1.cell? ⟨b3, 0, none⟩ = some (.slice A0_0 l0_0.length c0_0) := (blk_cell hbox 0).trans rfl; clear hg hbox hb) | (go_at_call 59; (with_reducible refine (impl_root.calls k l0_0 HNP.out A0_0 c0_0 _ (Kd.C_below HP.out HB.out) HM.out _ HRS.out).mono ?_); rintro e w2 ⟨hb, hr⟩; obtain ⟨nt, h9, rfl, hs⟩ := hr.resolve_left (by rintro ⟨h, _⟩; cases h); injection h9 with h9; subst h9; have HR2 := Aside0.mk (rd_of hs); have n1_ := Aside0.mk (below_step HB.out hb); clear HB; have HB := n1_; clear n1_ hb hr hs))
      go_ret
      exact ⟨by first | rfl | (simp; done), HB.out⟩
  · rw [if_neg hok] at h
    cases h
theorem ofS_shp {P : List S110} {t : PT} (h : ofS P = some t) : Shp t := by
  unfold ofS at h
  cases hrs : readS P 10 0 with
  | none => rw [hrs] at h; cases h
  | some r =>
    rw [hrs] at h
    simp only at h
    obtain ⟨r1, r2⟩ := r
    have hf := (readS_fits 10 0 r1 r2 hrs).2.shp
    split at h
    · cases h
    · split at h
      · cases h
      · split at h
        · cases h
        · obtain rfl := Option.some.inj h
          exact hf
theorem rootI_shp {k : Nat} {P : List S110} {t : PT} (h : rootI k P = some (some t)) : Shp t := by
  unfold rootI at h
  cases hrs : readS P (P.length + 1) 0 with
  | none => rw [hrs] at h; cases h
  | some r =>
    rw [hrs] at h
    simp only at h
    obtain ⟨r1, r2⟩ := r
    have hf := (readS_fits _ 0 r1 r2 hrs).2.shp
    split at h
    · cases h
    · split at h
      · cases h
      · obtain ⟨b, _, h⟩ := Option.bind_eq_some_iff.mp h
        cases b with
        | false => cases h
        | true =>
          obtain rfl : r1 = t := by simpa using h
          exact hf
def spec_DepthOf.f (l0_0 : List S110) : Option (Int × Bool) := if okP l0_0 = true then (match ofS l0_0 with | none => some (0, false) | some t => some ((evenS t, true))) else none
theorem spec_DepthOf.calls (A0_0 : Option Addr) (c0_0 : Nat) (l0_0 : List (S110)) (r1 : Int) (r2 : Bool) (w : World) (hr0_0 : Kd.C k110 w A0_0 l0_0.length l0_0) (hc0_0 : l0_0.length ≤ c0_0) (h : spec_DepthOf.f l0_0 = some (r1, r2)) :
    Calls Try.prog 20 #[.agg #[.slice A0_0 l0_0.length c0_0]] w fun e w' => e = .returned (.tuple #[.int .i64 r1, .bool r2]) ∧ Below w.heap.size w w' := by
  unfold spec_DepthOf.f at h
  have HP := Aside0.mk hr0_0
  clear hr0_0 hc0_0
  by_cases hok : okP l0_0 = true
  · rw [if_pos hok] at h
    have HNP := Aside0.mk (okP_parts hok).1
    have HM := Aside0.mk (okP_parts hok).2
    cases hrs : ofS l0_0 with
    | none =>
      rw [hrs] at h
      injection h with h
      injection h with e1 e2
      subst e1; subst e2
      have HRS := Aside0.mk hrs
      clear hrs hok
      go_enter Try.func20, Try.ntmps20
      go_wp2_with (first | ((with_reducible refine gate_dst (N := 1) rfl ?_); refine box_event ?hg (N := 1) ?hd (cs := #[.slice A0_0 l0_0.length c0_0]) (t := 29) ?hr ?_; (case hd => rfl); (case hg => rfl); (case hr => first | (go_simp; done) | (go_simp; rfl)); intro b3 hg w1 hbox hb; have HB := Aside0.mk hb; have hz3 : w1.cell? ⟨b3, 0, none⟩ = some (.slice A0_0 l0_0.length c0_0) := (blk_cell hbox 0).trans rfl; clear hg hbox hb) | (go_at_call 57; (with_reducible refine (spec_l5Of.calls l0_0 HNP.out A0_0 c0_0 _ (Kd.C_below HP.out HB.out) HM.out).mono ?_); rintro e w2 ⟨hb, hr⟩; rw [HRS.out] at hr; obtain ⟨-, rfl⟩ := hr.resolve_right (by rintro ⟨_, h, _⟩; cases h); have n1_ := Aside0.mk (below_step HB.out hb); clear HB; have HB := n1_; clear n1_ hb hr))
      go_ret2
      exact ⟨by first | rfl | (simp; done), HB.out⟩
    | some t =>
      rw [hrs] at h
      injection h with h
      injection h with e1 e2
      subst e1; subst e2
      have HRS := Aside0.mk hrs
      have HOF := Aside0.mk (ofS_shp hrs)
      try clear h
      clear hrs hok
      go_enter Try.func20, Try.ntmps20
      go_wp2_with (first | ((with_reducible refine gate_dst (N := 1) rfl ?_); refine box_event ?hg (N := 1) ?hd (cs := #[.slice A0_0 l0_0.length c0_0]) (t := 29) ?hr ?_; (case hd => rfl); (case hg => rfl); (case hr => first | (go_simp; done) | (go_simp; rfl)); intro b3 hg w1 hbox hb; have HB := Aside0.mk hb; have hz3 : w1.cell? ⟨b3, 0, none⟩ = some (.slice A0_0 l0_0.length c0_0) := (blk_cell hbox 0).trans rfl; clear hg hbox hb) | (go_at_call 57; (with_reducible refine (spec_l5Of.calls l0_0 HNP.out A0_0 c0_0 _ (Kd.C_below HP.out HB.out) HM.out).mono ?_); rintro e w2 ⟨hb, hr⟩; rw [HRS.out] at hr; obtain ⟨nt, h9, rfl, hs⟩ := hr.resolve_left (by rintro ⟨h, _⟩; cases h); injection h9 with h9; subst h9; have HR2 := Aside0.mk (rd_of hs); have n1_ := Aside0.mk (below_step HB.out hb); clear HB; have HB := n1_; clear n1_ hb hr hs) | (go_at_call 61; (with_reducible refine (spec_even.calls _ nt.erase (Nat.le_refl _) HOF.out.few_ _ ?side1).mono ?_); (case side1 => repeat (first | exact HR2.out | (with_reducible refine Rd.drewN ?_ _) | (with_reducible refine Rd.drew ?_))); rintro e w' ⟨rfl, ⟨nd, rfl⟩⟩))
      go_ret2
      exact ⟨by first | rfl | (simp; done), pw_below_drewN HB.out _⟩
  · rw [if_neg hok] at h
    cases h
def impl_DepthOf.f (k : Nat) (l0_0 : List S110) : Option (Int × Bool) := if okP l0_0 = true then (rootI k l0_0).bind fun r => (match r with | none => some (0, false) | some t => some (depthP t)) else none
theorem impl_DepthOf.calls (k : Nat) (A0_0 : Option Addr) (c0_0 : Nat) (l0_0 : List (S110)) (r1 : Int) (r2 : Bool) (w : World) (hr0_0 : Kd.C k110 w A0_0 l0_0.length l0_0) (hc0_0 : l0_0.length ≤ c0_0) (h : impl_DepthOf.f k l0_0 = some (r1, r2)) :
    Calls Try.prog 21 #[.agg #[.slice A0_0 l0_0.length c0_0]] w fun e w' => e = .returned (.tuple #[.int .i64 r1, .bool r2]) ∧ Below w.heap.size w w' := by
  unfold impl_DepthOf.f at h
  have HP := Aside0.mk hr0_0
  clear hr0_0 hc0_0
  by_cases hok : okP l0_0 = true
  · rw [if_pos hok] at h
    have HNP := Aside0.mk (okP_parts hok).1
    have HM := Aside0.mk (okP_parts hok).2
    obtain ⟨o, hrs, h⟩ := Option.bind_eq_some_iff.mp h
    cases o with
    | none =>
      injection h with h
      injection h with e1 e2
      subst e1; subst e2
      have HRS := Aside0.mk hrs
      clear hrs hok
      go_enter Try.func21, Try.ntmps21
      go_wp2_with (first | ((with_reducible refine gate_dst (N := 1) rfl ?_); refine box_event ?hg (N := 1) ?hd (cs := #[.slice A0_0 l0_0.length c0_0]) (t := 29) ?hr ?_; (case hd => rfl); (case hg => rfl); (case hr => first | (go_simp; done) | (go_simp; rfl)); intro b3 hg w1 hbox hb; have HB := Aside0.mk hb; have hz3 : w1.cell? ⟨b3, 0, none⟩ = some (.slice A0_0 l0_0.length c0_0) := (blk_cell hbox 0).trans rfl; clear hg hbox hb) | (go_at_call 59; (with_reducible refine (impl_root.calls k l0_0 HNP.out A0_0 c0_0 _ (Kd.C_below HP.out HB.out) HM.out _ HRS.out).mono ?_); rintro e w2 ⟨hb, hr⟩; obtain ⟨-, rfl⟩ := hr.resolve_right (by rintro ⟨_, h, _⟩; cases h); have n1_ := Aside0.mk (below_step HB.out hb); clear HB; have HB := n1_; clear n1_ hb hr))
      go_ret2
      exact ⟨by first | rfl | (simp; done), HB.out⟩
    | some t =>
      have HX := Aside0.mk (Option.some.inj h)
      have HRS := Aside0.mk hrs
      have HOF := Aside0.mk (rootI_shp hrs)
      try clear h
      clear hrs hok
      go_enter Try.func21, Try.ntmps21
      go_wp2_with (first | ((with_reducible refine gate_dst (N := 1) rfl ?_); refine box_event ?hg (N := 1) ?hd (cs := #[.slice A0_0 l0_0.length c0_0]) (t := 29) ?hr ?_; (case hd => rfl); (case hg => rfl); (case hr => first | (go_simp; done) | (go_simp; rfl)); intro b3 hg w1 hbox hb; have HB := Aside0.mk hb; have hz3 : w1.cell? ⟨b3, 0, none⟩ = some (.slice A0_0 l0_0.length c0_0) := (blk_cell hbox 0).trans rfl; clear hg hbox hb) | (go_at_call 59; (with_reducible refine (impl_root.calls k l0_0 HNP.out A0_0 c0_0 _ (Kd.C_below HP.out HB.out) HM.out _ HRS.out).mono ?_); rintro e w2 ⟨hb, hr⟩; obtain ⟨nt, h9, rfl, hs⟩ := hr.resolve_left (by rintro ⟨h, _⟩; cases h); injection h9 with h9; subst h9; have HR2 := Aside0.mk (rd_of hs); have n1_ := Aside0.mk (below_step HB.out hb); clear HB; have HB := n1_; clear n1_ hb hr hs) | (go_at_call 62; (with_reducible refine (impl_depth.calls _ nt.erase (Nat.le_refl _) HOF.out.few_ r1 r2 HX.out _ ?side1).mono ?_); (case side1 => repeat (first | exact HR2.out | (with_reducible refine Rd.drewN ?_ _) | (with_reducible refine Rd.drew ?_))); rintro e w' ⟨rfl, ⟨nd, rfl⟩⟩))
      go_ret2
      exact ⟨by first | rfl | (simp; done), pw_below_drewN HB.out _⟩
  · rw [if_neg hok] at h
    cases h
theorem impl_DepthOf.mono : ∀ a0 k, LeO (impl_DepthOf.f k a0) (impl_DepthOf.f (k + 1) a0) := fun a0 k => LeO.ite (LeO.bind (rootI_mono _ _) fun _ => LeO.refl _) (LeO.refl _)
def spec_GetKey.f (l0_0 : List S110) (a1 : ByteArray) : Option (ByteArray × Bool) := if okP l0_0 = true then (match ofS l0_0 with | none => some (⟨#[]⟩, false) | some t => some (getS t.big t a1)) else none
theorem spec_GetKey.calls (A0_0 : Option Addr) (c0_0 : Nat) (l0_0 : List (S110)) (a1 : ByteArray) (r1 : ByteArray) (r2 : Bool) (w : World) (hr0_0 : Kd.C k110 w A0_0 l0_0.length l0_0) (hc0_0 : l0_0.length ≤ c0_0) (h : spec_GetKey.f l0_0 a1 = some (r1, r2)) :
    Calls Try.prog 22 #[.agg #[.slice A0_0 l0_0.length c0_0], .string a1] w fun e w' => e = .returned (.tuple #[.string r1, .bool r2]) ∧ Below w.heap.size w w' := by
  unfold spec_GetKey.f at h
  have HP := Aside0.mk hr0_0
  clear hr0_0 hc0_0
  by_cases hok : okP l0_0 = true
  · rw [if_pos hok] at h
    have HNP := Aside0.mk (okP_parts hok).1
    have HM := Aside0.mk (okP_parts hok).2
    cases hrs : ofS l0_0 with
    | none =>
      rw [hrs] at h
      injection h with h
      injection h with e1 e2
      subst e1; subst e2
      have HRS := Aside0.mk hrs
      clear hrs hok
      go_enter Try.func22, Try.ntmps22
      go_wp2_with (first | ((with_reducible refine gate_dst (N := 2) rfl ?_); refine box_event ?hg (N := 2) ?hd (cs := #[.slice A0_0 l0_0.length c0_0]) (t := 29) ?hr ?_; (case hd => rfl); (case hg => rfl); (case hr => first | (go_simp; done) | (go_simp; rfl)); intro b3 hg w1 hbox hb; have HB := Aside0.mk hb; have hz3 : w1.cell? ⟨b3, 0, none⟩ = some (.slice A0_0 l0_0.length c0_0) := (blk_cell hbox 0).trans rfl; clear hg hbox hb) | (go_at_call 57; (with_reducible refine (spec_l5Of.calls l0_0 HNP.out A0_0 c0_0 _ (Kd.C_below HP.out HB.out) HM.out).mono ?_); rintro e w2 ⟨hb, hr⟩; rw [HRS.out] at hr; obtain ⟨-, rfl⟩ := hr.resolve_right (by rintro ⟨_, h, _⟩; cases h); have n1_ := Aside0.mk (below_step HB.out hb); clear HB; have HB := n1_; clear n1_ hb hr))
      go_ret2
      exact ⟨by first | rfl | (simp; done), HB.out⟩
    | some t =>
      rw [hrs] at h
      have HX := Aside0.mk (Option.some.inj h)
      have HRS := Aside0.mk hrs
      have HOF := Aside0.mk (ofS_shp hrs)
      try clear h
      clear hrs hok
      go_enter Try.func22, Try.ntmps22
      go_wp2_with (first | ((with_reducible refine gate_dst (N := 2) rfl ?_); refine box_event ?hg (N := 2) ?hd (cs := #[.slice A0_0 l0_0.length c0_0]) (t := 29) ?hr ?_; (case hd => rfl); (case hg => rfl); (case hr => first | (go_simp; done) | (go_simp; rfl)); intro b3 hg w1 hbox hb; have HB := Aside0.mk hb; have hz3 : w1.cell? ⟨b3, 0, none⟩ = some (.slice A0_0 l0_0.length c0_0) := (blk_cell hbox 0).trans rfl; clear hg hbox hb) | (go_at_call 57; (with_reducible refine (spec_l5Of.calls l0_0 HNP.out A0_0 c0_0 _ (Kd.C_below HP.out HB.out) HM.out).mono ?_); rintro e w2 ⟨hb, hr⟩; rw [HRS.out] at hr; obtain ⟨nt, h9, rfl, hs⟩ := hr.resolve_left (by rintro ⟨h, _⟩; cases h); injection h9 with h9; subst h9; have HR2 := Aside0.mk (rd_of hs); have n1_ := Aside0.mk (below_step HB.out hb); clear HB; have HB := n1_; clear n1_ hb hr hs) | (go_at_call 63; (with_reducible refine (spec_get.calls _ nt.erase (Nat.le_refl _) HOF.out a1 r1 r2 HX.out _ ?side1).mono ?_); (case side1 => repeat (first | exact HR2.out | (with_reducible refine Rd.drewN ?_ _) | (with_reducible refine Rd.drew ?_))); rintro e w' ⟨rfl, ⟨nd, rfl⟩⟩))
      go_ret2
      exact ⟨by first | rfl | (simp; done), pw_below_drewN HB.out _⟩
  · rw [if_neg hok] at h
    cases h
def impl_GetKey.f (k : Nat) (l0_0 : List S110) (a1 : ByteArray) : Option (ByteArray × Bool) := if okP l0_0 = true then (rootI k l0_0).bind fun r => (match r with | none => some (⟨#[]⟩, false) | some t => getI k k t a1) else none
theorem impl_GetKey.calls (k : Nat) (A0_0 : Option Addr) (c0_0 : Nat) (l0_0 : List (S110)) (a1 : ByteArray) (r1 : ByteArray) (r2 : Bool) (w : World) (hr0_0 : Kd.C k110 w A0_0 l0_0.length l0_0) (hc0_0 : l0_0.length ≤ c0_0) (h : impl_GetKey.f k l0_0 a1 = some (r1, r2)) :
    Calls Try.prog 23 #[.agg #[.slice A0_0 l0_0.length c0_0], .string a1] w fun e w' => e = .returned (.tuple #[.string r1, .bool r2]) ∧ Below w.heap.size w w' := by
  unfold impl_GetKey.f at h
  have HP := Aside0.mk hr0_0
  clear hr0_0 hc0_0
  by_cases hok : okP l0_0 = true
  · rw [if_pos hok] at h
    have HNP := Aside0.mk (okP_parts hok).1
    have HM := Aside0.mk (okP_parts hok).2
    obtain ⟨o, hrs, h⟩ := Option.bind_eq_some_iff.mp h
    cases o with
    | none =>
      injection h with h
      injection h with e1 e2
      subst e1; subst e2
      have HRS := Aside0.mk hrs
      clear hrs hok
      go_enter Try.func23, Try.ntmps23
      go_wp2_with (first | ((with_reducible refine gate_dst (N := 2) rfl ?_); refine box_event ?hg (N := 2) ?hd (cs := #[.slice A0_0 l0_0.length c0_0]) (t := 29) ?hr ?_; (case hd => rfl); (case hg => rfl); (case hr => first | (go_simp; done) | (go_simp; rfl)); intro b3 hg w1 hbox hb; have HB := Aside0.mk hb; have hz3 : w1.cell? ⟨b3, 0, none⟩ = some (.slice A0_0 l0_0.length c0_0) := (blk_cell hbox 0).trans rfl; clear hg hbox hb) | (go_at_call 59; (with_reducible refine (impl_root.calls k l0_0 HNP.out A0_0 c0_0 _ (Kd.C_below HP.out HB.out) HM.out _ HRS.out).mono ?_); rintro e w2 ⟨hb, hr⟩; obtain ⟨-, rfl⟩ := hr.resolve_right (by rintro ⟨_, h, _⟩; cases h); have n1_ := Aside0.mk (below_step HB.out hb); clear HB; have HB := n1_; clear n1_ hb hr))
      go_ret2
      exact ⟨by first | rfl | (simp; done), HB.out⟩
    | some t =>
      have HX := Aside0.mk h
      have HRS := Aside0.mk hrs
      have HOF := Aside0.mk (rootI_shp hrs)
      try clear h
      clear hrs hok
      go_enter Try.func23, Try.ntmps23
      go_wp2_with (first | ((with_reducible refine gate_dst (N := 2) rfl ?_); refine box_event ?hg (N := 2) ?hd (cs := #[.slice A0_0 l0_0.length c0_0]) (t := 29) ?hr ?_; (case hd => rfl); (case hg => rfl); (case hr => first | (go_simp; done) | (go_simp; rfl)); intro b3 hg w1 hbox hb; have HB := Aside0.mk hb; have hz3 : w1.cell? ⟨b3, 0, none⟩ = some (.slice A0_0 l0_0.length c0_0) := (blk_cell hbox 0).trans rfl; clear hg hbox hb) | (go_at_call 59; (with_reducible refine (impl_root.calls k l0_0 HNP.out A0_0 c0_0 _ (Kd.C_below HP.out HB.out) HM.out _ HRS.out).mono ?_); rintro e w2 ⟨hb, hr⟩; obtain ⟨nt, h9, rfl, hs⟩ := hr.resolve_left (by rintro ⟨h, _⟩; cases h); injection h9 with h9; subst h9; have HR2 := Aside0.mk (rd_of hs); have n1_ := Aside0.mk (below_step HB.out hb); clear HB; have HB := n1_; clear n1_ hb hr hs) | (go_at_call 64; (with_reducible refine (impl_get.calls k k nt.erase a1 r1 r2 HX.out _ ?side1).mono ?_); (case side1 => repeat (first | exact HR2.out | (with_reducible refine Rd.drewN ?_ _) | (with_reducible refine Rd.drew ?_))); rintro e w' ⟨rfl, ⟨nd, rfl⟩⟩))
      go_ret2
      exact ⟨by first | rfl | (simp; done), pw_below_drewN HB.out _⟩
  · rw [if_neg hok] at h
    cases h
theorem impl_GetKey.mono : ∀ a0 a1 k, LeO (impl_GetKey.f k a0 a1) (impl_GetKey.f (k + 1) a0 a1) := fun a0 a1 k => LeO.ite (LeO.bind (rootI_mono _ _) fun r => by cases r with
  | none => exact LeO.refl _
  | some t => exact getI_mono k k t a1) (LeO.refl _)
end Go.Proofs.Ytoddejmlcnbdmaa.Fn
namespace Go.Proofs.Ytoddejmlcnbdmaa.Fn
open Go.Proofs.Ytoddejmlcnbdmaa.Gen Go.Proofs.Ytoddejmlcnbdmaa.Tree
open Go.RowKit Go.Proofs.YtoddejmlcnbdmaaW.PrintWords Go.Proofs.YtoddejmlcnbdmaaW.PrintLast Go.Proofs.YtoddejmlcnbdmaaW.PrintMore
set_option linter.unusedVariables false
set_option linter.unusedSimpArgs false
set_option maxHeartbeats 8000000
set_option maxRecDepth 100000

theorem ofS_len {P : List S110} {t : PT} (h : ofS P = some t) (hN : P.length ≤ 1000000000000) : (allK t).length ≤ 4000000000000 := by
  unfold ofS at h
  cases hrs : readS P 10 0 with
  | none => rw [hrs] at h; cases h
  | some r =>
    rw [hrs] at h
    simp only at h
    obtain ⟨r1, r2⟩ := r
    have hf := (readS_fits 10 0 r1 r2 hrs).2.k
    have hl := (readS_le 10 0 r1 r2 hrs).2
    split at h
    · cases h
    · split at h
      · cases h
      · split at h
        · cases h
        · obtain rfl := Option.some.inj h
          omega
theorem rootI_len {k : Nat} {P : List S110} {t : PT} (h : rootI k P = some (some t)) (hN : P.length ≤ 1000000000000) : (allK t).length ≤ 4000000000000 := by
  unfold rootI at h
  cases hrs : readS P (P.length + 1) 0 with
  | none => rw [hrs] at h; cases h
  | some r =>
    rw [hrs] at h
    simp only at h
    obtain ⟨r1, r2⟩ := r
    have hf := (readS_fits _ 0 r1 r2 hrs).2.k
    have hl := (readS_le _ 0 r1 r2 hrs).2
    split at h
    · cases h
    · split at h
      · cases h
      · obtain ⟨b, _, h⟩ := Option.bind_eq_some_iff.mp h
        cases b with
        | false => cases h
        | true =>
          obtain rfl : r1 = t := by simpa using h
          omega
def atS (t : PT) (i : Int) : ByteArray × ByteArray × Bool := if 0 ≤ i ∧ i < ((allK t).length : Int) then (rdOf ByteArray.empty (allK t) i, rdOf ByteArray.empty (allV t) i, true) else (⟨#[]⟩, ⟨#[]⟩, false)
def spec_AtPlace.f (l0_0 : List S110) (a1 : Int) : Option (ByteArray × ByteArray × Bool) := if okP l0_0 = true then (match ofS l0_0 with | none => some (⟨#[]⟩, ⟨#[]⟩, false) | some t => some (atS t a1)) else none
def impl_AtPlace.f (k : Nat) (l0_0 : List S110) (a1 : Int) : Option (ByteArray × ByteArray × Bool) := if okP l0_0 = true then (rootI k l0_0).bind fun r => (match r with | none => some (⟨#[]⟩, ⟨#[]⟩, false) | some t => some (atS t a1)) else none
theorem impl_AtPlace.mono : ∀ a0 a1 k, LeO (impl_AtPlace.f k a0 a1) (impl_AtPlace.f (k + 1) a0 a1) := fun a0 a1 k => LeO.ite (LeO.bind (rootI_mono _ _) fun _ => LeO.refl _) (LeO.refl _)
theorem spec_AtPlace.calls (A0_0 : Option Addr) (c0_0 : Nat) (l0_0 : List (S110)) (a1 : Int) (r1 : ByteArray) (r2 : ByteArray) (r3 : Bool) (w : World) (hr0_0 : Kd.C k110 w A0_0 l0_0.length l0_0) (hc0_0 : l0_0.length ≤ c0_0) (h : spec_AtPlace.f l0_0 a1 = some (r1, r2, r3)) :
    Calls Try.prog 30 #[.agg #[.slice A0_0 l0_0.length c0_0], .int .i64 a1] w fun e w' => e = .returned (.tuple #[.string r1, .string r2, .bool r3]) ∧ Below w.heap.size w w' := by
  unfold spec_AtPlace.f at h
  have HP := Aside0.mk hr0_0
  clear hr0_0 hc0_0
  by_cases hok : okP l0_0 = true
  · rw [if_pos hok] at h
    have HNP := Aside0.mk (okP_parts hok).1
    have HM := Aside0.mk (okP_parts hok).2
    cases hrs : ofS l0_0 with
    | none =>
      rw [hrs] at h
      injection h with h
      injection h with e1 h
      injection h with e2 e3
      subst e1
      subst e2
      subst e3
      have HRS := Aside0.mk hrs
      clear hrs hok
      go_enter Try.func30, Try.ntmps30
      go_wp2_with (first | ((with_reducible refine gate_dst (N := 2) rfl ?_); refine box_event ?hg (N := 2) ?hd (cs := #[.slice A0_0 l0_0.length c0_0]) (t := 29) ?hr ?_; (case hd => rfl); (case hg => rfl); (case hr => first | (go_simp; done) | (go_simp; rfl)); intro b3 hg w1 hbox hb; have HB := Aside0.mk hb; have hz3 : w1.cell? ⟨b3, 0, none⟩ = some (.slice A0_0 l0_0.length c0_0) := (blk_cell hbox 0).trans rfl; clear hg hbox hb) | (go_at_call 57; (with_reducible refine (spec_l5Of.calls l0_0 HNP.out A0_0 c0_0 _ (Kd.C_below HP.out HB.out) HM.out).mono ?_); rintro e w2 ⟨hb, hr⟩; rw [HRS.out] at hr; obtain ⟨-, rfl⟩ := hr.resolve_right (by rintro ⟨_, h, _⟩; cases h); have n1_ := Aside0.mk (below_step HB.out hb); clear HB; have HB := n1_; clear n1_ hb hr hz3))
      go_ret3
      exact ⟨by first | rfl | (simp; done), HB.out⟩
    | some t =>
      rw [hrs] at h
      have HRS := Aside0.mk hrs
      have HSH := Aside0.mk (ofS_shp hrs)
      have HLN := Aside0.mk (ofS_len hrs HNP.out)
      have HZ1 := Aside0.mk (show (allK t).length ≤ 8796093022208 by have := HLN.out; omega)
      have HZ2 := Aside0.mk (show (allV t).length ≤ 8796093022208 by rw [allV_len HSH.out]; have := HLN.out; omega)
      have hln : (allK t).length ≤ 4000000000000 := HLN.out
      have HVK := Aside0.mk (allV_len HSH.out)
      replace h : some (atS t a1) = some (r1, r2, r3) := h
      unfold atS at h
      clear hrs hok
      by_cases c1 : 0 ≤ a1 ∧ a1 < ((allK t).length : Int)
      · rw [if_pos c1] at h
        injection h with h
        injection h with e1 h
        injection h with e2 e3
        subst e1
        subst e2
        subst e3
        have HI0 := Aside0.mk c1.1
        have HI1 := Aside0.mk c1.2
        have t1 : decide (a1 < 0) = false := decide_eq_false (by omega)
        have t2 : decide (((allK t).length : Int) ≤ a1) = false := decide_eq_false (by omega)
        have p0 : (0 ≤ a1) = True := eq_true c1.1
        clear c1
        go_enter Try.func30, Try.ntmps30
        go_wp2_with (first | ((with_reducible refine gate_dst (N := 2) rfl ?_); refine box_event ?hg (N := 2) ?hd (cs := #[.slice A0_0 l0_0.length c0_0]) (t := 29) ?hr ?_; (case hd => rfl); (case hg => rfl); (case hr => first | (go_simp; done) | (go_simp; rfl)); intro b3 hg w1 hbox hb; have HB := Aside0.mk hb; have hz3 : w1.cell? ⟨b3, 0, none⟩ = some (.slice A0_0 l0_0.length c0_0) := (blk_cell hbox 0).trans rfl; clear hg hbox hb) | (go_at_call 57; (with_reducible refine (spec_l5Of.calls l0_0 HNP.out A0_0 c0_0 _ (Kd.C_below HP.out HB.out) HM.out).mono ?_); rintro e w2 ⟨hb, hr⟩; rw [HRS.out] at hr; obtain ⟨nt, h9, rfl, hs⟩ := hr.resolve_left (by rintro ⟨h, _⟩; cases h); injection h9 with h9; subst h9; have HR2 := Aside0.mk (rd_of hs); have n1_ := Aside0.mk (below_step HB.out hb); clear HB; have HB := n1_; clear n1_ hb hr hs hz3) | (go_at_call 65; (with_reducible refine (spec_all.calls0 nt.erase HSH.out _ ?side1 HZ1.out HZ2.out).mono ?_); (case side1 => repeat (first | exact HR2.out | (with_reducible refine Rd.drewN ?_ _) | (with_reducible refine Rd.drew ?_))); rintro e w5 ⟨u1, u2, rfl, ho1, ho2, hne, hb⟩; have HO1 := Aside0.mk (Kd.R_lower ho1 (show w.heap.size ≤ _ from HB.out.size)); have HO2 := Aside0.mk (Kd.R_lower ho2 (show w.heap.size ≤ _ from HB.out.size)); have HNE := Aside0.mk hne; have n1_ := Aside0.mk (below_step (by repeat (first | (with_reducible exact HB.out) | (with_reducible apply pw_below_drewN) | (with_reducible apply below_drew1))) hb); clear HB; have HB := n1_; clear n1_ hb ho1 ho2 hne; obtain ⟨B1, d1, rfl, hl1, hc1⟩ := Kd.R_reads HO1.out; obtain ⟨B2, d2, rfl, hl2, hc2⟩ := Kd.R_reads HO2.out; have HC1 := Aside0.mk hc1; have HC2 := Aside0.mk hc2; have HD1 := Aside0.mk hl1; have HD2 := Aside0.mk hl2; clear hl1 hl2 hc1 hc2; have q0 : (a1 < ((allK nt.erase).length : Int)) = True := eq_true HI1.out; have q1 : (a1 < ((allV nt.erase).length : Int)) = True := eq_true (by rw [HVK.out]; exact HI1.out); obtain ⟨adk, hA1, hk0⟩ := Kd.at_string HC1.out a1 HI0.out HI1.out; obtain ⟨adv, hA2, hv0⟩ := Kd.at_string HC2.out a1 HI0.out (by rw [HVK.out]; exact HI1.out); subst hA1; subst hA2))
        go_quiet (fail)
        go_wp2
        go_ret3
        exact ⟨by first | rfl | (simp; done), (by repeat (first | (with_reducible exact HB.out) | (with_reducible apply pw_below_drewN) | (with_reducible apply below_drew1)))⟩
      · rw [if_neg c1] at h
        injection h with h
        injection h with e1 h
        injection h with e2 e3
        subst e1
        subst e2
        subst e3
        by_cases c2 : a1 < 0
        · have t1 : decide (a1 < 0) = true := decide_eq_true c2
          clear c1 c2
          go_enter Try.func30, Try.ntmps30
          go_wp2_with (first | ((with_reducible refine gate_dst (N := 2) rfl ?_); refine box_event ?hg (N := 2) ?hd (cs := #[.slice A0_0 l0_0.length c0_0]) (t := 29) ?hr ?_; (case hd => rfl); (case hg => rfl); (case hr => first | (go_simp; done) | (go_simp; rfl)); intro b3 hg w1 hbox hb; have HB := Aside0.mk hb; have hz3 : w1.cell? ⟨b3, 0, none⟩ = some (.slice A0_0 l0_0.length c0_0) := (blk_cell hbox 0).trans rfl; clear hg hbox hb) | (go_at_call 57; (with_reducible refine (spec_l5Of.calls l0_0 HNP.out A0_0 c0_0 _ (Kd.C_below HP.out HB.out) HM.out).mono ?_); rintro e w2 ⟨hb, hr⟩; rw [HRS.out] at hr; obtain ⟨nt, h9, rfl, hs⟩ := hr.resolve_left (by rintro ⟨h, _⟩; cases h); injection h9 with h9; subst h9; have HR2 := Aside0.mk (rd_of hs); have n1_ := Aside0.mk (below_step HB.out hb); clear HB; have HB := n1_; clear n1_ hb hr hs hz3) | (go_at_call 65; (with_reducible refine (spec_all.calls0 nt.erase HSH.out _ ?side1 HZ1.out HZ2.out).mono ?_); (case side1 => repeat (first | exact HR2.out | (with_reducible refine Rd.drewN ?_ _) | (with_reducible refine Rd.drew ?_))); rintro e w5 ⟨u1, u2, rfl, ho1, ho2, hne, hb⟩; have HO1 := Aside0.mk (Kd.R_lower ho1 (show w.heap.size ≤ _ from HB.out.size)); have HO2 := Aside0.mk (Kd.R_lower ho2 (show w.heap.size ≤ _ from HB.out.size)); have HNE := Aside0.mk hne; have n1_ := Aside0.mk (below_step (by repeat (first | (with_reducible exact HB.out) | (with_reducible apply pw_below_drewN) | (with_reducible apply below_drew1))) hb); clear HB; have HB := n1_; clear n1_ hb ho1 ho2 hne; obtain ⟨B1, d1, rfl, hl1, hc1⟩ := Kd.R_reads HO1.out; obtain ⟨B2, d2, rfl, hl2, hc2⟩ := Kd.R_reads HO2.out; have HC1 := Aside0.mk hc1; have HC2 := Aside0.mk hc2; have HD1 := Aside0.mk hl1; have HD2 := Aside0.mk hl2; clear hl1 hl2 hc1 hc2))
          go_ret3
          exact ⟨by first | rfl | (simp; done), (by repeat (first | (with_reducible exact HB.out) | (with_reducible apply pw_below_drewN) | (with_reducible apply below_drew1)))⟩
        · have t1 : decide (a1 < 0) = false := decide_eq_false c2
          have t2 : decide (((allK t).length : Int) ≤ a1) = true := decide_eq_true (by omega)
          clear c1 c2
          go_enter Try.func30, Try.ntmps30
          go_wp2_with (first | ((with_reducible refine gate_dst (N := 2) rfl ?_); refine box_event ?hg (N := 2) ?hd (cs := #[.slice A0_0 l0_0.length c0_0]) (t := 29) ?hr ?_; (case hd => rfl); (case hg => rfl); (case hr => first | (go_simp; done) | (go_simp; rfl)); intro b3 hg w1 hbox hb; have HB := Aside0.mk hb; have hz3 : w1.cell? ⟨b3, 0, none⟩ = some (.slice A0_0 l0_0.length c0_0) := (blk_cell hbox 0).trans rfl; clear hg hbox hb) | (go_at_call 57; (with_reducible refine (spec_l5Of.calls l0_0 HNP.out A0_0 c0_0 _ (Kd.C_below HP.out HB.out) HM.out).mono ?_); rintro e w2 ⟨hb, hr⟩; rw [HRS.out] at hr; obtain ⟨nt, h9, rfl, hs⟩ := hr.resolve_left (by rintro ⟨h, _⟩; cases h); injection h9 with h9; subst h9; have HR2 := Aside0.mk (rd_of hs); have n1_ := Aside0.mk (below_step HB.out hb); clear HB; have HB := n1_; clear n1_ hb hr hs hz3) | (go_at_call 65; (with_reducible refine (spec_all.calls0 nt.erase HSH.out _ ?side1 HZ1.out HZ2.out).mono ?_); (case side1 => repeat (first | exact HR2.out | (with_reducible refine Rd.drewN ?_ _) | (with_reducible refine Rd.drew ?_))); rintro e w5 ⟨u1, u2, rfl, ho1, ho2, hne, hb⟩; have HO1 := Aside0.mk (Kd.R_lower ho1 (show w.heap.size ≤ _ from HB.out.size)); have HO2 := Aside0.mk (Kd.R_lower ho2 (show w.heap.size ≤ _ from HB.out.size)); have HNE := Aside0.mk hne; have n1_ := Aside0.mk (below_step (by repeat (first | (with_reducible exact HB.out) | (with_reducible apply pw_below_drewN) | (with_reducible apply below_drew1))) hb); clear HB; have HB := n1_; clear n1_ hb ho1 ho2 hne; obtain ⟨B1, d1, rfl, hl1, hc1⟩ := Kd.R_reads HO1.out; obtain ⟨B2, d2, rfl, hl2, hc2⟩ := Kd.R_reads HO2.out; have HC1 := Aside0.mk hc1; have HC2 := Aside0.mk hc2; have HD1 := Aside0.mk hl1; have HD2 := Aside0.mk hl2; clear hl1 hl2 hc1 hc2))
          go_ret3
          exact ⟨by first | rfl | (simp; done), (by repeat (first | (with_reducible exact HB.out) | (with_reducible apply pw_below_drewN) | (with_reducible apply below_drew1)))⟩
  · rw [if_neg hok] at h
    cases h
theorem impl_AtPlace.calls (k : Nat) (A0_0 : Option Addr) (c0_0 : Nat) (l0_0 : List (S110)) (a1 : Int) (r1 : ByteArray) (r2 : ByteArray) (r3 : Bool) (w : World) (hr0_0 : Kd.C k110 w A0_0 l0_0.length l0_0) (hc0_0 : l0_0.length ≤ c0_0) (h : impl_AtPlace.f k l0_0 a1 = some (r1, r2, r3)) :
    Calls Try.prog 31 #[.agg #[.slice A0_0 l0_0.length c0_0], .int .i64 a1] w fun e w' => e = .returned (.tuple #[.string r1, .string r2, .bool r3]) ∧ Below w.heap.size w w' := by
  unfold impl_AtPlace.f at h
  have HP := Aside0.mk hr0_0
  clear hr0_0 hc0_0
  by_cases hok : okP l0_0 = true
  · rw [if_pos hok] at h
    have HNP := Aside0.mk (okP_parts hok).1
    have HM := Aside0.mk (okP_parts hok).2
    obtain ⟨o, hrs, h⟩ := Option.bind_eq_some_iff.mp h
    cases o with
    | none =>
      injection h with h
      injection h with e1 h
      injection h with e2 e3
      subst e1
      subst e2
      subst e3
      have HRS := Aside0.mk hrs
      clear hrs hok
      go_enter Try.func31, Try.ntmps31
      go_wp2_with (first | ((with_reducible refine gate_dst (N := 2) rfl ?_); refine box_event ?hg (N := 2) ?hd (cs := #[.slice A0_0 l0_0.length c0_0]) (t := 29) ?hr ?_; (case hd => rfl); (case hg => rfl); (case hr => first | (go_simp; done) | (go_simp; rfl)); intro b3 hg w1 hbox hb; have HB := Aside0.mk hb; have hz3 : w1.cell? ⟨b3, 0, none⟩ = some (.slice A0_0 l0_0.length c0_0) := (blk_cell hbox 0).trans rfl; clear hg hbox hb) | (go_at_call 59; (with_reducible refine (impl_root.calls k l0_0 HNP.out A0_0 c0_0 _ (Kd.C_below HP.out HB.out) HM.out _ HRS.out).mono ?_); rintro e w2 ⟨hb, hr⟩; obtain ⟨-, rfl⟩ := hr.resolve_right (by rintro ⟨_, h, _⟩; cases h); have n1_ := Aside0.mk (below_step HB.out hb); clear HB; have HB := n1_; clear n1_ hb hr hz3))
      go_ret3
      exact ⟨by first | rfl | (simp; done), HB.out⟩
    | some t =>
      have HRS := Aside0.mk hrs
      have HSH := Aside0.mk (rootI_shp hrs)
      have HLN := Aside0.mk (rootI_len hrs HNP.out)
      have HZ1 := Aside0.mk (show (allK t).length ≤ 8796093022208 by have := HLN.out; omega)
      have HZ2 := Aside0.mk (show (allV t).length ≤ 8796093022208 by rw [allV_len HSH.out]; have := HLN.out; omega)
      have hln : (allK t).length ≤ 4000000000000 := HLN.out
      have HVK := Aside0.mk (allV_len HSH.out)
      replace h : some (atS t a1) = some (r1, r2, r3) := h
      unfold atS at h
      clear hrs hok
      obtain ⟨ji, hji⟩ : ∃ j : Int, j = ((allK t).length : Int) - 1 := ⟨_, rfl⟩
      have hjw : IntKind.i64.wrap (((allK t).length : Int) - 1) = ji := by rw [IntWalk.i64_in _ (by omega)]; exact hji.symm
      by_cases c1 : 0 ≤ a1 ∧ a1 < ((allK t).length : Int)
      · rw [if_pos c1] at h
        injection h with h
        injection h with e1 h
        injection h with e2 e3
        subst e1
        subst e2
        subst e3
        have HI0 := Aside0.mk c1.1
        have HI1 := Aside0.mk c1.2
        have HX := Aside0.mk (show impl_within.f a1 0 ji = some true by unfold impl_within.f; rw [if_pos c1.1, decide_eq_true (by omega)])
        have p0 : (0 ≤ a1) = True := eq_true c1.1
        clear c1 hji
        go_enter Try.func31, Try.ntmps31
        go_wp2_with (first | ((with_reducible refine gate_dst (N := 2) rfl ?_); refine box_event ?hg (N := 2) ?hd (cs := #[.slice A0_0 l0_0.length c0_0]) (t := 29) ?hr ?_; (case hd => rfl); (case hg => rfl); (case hr => first | (go_simp; done) | (go_simp; rfl)); intro b3 hg w1 hbox hb; have HB := Aside0.mk hb; have hz3 : w1.cell? ⟨b3, 0, none⟩ = some (.slice A0_0 l0_0.length c0_0) := (blk_cell hbox 0).trans rfl; clear hg hbox hb) | (go_at_call 59; (with_reducible refine (impl_root.calls k l0_0 HNP.out A0_0 c0_0 _ (Kd.C_below HP.out HB.out) HM.out _ HRS.out).mono ?_); rintro e w2 ⟨hb, hr⟩; obtain ⟨nt, h9, rfl, hs⟩ := hr.resolve_left (by rintro ⟨h, _⟩; cases h); injection h9 with h9; subst h9; have HR2 := Aside0.mk (rd_of hs); have n1_ := Aside0.mk (below_step HB.out hb); clear HB; have HB := n1_; clear n1_ hb hr hs hz3) | (go_at_call 66; (with_reducible refine (impl_all.calls0 nt.erase HSH.out _ ?side1 HZ1.out HZ2.out).mono ?_); (case side1 => repeat (first | exact HR2.out | (with_reducible refine Rd.drewN ?_ _) | (with_reducible refine Rd.drew ?_))); rintro e w5 ⟨u1, u2, rfl, ho1, ho2, hne, hb⟩; have HO1 := Aside0.mk (Kd.R_lower ho1 (show w.heap.size ≤ _ from HB.out.size)); have HO2 := Aside0.mk (Kd.R_lower ho2 (show w.heap.size ≤ _ from HB.out.size)); have HNE := Aside0.mk hne; have n1_ := Aside0.mk (below_step (by repeat (first | (with_reducible exact HB.out) | (with_reducible apply pw_below_drewN) | (with_reducible apply below_drew1))) hb); clear HB; have HB := n1_; clear n1_ hb ho1 ho2 hne; obtain ⟨B1, d1, rfl, hl1, hc1⟩ := Kd.R_reads HO1.out; obtain ⟨B2, d2, rfl, hl2, hc2⟩ := Kd.R_reads HO2.out; have HC1 := Aside0.mk hc1; have HC2 := Aside0.mk hc2; have HD1 := Aside0.mk hl1; have HD2 := Aside0.mk hl2; clear hl1 hl2 hc1 hc2; have q0 : (a1 < ((allK nt.erase).length : Int)) = True := eq_true HI1.out; have q1 : (a1 < ((allV nt.erase).length : Int)) = True := eq_true (by rw [HVK.out]; exact HI1.out); obtain ⟨adk, hA1, hk0⟩ := Kd.at_string HC1.out a1 HI0.out HI1.out; obtain ⟨adv, hA2, hv0⟩ := Kd.at_string HC2.out a1 HI0.out (by rw [HVK.out]; exact HI1.out); subst hA1; subst hA2) | (go_at_call 69; (with_reducible refine (impl_within.calls a1 0 ji true _ HX.out).mono ?_); rintro e w' ⟨rfl, ⟨nd, rfl⟩⟩))
        go_quiet (fail)
        go_wp2
        go_ret3
        exact ⟨by first | rfl | (simp; done), (by repeat (first | (with_reducible exact HB.out) | (with_reducible apply pw_below_drewN) | (with_reducible apply below_drew1)))⟩
      · rw [if_neg c1] at h
        injection h with h
        injection h with e1 h
        injection h with e2 e3
        subst e1
        subst e2
        subst e3
        have HX := Aside0.mk (show impl_within.f a1 0 ji = some false by unfold impl_within.f; by_cases c9 : 0 ≤ a1 <;> simp [c9] <;> omega)
        clear c1 hji
        go_enter Try.func31, Try.ntmps31
        go_wp2_with (first | ((with_reducible refine gate_dst (N := 2) rfl ?_); refine box_event ?hg (N := 2) ?hd (cs := #[.slice A0_0 l0_0.length c0_0]) (t := 29) ?hr ?_; (case hd => rfl); (case hg => rfl); (case hr => first | (go_simp; done) | (go_simp; rfl)); intro b3 hg w1 hbox hb; have HB := Aside0.mk hb; have hz3 : w1.cell? ⟨b3, 0, none⟩ = some (.slice A0_0 l0_0.length c0_0) := (blk_cell hbox 0).trans rfl; clear hg hbox hb) | (go_at_call 59; (with_reducible refine (impl_root.calls k l0_0 HNP.out A0_0 c0_0 _ (Kd.C_below HP.out HB.out) HM.out _ HRS.out).mono ?_); rintro e w2 ⟨hb, hr⟩; obtain ⟨nt, h9, rfl, hs⟩ := hr.resolve_left (by rintro ⟨h, _⟩; cases h); injection h9 with h9; subst h9; have HR2 := Aside0.mk (rd_of hs); have n1_ := Aside0.mk (below_step HB.out hb); clear HB; have HB := n1_; clear n1_ hb hr hs hz3) | (go_at_call 66; (with_reducible refine (impl_all.calls0 nt.erase HSH.out _ ?side1 HZ1.out HZ2.out).mono ?_); (case side1 => repeat (first | exact HR2.out | (with_reducible refine Rd.drewN ?_ _) | (with_reducible refine Rd.drew ?_))); rintro e w5 ⟨u1, u2, rfl, ho1, ho2, hne, hb⟩; have HO1 := Aside0.mk (Kd.R_lower ho1 (show w.heap.size ≤ _ from HB.out.size)); have HO2 := Aside0.mk (Kd.R_lower ho2 (show w.heap.size ≤ _ from HB.out.size)); have HNE := Aside0.mk hne; have n1_ := Aside0.mk (below_step (by repeat (first | (with_reducible exact HB.out) | (with_reducible apply pw_below_drewN) | (with_reducible apply below_drew1))) hb); clear HB; have HB := n1_; clear n1_ hb ho1 ho2 hne; obtain ⟨B1, d1, rfl, hl1, hc1⟩ := Kd.R_reads HO1.out; obtain ⟨B2, d2, rfl, hl2, hc2⟩ := Kd.R_reads HO2.out; have HC1 := Aside0.mk hc1; have HC2 := Aside0.mk hc2; have HD1 := Aside0.mk hl1; have HD2 := Aside0.mk hl2; clear hl1 hl2 hc1 hc2) | (go_at_call 69; (with_reducible refine (impl_within.calls a1 0 ji false _ HX.out).mono ?_); rintro e w' ⟨rfl, ⟨nd, rfl⟩⟩))
        go_ret3
        exact ⟨by first | rfl | (simp; done), (by repeat (first | (with_reducible exact HB.out) | (with_reducible apply pw_below_drewN) | (with_reducible apply below_drew1)))⟩
  · rw [if_neg hok] at h
    cases h
def spec_KeysIn.f (l0_0 : List S110) : Option (List ByteArray × Bool) := if okP l0_0 = true then (match ofS l0_0 with | none => some ([], false) | some t => some (allK t, true)) else none
def impl_KeysIn.f (k : Nat) (l0_0 : List S110) : Option (List ByteArray × Bool) := if okP l0_0 = true then (rootI k l0_0).bind fun r => (match r with | none => some ([], false) | some t => some (allK t, true)) else none
theorem impl_KeysIn.mono : ∀ a0 k, LeO (impl_KeysIn.f k a0) (impl_KeysIn.f (k + 1) a0) := fun a0 k => LeO.ite (LeO.bind (rootI_mono _ _) fun _ => LeO.refl _) (LeO.refl _)
theorem spec_KeysIn.calls (A0_0 : Option Addr) (c0_0 : Nat) (l0_0 : List (S110)) (r1 : List ByteArray) (r2 : Bool) (w : World) (hr0_0 : Kd.C k110 w A0_0 l0_0.length l0_0) (hc0_0 : l0_0.length ≤ c0_0) (h : spec_KeysIn.f l0_0 = some (r1, r2)) :
    Calls Try.prog 24 #[.agg #[.slice A0_0 l0_0.length c0_0]] w fun e w' => ∃ v0_ : Value, e = .returned (.tuple #[v0_, .bool r2]) ∧ Kd.R Kd.string 9 w' w.heap.size (fun _ => True) v0_ r1 ∧ Below w.heap.size w w' := by
  unfold spec_KeysIn.f at h
  have HP := Aside0.mk hr0_0
  clear hr0_0 hc0_0
  by_cases hok : okP l0_0 = true
  · rw [if_pos hok] at h
    have HNP := Aside0.mk (okP_parts hok).1
    have HM := Aside0.mk (okP_parts hok).2
    cases hrs : ofS l0_0 with
    | none =>
      rw [hrs] at h
      injection h with h
      injection h with e1 e2
      subst e1
      subst e2
      have HRS := Aside0.mk hrs
      clear hrs hok
      go_enter Try.func24, Try.ntmps24
      go_wp2_with (first | ((with_reducible refine gate_dst (N := 1) rfl ?_); refine box_event ?hg (N := 1) ?hd (cs := #[.slice A0_0 l0_0.length c0_0]) (t := 29) ?hr ?_; (case hd => rfl); (case hg => rfl); (case hr => first | (go_simp; done) | (go_simp; rfl)); intro b3 hg w1 hbox hb; have HB := Aside0.mk hb; have hz3 : w1.cell? ⟨b3, 0, none⟩ = some (.slice A0_0 l0_0.length c0_0) := (blk_cell hbox 0).trans rfl; clear hg hbox hb) | (go_at_call 57; (with_reducible refine (spec_l5Of.calls l0_0 HNP.out A0_0 c0_0 _ (Kd.C_below HP.out HB.out) HM.out).mono ?_); rintro e w2 ⟨hb, hr⟩; rw [HRS.out] at hr; obtain ⟨-, rfl⟩ := hr.resolve_right (by rintro ⟨_, h, _⟩; cases h); have n1_ := Aside0.mk (below_step HB.out hb); clear HB; have HB := n1_; clear n1_ hb hr hz3))
      go_ret2
      exact ⟨_, rfl, Kd.R_nil _ _ _ _ _, HB.out⟩
    | some t =>
      rw [hrs] at h
      have HRS := Aside0.mk hrs
      have HSH := Aside0.mk (ofS_shp hrs)
      have HLN := Aside0.mk (ofS_len hrs HNP.out)
      have HZ1 := Aside0.mk (show (allK t).length ≤ 8796093022208 by have := HLN.out; omega)
      have HZ2 := Aside0.mk (show (allV t).length ≤ 8796093022208 by rw [allV_len HSH.out]; have := HLN.out; omega)
      have hln : (allK t).length ≤ 4000000000000 := HLN.out
      have HVK := Aside0.mk (allV_len HSH.out)
      injection h with h
      injection h with e1 e2
      subst e1
      subst e2
      clear hrs hok
      go_enter Try.func24, Try.ntmps24
      go_wp2_with (first | ((with_reducible refine gate_dst (N := 1) rfl ?_); refine box_event ?hg (N := 1) ?hd (cs := #[.slice A0_0 l0_0.length c0_0]) (t := 29) ?hr ?_; (case hd => rfl); (case hg => rfl); (case hr => first | (go_simp; done) | (go_simp; rfl)); intro b3 hg w1 hbox hb; have HB := Aside0.mk hb; have hz3 : w1.cell? ⟨b3, 0, none⟩ = some (.slice A0_0 l0_0.length c0_0) := (blk_cell hbox 0).trans rfl; clear hg hbox hb) | (go_at_call 57; (with_reducible refine (spec_l5Of.calls l0_0 HNP.out A0_0 c0_0 _ (Kd.C_below HP.out HB.out) HM.out).mono ?_); rintro e w2 ⟨hb, hr⟩; rw [HRS.out] at hr; obtain ⟨nt, h9, rfl, hs⟩ := hr.resolve_left (by rintro ⟨h, _⟩; cases h); injection h9 with h9; subst h9; have HR2 := Aside0.mk (rd_of hs); have n1_ := Aside0.mk (below_step HB.out hb); clear HB; have HB := n1_; clear n1_ hb hr hs hz3) | (go_at_call 65; (with_reducible refine (spec_all.calls0 nt.erase HSH.out _ ?side1 HZ1.out HZ2.out).mono ?_); (case side1 => repeat (first | exact HR2.out | (with_reducible refine Rd.drewN ?_ _) | (with_reducible refine Rd.drew ?_))); rintro e w5 ⟨u1, u2, rfl, ho1, ho2, hne, hb⟩; have HO1 := Aside0.mk (Kd.R_lower ho1 (show w.heap.size ≤ _ from HB.out.size)); have HO2 := Aside0.mk (Kd.R_lower ho2 (show w.heap.size ≤ _ from HB.out.size)); have HNE := Aside0.mk hne; have n1_ := Aside0.mk (below_step (by repeat (first | (with_reducible exact HB.out) | (with_reducible apply pw_below_drewN) | (with_reducible apply below_drew1))) hb); clear HB; have HB := n1_; clear n1_ hb ho1 ho2 hne; obtain ⟨B1, d1, rfl, hl1, hc1⟩ := Kd.R_reads HO1.out; obtain ⟨B2, d2, rfl, hl2, hc2⟩ := Kd.R_reads HO2.out; have HC1 := Aside0.mk hc1; have HC2 := Aside0.mk hc2; have HD1 := Aside0.mk hl1; have HD2 := Aside0.mk hl2; clear hl1 hl2 hc1 hc2))
      go_ret2
      exact ⟨_, rfl, by (with_reducible repeat (first | apply Kd.R_alloc | apply Kd.R_drewN | apply Kd.R_drew)); exact HO1.out, (by repeat (first | (with_reducible exact HB.out) | (with_reducible apply pw_below_drewN) | (with_reducible apply below_drew1)))⟩
  · rw [if_neg hok] at h
    cases h
theorem impl_KeysIn.calls (k : Nat) (A0_0 : Option Addr) (c0_0 : Nat) (l0_0 : List (S110)) (r1 : List ByteArray) (r2 : Bool) (w : World) (hr0_0 : Kd.C k110 w A0_0 l0_0.length l0_0) (hc0_0 : l0_0.length ≤ c0_0) (h : impl_KeysIn.f k l0_0 = some (r1, r2)) :
    Calls Try.prog 25 #[.agg #[.slice A0_0 l0_0.length c0_0]] w fun e w' => ∃ v0_ : Value, e = .returned (.tuple #[v0_, .bool r2]) ∧ Kd.R Kd.string 9 w' w.heap.size (fun _ => True) v0_ r1 ∧ Below w.heap.size w w' := by
  unfold impl_KeysIn.f at h
  have HP := Aside0.mk hr0_0
  clear hr0_0 hc0_0
  by_cases hok : okP l0_0 = true
  · rw [if_pos hok] at h
    have HNP := Aside0.mk (okP_parts hok).1
    have HM := Aside0.mk (okP_parts hok).2
    obtain ⟨o, hrs, h⟩ := Option.bind_eq_some_iff.mp h
    cases o with
    | none =>
      injection h with h
      injection h with e1 e2
      subst e1
      subst e2
      have HRS := Aside0.mk hrs
      clear hrs hok
      go_enter Try.func25, Try.ntmps25
      go_wp2_with (first | ((with_reducible refine gate_dst (N := 1) rfl ?_); refine box_event ?hg (N := 1) ?hd (cs := #[.slice A0_0 l0_0.length c0_0]) (t := 29) ?hr ?_; (case hd => rfl); (case hg => rfl); (case hr => first | (go_simp; done) | (go_simp; rfl)); intro b3 hg w1 hbox hb; have HB := Aside0.mk hb; have hz3 : w1.cell? ⟨b3, 0, none⟩ = some (.slice A0_0 l0_0.length c0_0) := (blk_cell hbox 0).trans rfl; clear hg hbox hb) | (go_at_call 59; (with_reducible refine (impl_root.calls k l0_0 HNP.out A0_0 c0_0 _ (Kd.C_below HP.out HB.out) HM.out _ HRS.out).mono ?_); rintro e w2 ⟨hb, hr⟩; obtain ⟨-, rfl⟩ := hr.resolve_right (by rintro ⟨_, h, _⟩; cases h); have n1_ := Aside0.mk (below_step HB.out hb); clear HB; have HB := n1_; clear n1_ hb hr hz3))
      go_ret2
      exact ⟨_, rfl, Kd.R_nil _ _ _ _ _, HB.out⟩
    | some t =>
      have HRS := Aside0.mk hrs
      have HSH := Aside0.mk (rootI_shp hrs)
      have HLN := Aside0.mk (rootI_len hrs HNP.out)
      have HZ1 := Aside0.mk (show (allK t).length ≤ 8796093022208 by have := HLN.out; omega)
      have HZ2 := Aside0.mk (show (allV t).length ≤ 8796093022208 by rw [allV_len HSH.out]; have := HLN.out; omega)
      have hln : (allK t).length ≤ 4000000000000 := HLN.out
      have HVK := Aside0.mk (allV_len HSH.out)
      injection h with h
      injection h with e1 e2
      subst e1
      subst e2
      clear hrs hok
      go_enter Try.func25, Try.ntmps25
      go_wp2_with (first | ((with_reducible refine gate_dst (N := 1) rfl ?_); refine box_event ?hg (N := 1) ?hd (cs := #[.slice A0_0 l0_0.length c0_0]) (t := 29) ?hr ?_; (case hd => rfl); (case hg => rfl); (case hr => first | (go_simp; done) | (go_simp; rfl)); intro b3 hg w1 hbox hb; have HB := Aside0.mk hb; have hz3 : w1.cell? ⟨b3, 0, none⟩ = some (.slice A0_0 l0_0.length c0_0) := (blk_cell hbox 0).trans rfl; clear hg hbox hb) | (go_at_call 59; (with_reducible refine (impl_root.calls k l0_0 HNP.out A0_0 c0_0 _ (Kd.C_below HP.out HB.out) HM.out _ HRS.out).mono ?_); rintro e w2 ⟨hb, hr⟩; obtain ⟨nt, h9, rfl, hs⟩ := hr.resolve_left (by rintro ⟨h, _⟩; cases h); injection h9 with h9; subst h9; have HR2 := Aside0.mk (rd_of hs); have n1_ := Aside0.mk (below_step HB.out hb); clear HB; have HB := n1_; clear n1_ hb hr hs hz3) | (go_at_call 66; (with_reducible refine (impl_all.calls0 nt.erase HSH.out _ ?side1 HZ1.out HZ2.out).mono ?_); (case side1 => repeat (first | exact HR2.out | (with_reducible refine Rd.drewN ?_ _) | (with_reducible refine Rd.drew ?_))); rintro e w5 ⟨u1, u2, rfl, ho1, ho2, hne, hb⟩; have HO1 := Aside0.mk (Kd.R_lower ho1 (show w.heap.size ≤ _ from HB.out.size)); have HO2 := Aside0.mk (Kd.R_lower ho2 (show w.heap.size ≤ _ from HB.out.size)); have HNE := Aside0.mk hne; have n1_ := Aside0.mk (below_step (by repeat (first | (with_reducible exact HB.out) | (with_reducible apply pw_below_drewN) | (with_reducible apply below_drew1))) hb); clear HB; have HB := n1_; clear n1_ hb ho1 ho2 hne; obtain ⟨B1, d1, rfl, hl1, hc1⟩ := Kd.R_reads HO1.out; obtain ⟨B2, d2, rfl, hl2, hc2⟩ := Kd.R_reads HO2.out; have HC1 := Aside0.mk hc1; have HC2 := Aside0.mk hc2; have HD1 := Aside0.mk hl1; have HD2 := Aside0.mk hl2; clear hl1 hl2 hc1 hc2))
      go_ret2
      exact ⟨_, rfl, by (with_reducible repeat (first | apply Kd.R_alloc | apply Kd.R_drewN | apply Kd.R_drew)); exact HO1.out, (by repeat (first | (with_reducible exact HB.out) | (with_reducible apply pw_below_drewN) | (with_reducible apply below_drew1)))⟩
  · rw [if_neg hok] at h
    cases h
end Go.Proofs.Ytoddejmlcnbdmaa.Fn
namespace Go.Proofs.Ytoddejmlcnbdmaa.Fn
open Go.RowKit Go.Proofs.YtoddejmlcnbdmaaW.PrintWords Go.Proofs.YtoddejmlcnbdmaaW.PrintLast Go.Proofs.YtoddejmlcnbdmaaW.PrintMore
attribute [local go_sem] max2_int min2_int max_two min_two max_three min_three max_four min_four   -- for this text's walks alone
set_option linter.unusedVariables false
set_option linter.unusedSimpArgs false

/-! ### laws_FnExactAtPlace: function 7 -/
def laws_FnExactAtPlace.j0 : Nat → Bool → List (S115) → List (S110) → Option (Bool)
  | 0, _, _, _ => none
  | k + 1, x47, x186000, x197000 => if x47 = true then (some false) else ((laws_toTree.f k x186000).bind fun t200 => ((laws_eqTree.f k x197000 t200).bind fun t203 => (if t203 = true then (some true) else (some false))))
def laws_FnExactAtPlace.f (k : Nat) (l0_0 : List (S115)) (a1 : Int) : Option (Bool) := (laws_szTree.f k l0_0 1048576).bind fun t186 => (if t186 < 0 then (some true) else ((laws_toTree.f k l0_0).bind fun t187 => ((spec_AtPlace.f t187 a1).bind fun bt190 => ((laws_toTree.f k l0_0).bind fun t193 => ((impl_AtPlace.f k t193 a1).bind fun bt197 => (if bt197.1.toList = bt190.1.toList then (if bt197.2.1.toList = bt190.2.1.toList then (laws_FnExactAtPlace.j0 k (bt197.2.2 != bt190.2.2) l0_0 t193) else (laws_FnExactAtPlace.j0 k true l0_0 t193)) else (laws_FnExactAtPlace.j0 k true l0_0 t193)))))))
theorem laws_FnExactAtPlace.mono_l : ∀ k, (∀ y0 y1 y2, LeO (laws_FnExactAtPlace.j0 k y0 y1 y2) (laws_FnExactAtPlace.j0 (k + 1) y0 y1 y2))
  | 0 => fun _ _ _ r h => by simp [laws_FnExactAtPlace.j0] at h
  | k + 1 => by
    have ih0 := laws_FnExactAtPlace.mono_l k
    · intro y0 y1 y2
      unfold laws_FnExactAtPlace.j0
      repeat' first
      | (with_reducible exact ih0 _ _ _)
      | (with_reducible exact impl_AtPlace.mono _ _ _)
      | (with_reducible exact laws_eqTree.mono _ _ _)
      | (with_reducible exact laws_szTree.mono _ _ _)
      | (with_reducible exact laws_toTree.mono _ _)
      | (with_reducible exact LeO.refl _)
      | (with_reducible exact LeO.none _)
      | (with_reducible refine LeO.ite ?_ ?_)
      | (with_reducible refine LeO.bind ?_ (fun _ => ?_))
      | exact ih0 _ _ _
      | exact impl_AtPlace.mono _ _ _
      | exact laws_eqTree.mono _ _ _
      | exact laws_szTree.mono _ _ _
      | exact laws_toTree.mono _ _
      | exact LeO.none _
      | refine LeO.ite ?_ ?_
      | refine LeO.bind ?_ (fun _ => ?_)
theorem laws_FnExactAtPlace.mono : ∀ a0 a1 k, LeO (laws_FnExactAtPlace.f k a0 a1) (laws_FnExactAtPlace.f (k + 1) a0 a1) := by
  intro a0 a1 k
  have ih0 := laws_FnExactAtPlace.mono_l k
  unfold laws_FnExactAtPlace.f
  repeat' first
      | (with_reducible exact ih0 _ _ _)
      | (with_reducible exact impl_AtPlace.mono _ _ _)
      | (with_reducible exact laws_eqTree.mono _ _ _)
      | (with_reducible exact laws_szTree.mono _ _ _)
      | (with_reducible exact laws_toTree.mono _ _)
      | (with_reducible exact LeO.refl _)
      | (with_reducible exact LeO.none _)
      | (with_reducible refine LeO.ite ?_ ?_)
      | (with_reducible refine LeO.bind ?_ (fun _ => ?_))
      | exact ih0 _ _ _
      | exact impl_AtPlace.mono _ _ _
      | exact laws_eqTree.mono _ _ _
      | exact laws_szTree.mono _ _ _
      | exact laws_toTree.mono _ _
      | exact LeO.none _
      | refine LeO.ite ?_ ?_
      | refine LeO.bind ?_ (fun _ => ?_)
set_option maxHeartbeats 8000000 in
set_option maxRecDepth 100000 in
theorem laws_FnExactAtPlace.calls (k : Nat) (A0_0 : Option Addr) (c0_0 : Nat) (l0_0 : List (S115)) (a1 : Int) (r : Bool) (w : World) (hr0_0 : Kd.C k115 w A0_0 l0_0.length l0_0) (hc0_0 : l0_0.length ≤ c0_0) (h : laws_FnExactAtPlace.f k l0_0 a1 = some r) (ht : r = true) :
    Calls Try.prog 7 #[.agg #[.slice A0_0 l0_0.length c0_0], .int .i64 a1] w fun e w' => e = .returned (.bool r) ∧ Below w.heap.size w w' := by
  have HT := Aside0.mk ht
  clear ht
  have hu24 := Try.underlying24
  have hu29 := Try.underlying29
  have HR0_0 := Aside0.mk hr0_0
  have HC0_0 := Aside0.mk hc0_0
  clear hr0_0 hc0_0
  have HB := Aside0.mk (Below.refl w.heap.size w)
  have H : ((laws_szTree.f k l0_0 1048576).bind fun t186 => (if t186 < 0 then (some true) else ((laws_toTree.f k l0_0).bind fun t187 => ((spec_AtPlace.f t187 a1).bind fun bt190 => ((laws_toTree.f k l0_0).bind fun t193 => ((impl_AtPlace.f k t193 a1).bind fun bt197 => (if bt197.1.toList = bt190.1.toList then (if bt197.2.1.toList = bt190.2.1.toList then (laws_FnExactAtPlace.j0 k (bt197.2.2 != bt190.2.2) l0_0 t193) else (laws_FnExactAtPlace.j0 k true l0_0 t193)) else (laws_FnExactAtPlace.j0 k true l0_0 t193)))))))) = some r := h
  clear h
  replace H := Option.bind_eq_some_iff.mp H
  obtain ⟨t186, A30, H⟩ := H
  replace H : (if t186 < 0 then (some true) else ((laws_toTree.f k l0_0).bind fun t187 => ((spec_AtPlace.f t187 a1).bind fun bt190 => ((laws_toTree.f k l0_0).bind fun t193 => ((impl_AtPlace.f k t193 a1).bind fun bt197 => (if bt197.1.toList = bt190.1.toList then (if bt197.2.1.toList = bt190.2.1.toList then (laws_FnExactAtPlace.j0 k (bt197.2.2 != bt190.2.2) l0_0 t193) else (laws_FnExactAtPlace.j0 k true l0_0 t193)) else (laws_FnExactAtPlace.j0 k true l0_0 t193))))))) = some r := H
  have A3 := Aside0.mk A30
  clear A30
  by_cases c4 : t186 < 0
  · rw [if_pos c4] at H
    have c4b0 : decide (t186 < 0) = true := decide_eq_true c4
    clear c4
    obtain rfl := Option.some.inj H
    go_enter Try.func7, Try.ntmps7
    go_wp2_with (first | ((with_reducible refine gate_dst (N := 2) rfl ?_); refine box_event ?hg (N := 2) ?hd (cs := #[.slice A0_0 l0_0.length c0_0]) (t := 24) ?hr ?_; (case hd => rfl); (case hg => rfl); (case hr => first | (go_simp; done) | (go_simp; rfl)); intro gb185 hg w5 hbox hb; have n0_ := Aside0.mk (below_step (by repeat (first | (with_reducible first | exact HB.out | apply below_alloc | apply pw_below_drewN | apply below_drew1) | exact HB.out)) hb); have n1_ := Aside0.mk (hbox); have n2_ := Aside0.mk ((by rw [hg]; exact (below_size (by repeat (first | (with_reducible first | exact HB.out | apply below_alloc | apply pw_below_drewN | apply below_drew1) | exact HB.out))) : w.heap.size ≤ gb185)); have n3_ := Aside0.mk ((by rw [hg]; exact (below_size (by repeat (first | (with_reducible first | exact HB.out | apply below_alloc | apply pw_below_drewN | apply below_drew1) | exact HB.out))) : w.heap.size ≤ gb185)); clear HB; have HB := n0_; have BK185 := n1_; have GW185 := n2_; have GE185 := n3_; clear n0_ n1_ n2_ n3_; clear hb hbox hg; have hcz6_0 : w5.cell? ⟨gb185, 0, none⟩ = some (.slice A0_0 l0_0.length c0_0) := (blk_cell BK185.out 0).trans rfl; have hfz6_0 := blk_frozen BK185.out 0) | ((with_reducible refine gate_callee (f := 15) rfl ?_); refine goesL_ (some 15) rfl rfl Try.func15 (by kernel_rfl) rfl #[.agg #[.slice A0_0 l0_0.length c0_0], .int .i64 1048576] rfl (by (try simp only [List.map_toArray, List.map_cons, List.map_nil]); first | done | rfl | (simp only [List.length_drop, List.length_take]; rfl)) ?_; (with_reducible refine (laws_szTree.calls k _ _ l0_0 1048576 t186 _ ?side1 ?side2 A3.out).mono ?_); (case side1 => repeat (first | exact (Kd.C_below HR0_0.out HB.out) | (with_reducible refine Kd.C_alloc ?_ _) | (with_reducible refine Kd.C_drewN ?_ _) | (with_reducible refine Kd.C_drew ?_))); (case side2 => exact HC0_0.out); rintro e w7 ⟨rfl, hb⟩; refine ⟨_, rfl, ?_⟩; have n0_ := Aside0.mk (blk_below (g := gb185) (o := .cells #[.slice A0_0 l0_0.length c0_0] 24 (0, 0)) (by (with_reducible repeat (first | refine blk_drewN ?_ _ | refine blk_drew ?_ | refine blk_alloc ?_ _)); exact BK185.out) hb); have n1_ := Aside0.mk (below_step (by repeat (first | (with_reducible first | exact HB.out | apply below_alloc | apply pw_below_drewN | apply below_drew1 | refine below_set ?_ GE185.out) | exact HB.out)) hb); clear BK185; clear HB; have BK185 := n0_; have HB := n1_; clear n0_ n1_; (try clear hb); (try clear hb2); (try clear hk); (try clear hi)))
    go_ret
    exact ⟨by first | rfl | (simp [errW_none, errW_some] <;> rfl) | (simp [*, errW_none, errW_some] <;> rfl), by repeat (first | (with_reducible first | exact HB.out | apply below_alloc | apply pw_below_drewN | apply below_drew1 | refine below_set ?_ GE185.out) | exact HB.out)⟩
  · rw [if_neg c4] at H
    have c4b0 : decide (t186 < 0) = false := decide_eq_false c4
    clear c4
    replace H := Option.bind_eq_some_iff.mp H
    obtain ⟨t187, A80, H⟩ := H
    replace H : ((spec_AtPlace.f t187 a1).bind fun bt190 => ((laws_toTree.f k l0_0).bind fun t193 => ((impl_AtPlace.f k t193 a1).bind fun bt197 => (if bt197.1.toList = bt190.1.toList then (if bt197.2.1.toList = bt190.2.1.toList then (laws_FnExactAtPlace.j0 k (bt197.2.2 != bt190.2.2) l0_0 t193) else (laws_FnExactAtPlace.j0 k true l0_0 t193)) else (laws_FnExactAtPlace.j0 k true l0_0 t193))))) = some r := H
    have A8 := Aside0.mk A80
    clear A80
    replace H := Option.bind_eq_some_iff.mp H
    obtain ⟨⟨t190, t191, t192⟩, A90, H⟩ := H
    replace H : ((laws_toTree.f k l0_0).bind fun t193 => ((impl_AtPlace.f k t193 a1).bind fun bt197 => (if bt197.1.toList = t190.toList then (if bt197.2.1.toList = t191.toList then (laws_FnExactAtPlace.j0 k (bt197.2.2 != t192) l0_0 t193) else (laws_FnExactAtPlace.j0 k true l0_0 t193)) else (laws_FnExactAtPlace.j0 k true l0_0 t193)))) = some r := H
    have A9 := Aside0.mk A90
    clear A90
    replace H := Option.bind_eq_some_iff.mp H
    obtain ⟨t193, A100, H⟩ := H
    replace H : ((impl_AtPlace.f k t193 a1).bind fun bt197 => (if bt197.1.toList = t190.toList then (if bt197.2.1.toList = t191.toList then (laws_FnExactAtPlace.j0 k (bt197.2.2 != t192) l0_0 t193) else (laws_FnExactAtPlace.j0 k true l0_0 t193)) else (laws_FnExactAtPlace.j0 k true l0_0 t193))) = some r := H
    have A10 := Aside0.mk A100
    clear A100
    replace H := Option.bind_eq_some_iff.mp H
    obtain ⟨⟨t197, t198, t199⟩, A110, H⟩ := H
    replace H : (if t197.toList = t190.toList then (if t198.toList = t191.toList then (laws_FnExactAtPlace.j0 k (t199 != t192) l0_0 t193) else (laws_FnExactAtPlace.j0 k true l0_0 t193)) else (laws_FnExactAtPlace.j0 k true l0_0 t193)) = some r := H
    have A11 := Aside0.mk A110
    clear A110
    have HC12 := Aside0.mk H
    clear H
    go_enter Try.func7, Try.ntmps7
    go_upto_region 8 with (first | ((with_reducible refine gate_dst (N := 2) rfl ?_); refine box_event ?hg (N := 2) ?hd (cs := #[.slice A0_0 l0_0.length c0_0]) (t := 24) ?hr ?_; (case hd => rfl); (case hg => rfl); (case hr => first | (go_simp; done) | (go_simp; rfl)); intro gb185 hg w13 hbox hb; have n0_ := Aside0.mk (below_step (by repeat (first | (with_reducible first | exact HB.out | apply below_alloc | apply pw_below_drewN | apply below_drew1) | exact HB.out)) hb); have n1_ := Aside0.mk (hbox); have n2_ := Aside0.mk ((by rw [hg]; exact (below_size (by repeat (first | (with_reducible first | exact HB.out | apply below_alloc | apply pw_below_drewN | apply below_drew1) | exact HB.out))) : w.heap.size ≤ gb185)); have n3_ := Aside0.mk ((by rw [hg]; exact (below_size (by repeat (first | (with_reducible first | exact HB.out | apply below_alloc | apply pw_below_drewN | apply below_drew1) | exact HB.out))) : w.heap.size ≤ gb185)); clear HB; have HB := n0_; have BK185 := n1_; have GW185 := n2_; have GE185 := n3_; clear n0_ n1_ n2_ n3_; clear hb hbox hg; have hcz14_0 : w13.cell? ⟨gb185, 0, none⟩ = some (.slice A0_0 l0_0.length c0_0) := (blk_cell BK185.out 0).trans rfl; have hfz14_0 := blk_frozen BK185.out 0) | ((with_reducible refine gate_callee (f := 15) rfl ?_); refine goesL_ (some 15) rfl rfl Try.func15 (by kernel_rfl) rfl #[.agg #[.slice A0_0 l0_0.length c0_0], .int .i64 1048576] rfl (by (try simp only [List.map_toArray, List.map_cons, List.map_nil]); first | done | rfl | (simp only [List.length_drop, List.length_take]; rfl)) ?_; (with_reducible refine (laws_szTree.calls k _ _ l0_0 1048576 t186 _ ?side1 ?side2 A3.out).mono ?_); (case side1 => repeat (first | exact (Kd.C_below HR0_0.out HB.out) | (with_reducible refine Kd.C_alloc ?_ _) | (with_reducible refine Kd.C_drewN ?_ _) | (with_reducible refine Kd.C_drew ?_))); (case side2 => exact HC0_0.out); rintro e w15 ⟨rfl, hb⟩; refine ⟨_, rfl, ?_⟩; have n0_ := Aside0.mk (blk_below (g := gb185) (o := .cells #[.slice A0_0 l0_0.length c0_0] 24 (0, 0)) (by (with_reducible repeat (first | refine blk_drewN ?_ _ | refine blk_drew ?_ | refine blk_alloc ?_ _)); exact BK185.out) hb); have n1_ := Aside0.mk (below_step (by repeat (first | (with_reducible first | exact HB.out | apply below_alloc | apply pw_below_drewN | apply below_drew1 | refine below_set ?_ GE185.out) | exact HB.out)) hb); clear BK185; clear HB; have BK185 := n0_; have HB := n1_; clear n0_ n1_; (try clear hb); (try clear hb2); (try clear hk); (try clear hi); have hcz16_0 : w15.cell? ⟨gb185, 0, none⟩ = some (.slice A0_0 l0_0.length c0_0) := (blk_cell BK185.out 0).trans rfl; have hfz16_0 := blk_frozen BK185.out 0) | ((with_reducible refine gate_callee (f := 17) rfl ?_); refine goesL_ (some 20) rfl rfl Try.func17 (by kernel_rfl) rfl #[.agg #[.slice A0_0 l0_0.length c0_0]] rfl (by (try simp only [List.map_toArray, List.map_cons, List.map_nil]); first | done | rfl | (simp only [List.length_drop, List.length_take]; rfl)) ?_; (with_reducible refine (laws_toTree.calls k _ _ l0_0 t187 _ ?side1 ?side2 A8.out).mono ?_); (case side1 => repeat (first | exact (Kd.C_below HR0_0.out HB.out) | (with_reducible refine Kd.C_alloc ?_ _) | (with_reducible refine Kd.C_drewN ?_ _) | (with_reducible refine Kd.C_drew ?_))); (case side2 => exact HC0_0.out); rintro e w17 ⟨v188, rfl, ho0, hb⟩; refine ⟨_, rfl, ?_⟩; have n0_ := Aside0.mk (Kd.S_lower ho0 (below_size (by repeat (first | (with_reducible first | exact HB.out | apply below_alloc | apply pw_below_drewN | apply below_drew1 | refine below_set ?_ GE185.out) | exact HB.out)))); have n1_ := Aside0.mk (blk_below (g := gb185) (o := .cells #[.slice A0_0 l0_0.length c0_0] 24 (0, 0)) (by (with_reducible repeat (first | refine blk_drewN ?_ _ | refine blk_drew ?_ | refine blk_alloc ?_ _)); exact BK185.out) hb); have n2_ := Aside0.mk (below_step (by repeat (first | (with_reducible first | exact HB.out | apply below_alloc | apply pw_below_drewN | apply below_drew1 | refine below_set ?_ GE185.out) | exact HB.out)) hb); clear BK185; clear HB; have HO189 := n0_; have BK185 := n1_; have HB := n2_; clear n0_ n1_ n2_; (try clear hb); (try clear hb2); (try clear hk); (try clear hi); (try clear ho0); obtain ⟨Ao18, co18, eo18⟩ := Kd.S_slice HO189.out; subst eo18) | ((with_reducible refine gate_callee (f := 30) rfl ?_); refine goesL_ (some 22) rfl rfl Try.func30 (by kernel_rfl) rfl #[.agg #[.slice Ao18 t187.length co18], .int .i64 a1] rfl (by (try simp only [List.map_toArray, List.map_cons, List.map_nil]); first | done | rfl | (simp only [List.length_drop, List.length_take]; rfl)) ?_; (with_reducible refine (spec_AtPlace.calls _ _ t187 a1 t190 t191 t192 _ ?side1 ?side2 A9.out).mono ?_); (case side1 => repeat (first | exact (Kd.S_reads' HO189.out).2.2 | (with_reducible refine Kd.C_alloc ?_ _) | (with_reducible refine Kd.C_drewN ?_ _) | (with_reducible refine Kd.C_drew ?_))); (case side2 => exact (Kd.S_reads' HO189.out).2.1); rintro e w19 ⟨rfl, hb⟩; refine ⟨_, rfl, ?_⟩; have n0_ := Aside0.mk (Kd.S_below (by (with_reducible repeat (first | apply Kd.S_alloc | apply Kd.S_drewN | apply Kd.S_drew)); exact HO189.out) hb); have n1_ := Aside0.mk (blk_below (g := gb185) (o := .cells #[.slice A0_0 l0_0.length c0_0] 24 (0, 0)) (by (with_reducible repeat (first | refine blk_drewN ?_ _ | refine blk_drew ?_ | refine blk_alloc ?_ _)); exact BK185.out) hb); have n2_ := Aside0.mk (below_step (by repeat (first | (with_reducible first | exact HB.out | apply below_alloc | apply pw_below_drewN | apply below_drew1 | refine below_set ?_ GE185.out) | exact HB.out)) hb); clear HO189; clear BK185; clear HB; have HO189 := n0_; have BK185 := n1_; have HB := n2_; clear n0_ n1_ n2_; (try clear hb); (try clear hb2); (try clear hk); (try clear hi); have hcz20_0 : w19.cell? ⟨gb185, 0, none⟩ = some (.slice A0_0 l0_0.length c0_0) := (blk_cell BK185.out 0).trans rfl; have hfz20_0 := blk_frozen BK185.out 0) | ((with_reducible refine gate_callee (f := 17) rfl ?_); refine goesL_ (some 27) rfl rfl Try.func17 (by kernel_rfl) rfl #[.agg #[.slice A0_0 l0_0.length c0_0]] rfl (by (try simp only [List.map_toArray, List.map_cons, List.map_nil]); first | done | rfl | (simp only [List.length_drop, List.length_take]; rfl)) ?_; (with_reducible refine (laws_toTree.calls k _ _ l0_0 t193 _ ?side1 ?side2 A10.out).mono ?_); (case side1 => repeat (first | exact (Kd.C_below HR0_0.out HB.out) | (with_reducible refine Kd.C_alloc ?_ _) | (with_reducible refine Kd.C_drewN ?_ _) | (with_reducible refine Kd.C_drew ?_))); (case side2 => exact HC0_0.out); rintro e w21 ⟨v194, rfl, ho0, hb⟩; refine ⟨_, rfl, ?_⟩; have n0_ := Aside0.mk (Kd.S_elder' (by (with_reducible repeat (first | apply Kd.S_alloc | apply Kd.S_drewN | apply Kd.S_drew)); exact HO189.out) (Kd.S_base ho0) hb); have n1_ := Aside0.mk (Kd.S_lower (Kd.S_new' ho0 (Kd.S_lt (by (with_reducible repeat (first | apply Kd.S_alloc | apply Kd.S_drewN | apply Kd.S_drew)); exact HO189.out))) (below_size (by repeat (first | (with_reducible first | exact HB.out | apply below_alloc | apply pw_below_drewN | apply below_drew1 | refine below_set ?_ GE185.out) | exact HB.out)))); have n2_ := Aside0.mk (blk_below (g := gb185) (o := .cells #[.slice A0_0 l0_0.length c0_0] 24 (0, 0)) (by (with_reducible repeat (first | refine blk_drewN ?_ _ | refine blk_drew ?_ | refine blk_alloc ?_ _)); exact BK185.out) hb); have n3_ := Aside0.mk (below_step (by repeat (first | (with_reducible first | exact HB.out | apply below_alloc | apply pw_below_drewN | apply below_drew1 | refine below_set ?_ GE185.out) | exact HB.out)) hb); clear HO189; clear BK185; clear HB; have HO189 := n0_; have HO195 := n1_; have BK185 := n2_; have HB := n3_; clear n0_ n1_ n2_ n3_; (try clear hb); (try clear hb2); (try clear hk); (try clear hi); (try clear ho0)) | ((with_reducible refine gate_dst (N := 9) rfl ?_); refine box_event ?hg (N := 9) ?hd (cs := #[.slice none 0 0]) (t := 29) ?hr ?_; (case hd => rfl); (case hg => rfl); (case hr => first | (go_simp; done) | (go_simp; rfl)); intro gb196 hg w22 hbox hb; have n0_ := Aside0.mk (Kd.S_below (by (with_reducible repeat (first | apply Kd.S_alloc | apply Kd.S_drewN | apply Kd.S_drew)); exact HO189.out) hb); have n1_ := Aside0.mk (Kd.S_below (by (with_reducible repeat (first | apply Kd.S_alloc | apply Kd.S_drewN | apply Kd.S_drew)); exact HO195.out) hb); have n2_ := Aside0.mk (blk_below (g := gb185) (o := .cells #[.slice A0_0 l0_0.length c0_0] 24 (0, 0)) (by (with_reducible repeat (first | refine blk_drewN ?_ _ | refine blk_drew ?_ | refine blk_alloc ?_ _)); exact BK185.out) hb); have n3_ := Aside0.mk (below_step (by repeat (first | (with_reducible first | exact HB.out | apply below_alloc | apply pw_below_drewN | apply below_drew1 | refine below_set ?_ GE185.out) | exact HB.out)) hb); have n4_ := Aside0.mk (hbox); have n5_ := Aside0.mk ((by rw [hg]; exact (below_size (by repeat (first | (with_reducible first | exact HB.out | apply below_alloc | apply pw_below_drewN | apply below_drew1 | refine below_set ?_ GE185.out) | exact HB.out))) : w.heap.size ≤ gb196)); have n6_ := Aside0.mk ((by rw [hg]; exact (below_size (by repeat (first | (with_reducible first | exact HB.out | apply below_alloc | apply pw_below_drewN | apply below_drew1 | refine below_set ?_ GE185.out) | exact HB.out))) : w.heap.size ≤ gb196)); have n7_ := Aside0.mk ((by rw [hg]; exact Nat.ne_of_lt (blk_lt (g := gb185) (o := .cells #[.slice A0_0 l0_0.length c0_0] 24 (0, 0)) (by (with_reducible repeat (first | refine blk_drewN ?_ _ | refine blk_drew ?_ | refine blk_alloc ?_ _)); exact BK185.out)) : gb185 ≠ gb196)); have n8_ := Aside0.mk ((by rw [hg]; exact Nat.ne_of_gt (blk_lt (g := gb185) (o := .cells #[.slice A0_0 l0_0.length c0_0] 24 (0, 0)) (by (with_reducible repeat (first | refine blk_drewN ?_ _ | refine blk_drew ?_ | refine blk_alloc ?_ _)); exact BK185.out)) : gb196 ≠ gb185)); clear HO189; clear HO195; clear BK185; clear HB; have HO189 := n0_; have HO195 := n1_; have BK185 := n2_; have HB := n3_; have BK196 := n4_; have GW196 := n5_; have GE196 := n6_; have NB185_196 := n7_; have NB196_185 := n8_; clear n0_ n1_ n2_ n3_ n4_ n5_ n6_ n7_ n8_; clear hb hbox hg; obtain ⟨Ao23, co23, eo23⟩ := Kd.S_slice HO195.out; subst eo23; have hnb24 := NB196_185.out; have hnc24 := NB185_196.out; have hcz25_0 : w22.cell? ⟨gb196, 0, none⟩ = some (.slice none 0 0) := (blk_cell BK196.out 0).trans rfl; have hfz25_0 := blk_frozen BK196.out 0) | ((with_reducible refine gate_callee (f := 31) rfl ?_); refine goesL_ (some 31) rfl rfl Try.func31 (by kernel_rfl) rfl #[.agg #[.slice Ao23 t193.length co23], .int .i64 a1] rfl (by (try simp only [List.map_toArray, List.map_cons, List.map_nil]); first | done | rfl | (simp only [List.length_drop, List.length_take]; rfl)) ?_; (with_reducible refine (impl_AtPlace.calls k _ _ t193 a1 t197 t198 t199 _ ?side1 ?side2 A11.out).mono ?_); (case side1 => refine (Kd.S_reads' (e := 110) (base := w.heap.size) (ok := fun k_ => (True ∧ some k_ ≠ (.slice Ao18 t187.length co18 : Value).ownBlock)) (n := t193.length) (c := co23) ?_).2.2; exact (by (with_reducible repeat (first | apply Kd.S_alloc | apply Kd.S_drewN | apply Kd.S_drew)); exact (Kd.S_mono (Kd.S_far (p := ⟨gb196, 0, none⟩) (Kd.S_types HO195.out BK196.out (by decide)) (fun _ hk => hk.2) (.slice Ao23 t193.length co23)) (fun _ h_ => h_.1)))); (case side2 => exact (Kd.S_reads' HO195.out).2.1); rintro e w26 ⟨rfl, hb⟩; refine ⟨_, rfl, ?_⟩; have n0_ := Aside0.mk (Kd.S_below (by (with_reducible repeat (first | apply Kd.S_alloc | apply Kd.S_drewN | apply Kd.S_drew)); exact (Kd.S_mono (Kd.S_far (p := ⟨gb196, 0, none⟩) (Kd.S_types HO189.out BK196.out (by decide)) (fun _ hk => hk.2) (.slice Ao23 t193.length co23)) (fun _ h_ => h_.1))) hb); have n1_ := Aside0.mk (Kd.S_below (by (with_reducible repeat (first | apply Kd.S_alloc | apply Kd.S_drewN | apply Kd.S_drew)); exact (Kd.S_mono (Kd.S_far (p := ⟨gb196, 0, none⟩) (Kd.S_types HO195.out BK196.out (by decide)) (fun _ hk => hk.2) (.slice Ao23 t193.length co23)) (fun _ h_ => h_.1))) hb); have n2_ := Aside0.mk (blk_below (g := gb185) (o := .cells #[.slice A0_0 l0_0.length c0_0] 24 (0, 0)) (by (with_reducible repeat (first | refine blk_drewN ?_ _ | refine blk_drew ?_ | refine blk_alloc ?_ _)); refine blk_far ?_ NB185_196.out _; (with_reducible repeat (first | refine blk_drewN ?_ _ | refine blk_drew ?_ | refine blk_alloc ?_ _)); exact BK185.out) hb); have n3_ := Aside0.mk (blk_below (g := gb196) (o := .cells #[.slice Ao23 t193.length co23] 29 (0, 0)) (by (with_reducible repeat (first | refine blk_drewN ?_ _ | refine blk_drew ?_ | refine blk_alloc ?_ _)); refine blk_put (cs := #[.slice none 0 0]) ?_ 0 _ rfl; (with_reducible repeat (first | refine blk_drewN ?_ _ | refine blk_drew ?_ | refine blk_alloc ?_ _)); exact BK196.out) hb); have n4_ := Aside0.mk (below_step (by repeat (first | (with_reducible first | exact HB.out | apply below_alloc | apply pw_below_drewN | apply below_drew1 | refine below_set ?_ GE185.out | refine below_set ?_ GE196.out) | exact HB.out)) hb); clear HO189; clear HO195; clear BK185; clear BK196; clear HB; have HO189 := n0_; have HO195 := n1_; have BK185 := n2_; have BK196 := n3_; have HB := n4_; clear n0_ n1_ n2_ n3_ n4_; (try clear hb); (try clear hb2); (try clear hk); (try clear hi)))
    (try simp only [Act.put, List.setIfInBounds_toArray, List.set_cons_zero, List.set_cons_succ])
    go_cut [47] (fun v47 wc => ∃ (kq : Nat) (x47_11 : Bool), v47 = .bool x47_11 ∧ Aside0 (laws_FnExactAtPlace.j0 kq x47_11 l0_0 t193 = some r) ∧ Aside0 (kq ≤ k) ∧ Aside0 (Kd.S k110 110 wc w.heap.size (fun _ => True) (.slice Ao23 t193.length co23) t193) ∧ Aside0 (wc.heap[gb185]? = some (.cells #[(.slice A0_0 l0_0.length c0_0)] 24 (0, 0))) ∧ Aside0 (wc.heap[gb196]? = some (.cells #[(.slice Ao23 t193.length co23)] 29 (0, 0))) ∧ Aside0 (Below w.heap.size w wc))
    case first =>
      have H := HC12.out
      clear HC12
      by_cases c27 : t197.toList = t190.toList
      · rw [if_pos c27] at H
        have c27b0 : (t197.toList == t190.toList) = true := beq_iff_eq.mpr c27
        have c27b1 : (t197.toList != t190.toList) = false := bne_eq_false_iff_eq.mpr c27
        clear c27
        (first | rw [c27b0] | (simp only [i64_w, i32_w]; rw [c27b0]) | rw [c27b1] | skip)
        by_cases c28 : t198.toList = t191.toList
        · rw [if_pos c28] at H
          have c28b0 : (t198.toList == t191.toList) = true := beq_iff_eq.mpr c28
          have c28b1 : (t198.toList != t191.toList) = false := bne_eq_false_iff_eq.mpr c28
          clear c28
          have H' := Aside0.mk H
          clear H
          go_wp2
          go_meet
          case rel => exact ⟨_, ((t199 != t192)), (by first | rfl | (simp; done) | (simp [*]; done)), H', ⟨by first | omega | exact Nat.le_refl _⟩, ⟨by (with_reducible repeat (first | apply Kd.S_alloc | apply Kd.S_drewN | apply Kd.S_drew)); exact Kd.S_mono HO195.out (fun _ hk => trivial)⟩, ⟨by (with_reducible repeat (first | refine blk_drewN ?_ _ | refine blk_drew ?_ | refine blk_alloc ?_ _)); exact BK185.out⟩, ⟨by (with_reducible repeat (first | refine blk_drewN ?_ _ | refine blk_drew ?_ | refine blk_alloc ?_ _)); exact BK196.out⟩, ⟨by repeat (first | (with_reducible first | exact HB.out | apply below_alloc | apply pw_below_drewN | apply below_drew1 | refine below_set ?_ GE185.out | refine below_set ?_ GE196.out) | exact HB.out)⟩⟩
        · rw [if_neg c28] at H
          have c28b0 : (t198.toList == t191.toList) = false := beq_eq_false_iff_ne.mpr c28
          have c28b1 : (t198.toList != t191.toList) = true := bne_iff_ne.mpr c28
          exact (Go.Proofs.Ytoddejmlcnbdmaa.Gen.no_true H (by cases k <;> simp [laws_FnExactAtPlace.j0]) HT.out).elim
      · rw [if_neg c27] at H
        have c27b0 : (t197.toList == t190.toList) = false := beq_eq_false_iff_ne.mpr c27
        have c27b1 : (t197.toList != t190.toList) = true := bne_iff_ne.mpr c27
        (first | rw [c27b0] | (simp only [i64_w, i32_w]; rw [c27b0]) | rw [c27b1] | skip)
        exact (Go.Proofs.Ytoddejmlcnbdmaa.Gen.no_true H (by cases k <;> simp [laws_FnExactAtPlace.j0]) HT.out).elim
    case rest =>
      clear HC12
      try clear c1
      try clear c2
      try clear p2
      try clear c3
      try clear c4
      try clear c4b0
      try clear c7
      try clear c15
      try clear c17
      try clear c24
      try clear c27
      try clear c27b0
      try clear c27b1
      try clear c28
      try clear c28b0
      try clear c28b1
      try clear hcz14_0
      try clear hcz16_0
      try clear hcz20_0
      try clear hcz25_0
      try clear hcz6_0
      try clear hfz14_0
      try clear hfz16_0
      try clear hfz20_0
      try clear hfz25_0
      try clear hfz6_0
      obtain ⟨kq, x47_11, rfl, HA, HJ11, HO_197000, BK185, BK196, HB⟩ := hcut
      cases kq with
      | zero => exact absurd HA.out (by simp [laws_FnExactAtPlace.j0])
      | succ kj11 =>
        have H := HA.out
        clear HA
        simp only [laws_FnExactAtPlace.j0] at H
        by_cases c29 : x47_11 = true
        · subst c29
          have H1 : (some false) = some r := by rw [if_pos rfl] at H; exact H
          clear H
          have H := H1
          clear H1
          exact absurd HT.out (by have H9 := Option.some.inj H; rw [← H9]; decide)
        · replace c29 := Bool.eq_false_iff.mpr c29
          subst c29
          have H1 : ((laws_toTree.f kj11 l0_0).bind fun t200 => ((laws_eqTree.f kj11 t193 t200).bind fun t203 => (if t203 = true then (some true) else (some false)))) = some r := by rw [if_neg (show ¬ (false = true) by decide)] at H; exact H
          clear H
          have H := H1
          clear H1
          replace H := Option.bind_eq_some_iff.mp H
          obtain ⟨t200, A300, H⟩ := H
          replace H : ((laws_eqTree.f kj11 t193 t200).bind fun t203 => (if t203 = true then (some true) else (some false))) = some r := H
          have A30 := Aside0.mk A300
          clear A300
          replace H := Option.bind_eq_some_iff.mp H
          obtain ⟨t203, A310, H⟩ := H
          replace H : (if t203 = true then (some true) else (some false)) = some r := H
          have A31 := Aside0.mk A310
          clear A310
          by_cases c32 : t203 = true
          · subst c32
            have H1 : (some true) = some r := by rw [if_pos rfl] at H; exact H
            clear H
            have H := H1
            clear H1
            obtain rfl := Option.some.inj H
            try go_wp2
            have n0_ := Aside0.mk (Kd.S_drew HO_197000.out)
            have n1_ := Aside0.mk (blk_drew BK185.out)
            have n2_ := Aside0.mk (blk_drew BK196.out)
            have n3_ := Aside0.mk (below_drew1 HB.out)
            clear HO_197000
            clear BK185
            clear BK196
            clear HB
            have HO_197000 := n0_
            have BK185 := n1_
            have BK196 := n2_
            have HB := n3_
            clear n0_ n1_ n2_ n3_
            refine start_ (n := 5) (S := fun w' => w'.cell? ⟨gb196, 0, none⟩ = some (.slice Ao23 t193.length co23) ∧ w'.cell? ⟨gb185, 0, none⟩ = some (.slice A0_0 l0_0.length c0_0)) (ds := []) #[false, false, false, false, false] (by kernel_rfl) rfl rfl ⟨(blk_cell BK196.out 0).trans rfl, (blk_cell BK185.out 0).trans rfl⟩ (fun hHeld => ?_)
            generalize wc.drew = w33 at HO_197000 BK185 BK196 HB hHeld ⊢
            refine take_ (i := 0) (N := some 48) (v := ?_) (a' := ?_) #[true, false, false, false, false] rfl rfl (by kernel_rfl) (fun _ _ _ h => h) (Or.inl ⟨by rfl, ?_⟩) hHeld ?_ ?_
            rotate_left
            · rintro w' ⟨s0, s1⟩
              go_simp
              with_reducible rfl
            rotate_left
            · simp only [Act.put, List.setIfInBounds_toArray, List.set_cons_zero, List.set_cons_succ, i64_w, i32_w]
              rfl
            refine take_ (i := 1) (N := some 49) (v := ?_) (a' := ?_) #[true, true, false, false, false] rfl rfl (by kernel_rfl) (fun _ _ _ h => h) (Or.inl ⟨by rfl, ?_⟩) hHeld ?_ ?_
            rotate_left
            · rintro w' ⟨s0, s1⟩
              go_simp
              with_reducible rfl
            rotate_left
            · simp only [Act.put, List.setIfInBounds_toArray, List.set_cons_zero, List.set_cons_succ, i64_w, i32_w]
              rfl
            refine one_ (i := 2) (N := some 50) #[true, true, true, false, false] rfl rfl (by kernel_rfl) (by decide) (fun K hK => ?_)
            refine goes_ Try.func17 (by kernel_rfl) rfl #[.agg #[.slice A0_0 l0_0.length c0_0]] (by rfl) rfl rfl (by (try simp only [List.map_toArray, List.map_cons, List.map_nil]); first | done | rfl | (simp only [List.length_drop, List.length_take]; rfl)) ?_
            with_reducible refine (laws_toTree.calls kj11 _ _ l0_0 t200 _ ?side1 ?side2 A30.out).mono ?_
            (case side1 => repeat (first | exact (Kd.C_below HR0_0.out HB.out) | (with_reducible refine Kd.C_alloc ?_ _) | (with_reducible refine Kd.C_drewN ?_ _) | (with_reducible refine Kd.C_drew ?_)))
            (case side2 => exact HC0_0.out)
            rintro e w34 ⟨v201, rfl, ho0, hb⟩
            refine ⟨_, rfl, ?_⟩
            have n0_ := Aside0.mk (Kd.S_elder' (by (with_reducible repeat (first | apply Kd.S_alloc | apply Kd.S_drewN | apply Kd.S_drew)); exact HO_197000.out) (Kd.S_base ho0) hb)
            have n1_ := Aside0.mk (Kd.S_lower (Kd.S_new' ho0 (Kd.S_lt (by (with_reducible repeat (first | apply Kd.S_alloc | apply Kd.S_drewN | apply Kd.S_drew)); exact HO_197000.out))) (below_size (by repeat (first | (with_reducible first | exact HB.out | apply below_alloc | apply pw_below_drewN | apply below_drew1 | refine below_set ?_ GE185.out | refine below_set ?_ GE196.out) | exact HB.out))))
            have n2_ := Aside0.mk (blk_below (g := gb185) (o := .cells #[.slice A0_0 l0_0.length c0_0] 24 (0, 0)) (by (with_reducible repeat (first | refine blk_drewN ?_ _ | refine blk_drew ?_ | refine blk_alloc ?_ _)); exact BK185.out) hb)
            have n3_ := Aside0.mk (blk_below (g := gb196) (o := .cells #[.slice Ao23 t193.length co23] 29 (0, 0)) (by (with_reducible repeat (first | refine blk_drewN ?_ _ | refine blk_drew ?_ | refine blk_alloc ?_ _)); exact BK196.out) hb)
            have n4_ := Aside0.mk (below_step (by repeat (first | (with_reducible first | exact HB.out | apply below_alloc | apply pw_below_drewN | apply below_drew1 | refine below_set ?_ GE185.out | refine below_set ?_ GE196.out) | exact HB.out)) hb)
            clear HO_197000
            clear BK185
            clear BK196
            clear HB
            have HO_197000 := n0_
            have HO202 := n1_
            have BK185 := n2_
            have BK196 := n3_
            have HB := n4_
            clear n0_ n1_ n2_ n3_ n4_
            (try clear hb)
            (try clear hb2)
            (try clear hk)
            (try clear hi)
            (try clear ho0)
            obtain ⟨Ao35, co35, eo35⟩ := Kd.S_slice HO202.out
            (first | subst eo35 | (injection eo35 with f1_ f2_ f3_; have f4_ := f1_.symm; have f5_ := f3_.symm; clear f1_ f2_ f3_; subst f4_; subst f5_))
            refine hK.out _ _ ⟨(blk_cell BK196.out 0).trans rfl, (blk_cell BK185.out 0).trans rfl⟩ (fun hHeld => ?_)
            clear hK K
            refine norm_ (a' := ?_) ?_ ?_
            rotate_left
            · show Act.put _ (some 50) _ = _
              simp only [Act.put, List.setIfInBounds_toArray, List.set_cons_zero, List.set_cons_succ, i64_w, i32_w]
              rfl
            refine one_ (i := 3) (N := some 51) #[true, true, true, true, false] rfl rfl (by kernel_rfl) (by decide) (fun K hK => ?_)
            refine goes_ Try.func19 (by kernel_rfl) rfl #[.agg #[.slice Ao23 t193.length co23], .agg #[.slice Ao35 t200.length co35]] (by rfl) rfl rfl (by (try simp only [List.map_toArray, List.map_cons, List.map_nil]); first | done | rfl | (simp only [List.length_drop, List.length_take]; rfl)) ?_
            with_reducible refine (laws_eqTree.calls kj11 _ _ t193 _ _ t200 true _ ?side1 ?side2 ?side3 ?side4 A31.out).mono ?_
            (case side1 => repeat (first | exact (Kd.S_reads' HO_197000.out).2.2 | (with_reducible refine Kd.C_alloc ?_ _) | (with_reducible refine Kd.C_drewN ?_ _) | (with_reducible refine Kd.C_drew ?_)))
            (case side2 => exact (Kd.S_reads' HO_197000.out).2.1)
            (case side3 => repeat (first | exact (Kd.S_reads' HO202.out).2.2 | (with_reducible refine Kd.C_alloc ?_ _) | (with_reducible refine Kd.C_drewN ?_ _) | (with_reducible refine Kd.C_drew ?_)))
            (case side4 => exact (Kd.S_reads' HO202.out).2.1)
            rintro e w36 ⟨rfl, hb⟩
            refine ⟨_, rfl, ?_⟩
            have n0_ := Aside0.mk (Kd.S_below (by (with_reducible repeat (first | apply Kd.S_alloc | apply Kd.S_drewN | apply Kd.S_drew)); exact HO_197000.out) hb)
            have n1_ := Aside0.mk (Kd.S_below (by (with_reducible repeat (first | apply Kd.S_alloc | apply Kd.S_drewN | apply Kd.S_drew)); exact HO202.out) hb)
            have n2_ := Aside0.mk (blk_below (g := gb185) (o := .cells #[.slice A0_0 l0_0.length c0_0] 24 (0, 0)) (by (with_reducible repeat (first | refine blk_drewN ?_ _ | refine blk_drew ?_ | refine blk_alloc ?_ _)); exact BK185.out) hb)
            have n3_ := Aside0.mk (blk_below (g := gb196) (o := .cells #[.slice Ao23 t193.length co23] 29 (0, 0)) (by (with_reducible repeat (first | refine blk_drewN ?_ _ | refine blk_drew ?_ | refine blk_alloc ?_ _)); exact BK196.out) hb)
            have n4_ := Aside0.mk (below_step (by repeat (first | (with_reducible first | exact HB.out | apply below_alloc | apply pw_below_drewN | apply below_drew1 | refine below_set ?_ GE185.out | refine below_set ?_ GE196.out) | exact HB.out)) hb)
            clear HO_197000
            clear HO202
            clear BK185
            clear BK196
            clear HB
            have HO_197000 := n0_
            have HO202 := n1_
            have BK185 := n2_
            have BK196 := n3_
            have HB := n4_
            clear n0_ n1_ n2_ n3_ n4_
            (try clear hb)
            (try clear hb2)
            (try clear hk)
            (try clear hi)
            refine hK.out _ _ ⟨(blk_cell BK196.out 0).trans rfl, (blk_cell BK185.out 0).trans rfl⟩ (fun hHeld => ?_)
            clear hK K
            refine norm_ (a' := ?_) ?_ ?_
            rotate_left
            · show Act.put _ (some 51) _ = _
              simp only [Act.put, List.setIfInBounds_toArray, List.set_cons_zero, List.set_cons_succ, i64_w, i32_w]
              rfl
            refine pure_ (i := 4) (N := some 52) (v := ?_) (a' := ?_) #[true, true, true, true, true] rfl rfl (by kernel_rfl) (fun _ _ _ h => h) (Or.inl ⟨by rfl, ?_⟩) ?_ ?_
            rotate_left
            · intro w'
              go_simp
              with_reducible rfl
            rotate_left
            · simp only [Act.put, List.setIfInBounds_toArray, List.set_cons_zero, List.set_cons_succ, i64_w, i32_w]
              rfl
            refine done_ (by kernel_rfl) ?_
            try go_wp2
            go_ret
            exact ⟨by first | rfl | (simp [errW_none, errW_some] <;> rfl) | (simp [*, errW_none, errW_some] <;> rfl), by repeat (first | (with_reducible first | exact HB.out | apply below_alloc | apply pw_below_drewN | apply below_drew1 | refine below_set ?_ GE185.out | refine below_set ?_ GE196.out) | exact HB.out)⟩
          · replace c32 := Bool.eq_false_iff.mpr c32
            subst c32
            have H1 : (some false) = some r := by rw [if_neg (show ¬ (false = true) by decide)] at H; exact H
            clear H
            have H := H1
            clear H1
            exact absurd HT.out (by have H9 := Option.some.inj H; rw [← H9]; decide)

end Go.Proofs.Ytoddejmlcnbdmaa.Fn
namespace Go.Proofs.Ytoddejmlcnbdmaa.Pure
open Go.RowKit Go.Proofs.YtoddejmlcnbdmaaW.PrintWords Go.Proofs.YtoddejmlcnbdmaaW.PrintLast Go.Proofs.YtoddejmlcnbdmaaW.PrintMore

theorem wrap_ok {n : Int} (h0 : -9223372036854775808 ≤ n) (h1 : n ≤ 9223372036854775807) : wrap64 n = n := IntWalk.wrap64_in n ⟨h0, h1⟩
theorem wrap_succ {i : Nat} (h : i ≤ 9223372036854775806) : wrap64 ((i : Int) + 1) = ((i + 1 : Nat) : Int) := by
  rw [wrap_ok (by omega) (by omega)]; omega
theorem nat_nonneg (i : Nat) : (0 : Int) ≤ (i : Int) := by omega
section
variable {α : Type} {l t : List α} {i : Nat} {x z : α}
theorem drop_nil (h : l.drop i = []) : ¬ ((i : Int) < (l.length : Int)) := by
  have := List.drop_eq_nil_iff.1 h
  omega
theorem drop_cons (h : l.drop i = x :: t) : ((i : Int) < (l.length : Int)) ∧ l[i]? = some x ∧ l.drop (i + 1) = t := by
  have hlt : i < l.length := by
    rcases Nat.lt_or_ge i l.length with h1 | h1
    · exact h1
    · rw [List.drop_eq_nil_of_le h1] at h; cases h
  rw [List.drop_eq_getElem_cons hlt] at h
  injection h with h1 h2
  exact ⟨by omega, by rw [List.getElem?_eq_getElem hlt, h1], h2⟩
theorem drop_len (h : l.drop i = t) (hi : i ≤ l.length) : i + t.length = l.length := by
  rw [← h, List.length_drop]; omega
theorem getD_at (h : l[i]? = some x) : l.getD ((i : Nat) : Int).toNat z = x := by
  rw [Int.toNat_natCast, List.getD_eq_getElem?_getD, h]; rfl
theorem take_drop_set {n : Nat} {y : α} (h : l.drop i = x :: t) : (l.take i ++ List.replicate (n + 1) z).set i y = l.take i ++ [y] ++ List.replicate n z := by
  have hlt : i < l.length := by have := (drop_cons h).1; omega
  have h0 : i = (l.take i).length := by rw [List.length_take]; omega
  rw [List.set_append_right _ _ (by omega)]
  have h1 : i - (l.take i).length = 0 := by omega
  rw [h1, List.replicate_succ]
  simp
theorem take_next (h : l.drop i = x :: t) : l.take (i + 1) = l.take i ++ [x] := by
  have hlt : i < l.length := by have := (drop_cons h).1; omega
  rw [List.take_succ_eq_append_getElem hlt]
  have := (drop_cons h).2.1
  rw [List.getElem?_eq_getElem hlt] at this
  injection this with this
  rw [this]
theorem take_all (h : l.drop i = []) : l.take i = l := List.take_of_length_le (List.drop_eq_nil_iff.1 h)
end
theorem rd_at {l : List Int} {i : Nat} {x : Int} (h : l[i]? = some x) : rd l (i : Int) = x := getD_at h
theorem rdOf_at {α : Type} {l : List α} {i : Nat} {x z : α} (h : l[i]? = some x) : rdOf z l (i : Int) = x := getD_at h
theorem toList_inj {a b : ByteArray} (h : a.toList = b.toList) : a = b := by
  have h1 : a.data.toList = b.data.toList := by rw [← Lib.toList_data, ← Lib.toList_data, h]
  exact WideShapes.bytes_inj h1
/-- The numbers from c on, as many as n. -/
def from_ (c : Int) : Nat → List Int
  | 0 => []
  | n + 1 => c :: from_ (c + 1) n
theorem from_length (c : Int) (n : Nat) : (from_ c n).length = n := by induction n generalizing c with
  | zero => rfl
  | succ n ih => simp [from_, ih]
end Go.Proofs.Ytoddejmlcnbdmaa.Pure
namespace Go.Proofs.Ytoddejmlcnbdmaa.Pure
open Go.RowKit Go.Proofs.YtoddejmlcnbdmaaW.PrintWords Go.Proofs.YtoddejmlcnbdmaaW.PrintLast Go.Proofs.YtoddejmlcnbdmaaW.PrintMore
/-- From the end down to the begin. -/
theorem ev_down (n : Nat) (P : Nat → Prop) (hn : P n) (hs : ∀ i, i < n → P (i + 1) → P i) : P 0 := by
  have : ∀ d, d ≤ n → P (n - d) := by
    intro d
    induction d with
    | zero => intro _; simpa using hn
    | succ d ih =>
      intro hd
      refine hs _ (by omega) ?_
      have e : n - (d + 1) + 1 = n - d := by omega
      rw [e]
      exact ih (by omega)
  have := this n (Nat.le_refl _)
  simpa using this
theorem Ev.at_ {α : Type} {g : Nat → Option α} {r : α} {K : Nat} (h : ∀ k, K ≤ k → g k = some r) : Ev g r := ⟨K, h⟩
theorem Ev.all {α : Type} {g : Nat → Option α} {r : α} (h : ∀ k, g k = some r) : Ev g r := ⟨0, fun k _ => h k⟩
theorem Ev.next {α : Type} {g f : Nat → Option α} {r : α} {K : Nat} (h : ∀ k, K ≤ k → g (k + 1) = f k) (hf : Ev f r) : Ev g r := by
  obtain ⟨K', hf⟩ := hf
  refine ⟨max K K' + 1, fun k hk => ?_⟩
  obtain ⟨m, rfl⟩ : ∃ m, k = m + 1 := ⟨k - 1, by omega⟩
  rw [h m (by omega)]
  exact hf m (by omega)
theorem Ev.same {α : Type} {g f : Nat → Option α} {r : α} {K : Nat} (h : ∀ k, K ≤ k → g k = f k) (hf : Ev f r) : Ev g r := by
  obtain ⟨K', hf⟩ := hf
  exact ⟨max K K', fun k hk => (h k (by omega)).trans (hf k (by omega))⟩
/-- A copy, element by element, into a row that was made. -/
theorem copy_ev {α β : Type} (L : Nat → List β → Int → Option (List β)) (f : α → β) (z : β) (l : List α)
    (hend : ∀ k x3, L (k + 1) x3 (l.length : Int) = some x3)
    (hstep : ∀ (i : Nat) (x : α), l[i]? = some x → ∃ K, ∀ k (x3 : List β), K ≤ k → x3.length = l.length → L (k + 1) x3 (i : Int) = L k (x3.set i (f x)) ((i + 1 : Nat) : Int)) :
    Ev (fun k => L k (List.replicate l.length z) 0) (l.map f) := by
  have := ev_down l.length (fun i => Ev (fun k => L k ((l.take i).map f ++ List.replicate (l.length - i) z) (i : Int)) (l.map f)) ?_ ?_
  · simpa using this
  · refine ⟨1, fun k hk => ?_⟩
    obtain ⟨m, rfl⟩ : ∃ m, k = m + 1 := ⟨k - 1, by omega⟩
    dsimp only
    rw [hend]
    simp
  · intro i hi ih
    have hx : l[i]? = some l[i] := List.getElem?_eq_getElem hi
    obtain ⟨K, hK⟩ := hstep i _ hx
    refine Ev.next (K := K) (fun k hk => ?_) ih
    rw [hK k _ hk (by simp; omega)]
    congr 1
    have h0 : i = ((l.take i).map f).length := by simp; omega
    rw [List.set_append_right _ _ (by omega)]
    have h1 : i - ((l.take i).map f).length = 0 := by omega
    have h2 : l.length - i = (l.length - (i + 1)) + 1 := by omega
    rw [h1, h2, List.replicate_succ, List.set_cons_zero, List.take_succ_eq_append_getElem hi, List.map_append]
    simp
/-- All elements pass. -/
theorem all_ev {ρ : Type} (L : Nat → Int → Option ρ) (n : Nat) (r : ρ) (hend : ∀ k, L (k + 1) (n : Int) = some r)
    (hstep : ∀ (i : Nat), i < n → ∃ K, ∀ k, K ≤ k → L (k + 1) (i : Int) = L k ((i + 1 : Nat) : Int)) : Ev (fun k => L k 0) r := by
  have := ev_down n (fun i => Ev (fun k => L k (i : Int)) r) ⟨1, fun k hk => by obtain ⟨m, rfl⟩ : ∃ m, k = m + 1 := ⟨k - 1, by omega⟩; exact hend m⟩ (fun i hi ih => by
    obtain ⟨K, hK⟩ := hstep i hi
    exact Ev.next hK ih)
  simpa using this
end Go.Proofs.Ytoddejmlcnbdmaa.Pure
namespace Go.Proofs.Ytoddejmlcnbdmaa.Pure
open Go.RowKit Go.Proofs.YtoddejmlcnbdmaaW.PrintWords Go.Proofs.YtoddejmlcnbdmaaW.PrintLast Go.Proofs.YtoddejmlcnbdmaaW.PrintMore
/-- A condition that is plain here. -/
theorem cnd_ {p : Prop} (h : p := by first | omega | assumption | rfl | (simp only [List.length_map, List.length_replicate, List.length_take, List.length_drop, List.length_append, List.length_cons, List.length_nil, List.length_set]; omega) | (simp <;> fail)) : p := h
section
variable {α β γ δ : Type}
theorem Ev.up {g : Nat → Option α} {r : α} (h : Ev (fun k => g (k + 1)) r) : Ev g r := Ev.next (K := 0) (fun _ _ => rfl) h
theorem Ev.ifp {c : Prop} {dc : Decidable c} {A B : Nat → Option α} {r : α} (hc : c) (h : Ev A r) : Ev (fun k => if c then A k else B k) r :=
  Ev.same (K := 0) (fun k _ => by rw [if_pos hc]) h
theorem Ev.ifn {c : Prop} {dc : Decidable c} {A B : Nat → Option α} {r : α} (hc : ¬ c) (h : Ev B r) : Ev (fun k => if c then A k else B k) r :=
  Ev.same (K := 0) (fun k _ => by rw [if_neg hc]) h
theorem Ev.val {a r : α} (h : a = r) : Ev (fun _ => some a) r := Ev.all fun _ => by rw [h]
theorem Ev.bindS {a : α} {f : Nat → α → Option β} {r : β} (h : Ev (fun k => f k a) r) : Ev (fun k => (some a).bind (f k)) r := Ev.bind (Ev.val rfl) h
theorem Ev.some {g : Nat → Option α} {r : α} (h : Ev g r) : ∃ k, g k = some r := h.elim fun K h => ⟨K, h K (Nat.le_refl _)⟩
/-- Both come to an end, and R holds between what they answer. -/
def Twin (R : α → β → Prop) (A : Nat → Option α) (B : Nat → Option β) : Prop := ∃ a b, R a b ∧ Ev A a ∧ Ev B b
variable {R : α → β → Prop} {A A1 A2 : Nat → Option α} {B B1 B2 : Nat → Option β}
theorem Twin.of {a : α} {b : β} (h : R a b) (ha : Ev A a) (hb : Ev B b) : Twin R A B := ⟨a, b, h, ha, hb⟩
theorem Twin.val {a : α} {b : β} (h : R a b) : Twin R (fun _ => Option.some a) (fun _ => Option.some b) := ⟨a, b, h, Ev.val rfl, Ev.val rfl⟩
theorem Twin.up (h : Twin R (fun k => A (k + 1)) (fun k => B (k + 1))) : Twin R A B := by
  obtain ⟨a, b, h, ha, hb⟩ := h
  exact ⟨a, b, h, Ev.up ha, Ev.up hb⟩
theorem Twin.upL (h : Twin R (fun k => A (k + 1)) B) : Twin R A B := by
  obtain ⟨a, b, h, ha, hb⟩ := h
  exact ⟨a, b, h, Ev.up ha, hb⟩
theorem Twin.upR (h : Twin R A (fun k => B (k + 1))) : Twin R A B := by
  obtain ⟨a, b, h, ha, hb⟩ := h
  exact ⟨a, b, h, ha, Ev.up hb⟩
theorem Twin.ifpL {c : Prop} {dc : Decidable c} (hc : c) (h : Twin R A1 B) : Twin R (fun k => if c then A1 k else A2 k) B := by
  obtain ⟨a, b, h, ha, hb⟩ := h
  exact ⟨a, b, h, Ev.ifp hc ha, hb⟩
theorem Twin.ifnL {c : Prop} {dc : Decidable c} (hc : ¬ c) (h : Twin R A2 B) : Twin R (fun k => if c then A1 k else A2 k) B := by
  obtain ⟨a, b, h, ha, hb⟩ := h
  exact ⟨a, b, h, Ev.ifn hc ha, hb⟩
theorem Twin.ifpR {c : Prop} {dc : Decidable c} (hc : c) (h : Twin R A B1) : Twin R A (fun k => if c then B1 k else B2 k) := by
  obtain ⟨a, b, h, ha, hb⟩ := h
  exact ⟨a, b, h, ha, Ev.ifp hc hb⟩
theorem Twin.ifnR {c : Prop} {dc : Decidable c} (hc : ¬ c) (h : Twin R A B2) : Twin R A (fun k => if c then B1 k else B2 k) := by
  obtain ⟨a, b, h, ha, hb⟩ := h
  exact ⟨a, b, h, ha, Ev.ifn hc hb⟩
theorem Twin.bindL {g : Nat → Option γ} {a : γ} {f : Nat → γ → Option α} (hg : Ev g a) (h : Twin R (fun k => f k a) B) : Twin R (fun k => (g k).bind (f k)) B := by
  obtain ⟨x, b, h, ha, hb⟩ := h
  exact ⟨x, b, h, Ev.bind hg ha, hb⟩
theorem Twin.bindR {g : Nat → Option γ} {a : γ} {f : Nat → γ → Option β} (hg : Ev g a) (h : Twin R A (fun k => f k a)) : Twin R A (fun k => (g k).bind (f k)) := by
  obtain ⟨x, b, h, ha, hb⟩ := h
  exact ⟨x, b, h, ha, Ev.bind hg hb⟩
theorem Twin.bindSL {a : γ} {f : Nat → γ → Option α} (h : Twin R (fun k => f k a) B) : Twin R (fun k => (Option.some a).bind (f k)) B := Twin.bindL (Ev.val rfl) h
theorem Twin.bindSR {a : γ} {f : Nat → γ → Option β} (h : Twin R A (fun k => f k a)) : Twin R A (fun k => (Option.some a).bind (f k)) := Twin.bindR (Ev.val rfl) h
theorem Twin.bind {S : γ → δ → Prop} {g1 : Nat → Option γ} {g2 : Nat → Option δ} {f1 : Nat → γ → Option α} {f2 : Nat → δ → Option β} (hg : Twin S g1 g2)
    (h : ∀ a b, S a b → Twin R (fun k => f1 k a) (fun k => f2 k b)) : Twin R (fun k => (g1 k).bind (f1 k)) (fun k => (g2 k).bind (f2 k)) := by
  obtain ⟨x, y, hs, h1, h2⟩ := hg
  exact Twin.bindL h1 (Twin.bindR h2 (h x y hs))
theorem Twin.if2 {c c' : Prop} {dc : Decidable c} {dc' : Decidable c'} (e : c ↔ c') (hp : c → Twin R A1 B1) (hn : ¬ c → Twin R A2 B2) :
    Twin R (fun k => if c then A1 k else A2 k) (fun k => if c' then B1 k else B2 k) := by
  by_cases hc : c
  · exact Twin.ifpL hc (Twin.ifpR (e.1 hc) (hp hc))
  · exact Twin.ifnL hc (Twin.ifnR (fun h => hc (e.2 h)) (hn hc))
theorem Twin.same {A : Nat → Option α} {a : α} (h : Ev A a) : Twin Eq A A := ⟨a, a, rfl, h, h⟩
theorem Twin.swap (h : Twin (fun b a => R a b) B A) : Twin R A B := by
  obtain ⟨a, b, h, ha, hb⟩ := h
  exact ⟨b, a, h, hb, ha⟩
theorem Twin.mono {S : α → β → Prop} (h : Twin S A B) (i : ∀ a b, S a b → R a b) : Twin R A B := by
  obtain ⟨a, b, h, ha, hb⟩ := h
  exact ⟨a, b, i a b h, ha, hb⟩
end
theorem decT {p : Prop} [Decidable p] : (decide p = true) = p := decide_eq_true_eq
/-- A loop over an index: what holds at the end, and from each round to the one ahead of it. -/
theorem loop_down (n : Nat) {P : Nat → Prop} (hn : P n) (hs : ∀ i, i < n → P (i + 1) → P i) : ∀ i, i ≤ n → P i := by
  have : ∀ d i, i + d = n → P i := by
    intro d
    induction d with
    | zero => intro i h; have e : i = n := by omega
              rw [e]; exact hn
    | succ d ih => intro i h; exact hs i (by omega) (ih (i + 1) (by omega))
  exact fun i hi => this (n - i) i (by omega)
end Go.Proofs.Ytoddejmlcnbdmaa.Pure
namespace Go.Proofs.Ytoddejmlcnbdmaa.Pure
open Go.RowKit Go.Proofs.YtoddejmlcnbdmaaW.PrintWords Go.Proofs.YtoddejmlcnbdmaaW.PrintLast Go.Proofs.YtoddejmlcnbdmaaW.PrintMore

/-- A string's bytes, as numbers. -/
def nm (s : ByteArray) : List Int := s.data.toList.map fun b => (b.toNat : Int)
theorem nm_length (s : ByteArray) : (nm s).length = s.size := by
  rw [nm, List.length_map, Array.length_toList]; rfl
theorem u8_inj {a b : UInt8} (h : (a.toNat : Int) = (b.toNat : Int)) : a = b := UInt8.toNat_inj.1 (by omega)
theorem nm_inj {s t : ByteArray} (h : nm s = nm t) : s = t := by
  have : s.data.toList = t.data.toList := List.map_inj_right (fun a b h => u8_inj h) |>.1 h
  exact WideShapes.bytes_inj this
theorem toList_iff {s t : ByteArray} : s.toList = t.toList ↔ nm s = nm t := by
  rw [Lib.toList_data, Lib.toList_data, nm, nm]
  exact ⟨fun h => by rw [h], fun h => List.map_inj_right (fun a b h => u8_inj h) |>.1 h⟩
theorem toList_nil {s : ByteArray} : s.toList = ([] : List UInt8) ↔ nm s = [] := by
  rw [Lib.toList_data, nm]
  simp
theorem nm_range {s : ByteArray} {x : Int} (h : x ∈ nm s) : 0 ≤ x ∧ x < 256 := by
  obtain ⟨b, _, rfl⟩ := List.mem_map.1 h
  have := UInt8.toNat_lt b
  omega
theorem bt_nm (s : ByteArray) (i : Int) : bt s i = rd (nm s) i := (rd_bytesOf s i).symm
theorem nm_get {s : ByteArray} {i : Nat} {x : Int} (h : (nm s)[i]? = some x) : bt s (i : Int) = x := by rw [bt_nm]; exact rd_at h
theorem nm_extract (s : ByteArray) (a b : Nat) : nm (s.extract a b) = ((nm s).drop a).take (b - a) := by
  rw [nm, ← Lib.toList_data, Lib.extract_toList, List.map_take, List.map_drop]; rfl
theorem nm_tail (s : ByteArray) (a : Nat) : nm (s.extract a s.size) = (nm s).drop a := by
  rw [nm_extract]
  exact List.take_of_length_le (by rw [List.length_drop, nm_length]; omega)
/-- Bytes of a tail. -/
theorem bt_tail (s : ByteArray) (a : Nat) (i : Nat) : bt (s.extract a s.size) (i : Int) = bt s ((a + i : Nat) : Int) := by
  rw [bt_nm, bt_nm, nm_tail]
  have e : ((a + i : Nat) : Int).toNat = a + i := by omega
  simp only [rd, List.getD_eq_getElem?_getD, e, Int.toNat_natCast, List.getElem?_drop]
theorem nm_nums (xs : List Int) (h : ∀ x ∈ xs, 0 ≤ x ∧ x < 256) : nm (strOfNums xs) = xs := by
  rw [nm, strOfNums_data, List.map_map]
  conv => rhs; rw [← List.map_id xs]
  refine List.map_congr_left fun x hx => ?_
  have := h x hx
  simp only [Function.comp, id, UInt8.toNat_ofNat']
  omega
theorem nums_nm (s : ByteArray) : strOfNums (nm s) = s := nm_inj (nm_nums _ fun _ h => nm_range h)
theorem nm_append (s t : ByteArray) : nm (s ++ t) = nm s ++ nm t := by
  simp [nm]
theorem nm_empty : nm (⟨#[]⟩ : ByteArray) = [] := rfl
theorem or64 (i : Nat) (x y : Int) (hx0 : 0 ≤ x) (hx : x % 2 ^ i = 0) (hx1 : x < 2 ^ 62) (hy0 : 0 ≤ y) (hy : y < 2 ^ i) (hy1 : y < 2 ^ 62) : Go.bits .or .i64 x y = x + y :=
  bits_join .i64 62 (by decide) (fun n h0 h1 => by rw [IntKind.wrap_i64]; omega) i x y hx0 hx hx1 hy0 hy hy1
/-- A row is marked, element by element: c is the next mark. -/
theorem mark_ev {α γ : Type} (L : Nat → List α → γ → Int → Option (γ × List α)) (cn : Nat → γ) (e : Nat → α → α) (l : List α)
    (hend : ∀ k x, x.length = l.length → L (k + 1) x (cn l.length) (l.length : Int) = some (cn l.length, x))
    (hstep : ∀ (i : Nat) (y : α), l[i]? = some y → ∃ K, ∀ k (x : List α), K ≤ k → x.length = l.length → x[i]? = some y → L (k + 1) x (cn i) (i : Int) = L k (x.set i (e i y)) (cn (i + 1)) ((i + 1 : Nat) : Int)) :
    Ev (fun k => L k l (cn 0) 0) (cn l.length, l.mapIdx e) := by
  have := ev_down l.length (fun i => Ev (fun k => L k ((l.mapIdx e).take i ++ l.drop i) (cn i) (i : Int)) (cn l.length, l.mapIdx e)) ?_ ?_
  · simpa using this
  · refine ⟨1, fun k hk => ?_⟩
    obtain ⟨m, rfl⟩ : ∃ m, k = m + 1 := ⟨k - 1, by omega⟩
    dsimp only
    rw [hend _ _ (by simp)]
    simp only [List.drop_length, List.append_nil]
    rw [List.take_of_length_le (by simp)]
  · intro i hi ih
    have hx : l[i]? = some l[i] := List.getElem?_eq_getElem hi
    have hm : i = ((l.mapIdx e).take i).length := by simp; omega
    obtain ⟨K, hK⟩ := hstep i _ hx
    refine Ev.next (K := K) (fun k hk => ?_) ih
    have hd : l.drop i = l[i] :: l.drop (i + 1) := List.drop_eq_getElem_cons hi
    have hat : ((l.mapIdx e).take i ++ l.drop i)[i]? = some l[i] := by
      rw [List.getElem?_append_right (by omega), hd]
      have h0 : i - ((l.mapIdx e).take i).length = 0 := by omega
      rw [h0]; rfl
    rw [hK k _ hk (by simp; omega) hat]
    congr 1
    rw [List.set_append_right _ _ (by omega)]
    have h1 : i - ((l.mapIdx e).take i).length = 0 := by omega
    rw [h1, hd, List.set_cons_zero, List.take_succ_eq_append_getElem (by simpa using hi)]
    simp
/-- Two rows of one length, compared element by element. -/
theorem same_ev {α : Type} [DecidableEq α] (L : Nat → Int → Option Bool) (a b : List α) (hlen : a.length = b.length) (hend : ∀ k, L (k + 1) (a.length : Int) = some true)
    (hyes : ∀ k (i : Nat) x, i < a.length → a[i]? = some x → b[i]? = some x → L (k + 1) (i : Int) = L k ((i + 1 : Nat) : Int))
    (hno : ∀ k (i : Nat) x y, i < a.length → a[i]? = some x → b[i]? = some y → x ≠ y → L (k + 1) (i : Int) = some false) : Ev (fun k => L k 0) (decide (a = b)) := by
  have key : ∀ (t u : List α) (i : Nat), a.drop i = t → b.drop i = u → i ≤ a.length → Ev (fun k => L k (i : Int)) (decide (t = u)) := by
    intro t
    induction t with
    | nil =>
      intro u i h1 h2 hi
      have h3 := drop_len h1 hi
      have h4 := drop_len h2 (by omega)
      have e : i = a.length := by simpa using h3
      have hu : u = [] := List.length_eq_zero_iff.1 (by omega)
      subst hu
      refine Ev.up ?_
      rw [e]
      exact Ev.same (K := 0) (fun k _ => hend k) (Ev.val (by simp))
    | cons x t ih =>
      intro u i h1 h2 hi
      have h3 := drop_len h1 hi
      have h4 := drop_len h2 (by omega)
      cases u with
      | nil => simp at h3 h4; omega
      | cons y u =>
        obtain ⟨p1, p2, p3⟩ := drop_cons h1
        obtain ⟨q1, q2, q3⟩ := drop_cons h2
        by_cases hxy : x = y
        · subst hxy
          have := ih u (i + 1) p3 q3 (by omega)
          have e : decide (x :: t = x :: u) = decide (t = u) := by simp
          rw [e]
          exact Ev.up (Ev.same (K := 0) (fun k _ => hyes k i x (by omega) p2 q2) this)
        · exact Ev.up (Ev.same (K := 0) (fun k _ => hno k i x y (by omega) p2 q2 hxy) (Ev.val (by simp [hxy])))
  have h := key a b 0 rfl rfl (by omega)
  exact h
end Go.Proofs.Ytoddejmlcnbdmaa.Pure
namespace Go.Proofs.Ytoddejmlcnbdmaa.Pure
open Go.RowKit Go.Proofs.Ytoddejmlcnbdmaa.Fn Go.Proofs.YtoddejmlcnbdmaaW.PrintWords Go.Proofs.YtoddejmlcnbdmaaW.PrintLast Go.Proofs.YtoddejmlcnbdmaaW.PrintMore
set_option linter.unusedSimpArgs false

theorem szStrs_ev (l : List ByteArray) (hl : l.length ≤ maxLen) (hs : ∀ y ∈ l, y.size ≤ maxLen) (a : Int) (h0 : 0 ≤ a) (h1 : a ≤ 1048576) :
    ∃ r : Int, Ev (fun k => laws_szStringS.f k l a) r ∧ r ≤ a ∧ (0 ≤ r → (l.length : Int) ≤ a ∧ ∀ y ∈ l, (y.size : Int) ≤ a) := by
  simp only [maxLen] at hl hs
  have key : ∀ (t : List ByteArray) (i : Nat) (m : Int), l.drop i = t → i ≤ l.length → 0 ≤ m → m ≤ a →
      ∃ r : Int, Ev (fun k => laws_szStringS.l0 k l m i) r ∧ r ≤ a ∧ (0 ≤ r → ∀ y ∈ t, (y.size : Int) ≤ a) := by
    intro t
    induction t with
    | nil =>
      intro i m h _ _ hm
      have := drop_nil h
      exact ⟨m, by (refine Ev.up ?_; simp only [laws_szStringS.l0, decT]); (repeat (first | with_reducible refine Ev.bindS ?_ | (with_reducible refine Ev.ifp ?_ ?_; (· exact cnd_)) | (with_reducible refine Ev.ifn ?_ ?_; (· exact cnd_)))); exact Ev.val rfl, hm, by simp⟩
    | cons x t ih =>
      intro i m h hi hm0 hm
      obtain ⟨p1, p2, p3⟩ := drop_cons h
      have hx := hs x (List.mem_of_getElem? p2)
      have e : wrap64 (m - (x.size : Int)) = m - (x.size : Int) := wrap_ok (by omega) (by omega)
      by_cases hlt : m - (x.size : Int) < 0
      · refine ⟨-1, ?_, by omega, by omega⟩
        (refine Ev.up ?_; simp only [laws_szStringS.l0, decT])
        rw [rdOf_at p2, e]
        (repeat (first | with_reducible refine Ev.bindS ?_ | (with_reducible refine Ev.ifp ?_ ?_; (· exact cnd_)) | (with_reducible refine Ev.ifn ?_ ?_; (· exact cnd_))))
        exact Ev.val rfl
      · obtain ⟨r, q1, q2, q3⟩ := ih (i + 1) (m - x.size) p3 (by omega) (by omega) (by omega)
        refine ⟨r, ?_, q2, fun hr y hy => ?_⟩
        · (refine Ev.up ?_; simp only [laws_szStringS.l0, decT])
          rw [rdOf_at p2, e, wrap_succ (by omega)]
          (repeat (first | with_reducible refine Ev.bindS ?_ | (with_reducible refine Ev.ifp ?_ ?_; (· exact cnd_)) | (with_reducible refine Ev.ifn ?_ ?_; (· exact cnd_))))
          exact q1
        · rcases List.mem_cons.1 hy with rfl | hy
          · omega
          · exact q3 hr y hy
  have e : wrap64 (a - (l.length : Int)) = a - (l.length : Int) := wrap_ok (by omega) (by omega)
  by_cases hlt : a - (l.length : Int) < 0
  · refine ⟨-1, ?_, by omega, by omega⟩
    simp only [laws_szStringS.f, e]
    (repeat (first | with_reducible refine Ev.bindS ?_ | (with_reducible refine Ev.ifp ?_ ?_; (· exact cnd_)) | (with_reducible refine Ev.ifn ?_ ?_; (· exact cnd_))))
    exact Ev.val rfl
  · obtain ⟨r, q1, q2, q3⟩ := key l 0 (a - l.length) rfl (by omega) (by omega) (by omega)
    refine ⟨r, ?_, q2, fun hr => ⟨by omega, q3 hr⟩⟩
    simp only [laws_szStringS.f, e]
    (repeat (first | with_reducible refine Ev.bindS ?_ | (with_reducible refine Ev.ifp ?_ ?_; (· exact cnd_)) | (with_reducible refine Ev.ifn ?_ ?_; (· exact cnd_))))
    exact q1
theorem toStrs_ev (l : List ByteArray) (hl : l.length ≤ 1048576) : Ev (fun k => laws_toStringS.f k l) l := by
  have h := copy_ev (fun k x3 i => laws_toStringS.l0 k l x3 i) id (⟨#[]⟩ : ByteArray) l ?_ ?_
  · rw [List.map_id] at h
    simp only [laws_toStringS.f, Int.toNat_natCast]
    (repeat (first | with_reducible refine Ev.bindS ?_ | (with_reducible refine Ev.ifp ?_ ?_; (· exact cnd_)) | (with_reducible refine Ev.ifn ?_ ?_; (· exact cnd_))))
    exact h
  · intro k x3
    simp only [laws_toStringS.l0]
    rw [if_neg (by omega)]
  · intro i x hx
    have hlt := (List.getElem?_eq_some_iff.1 hx).1
    refine ⟨0, fun k x3 _ h3 => ?_⟩
    simp only [laws_toStringS.l0]
    rw [if_pos (by omega), if_pos (by omega), rdOf_at hx, if_pos (by omega), wrap_succ (by omega), Int.toNat_natCast]
    rfl
theorem eqStrs_ev (l : List ByteArray) (hl : l.length ≤ 1048576) : Ev (fun k => laws_eqStringS.f k l l) true := by
  have h := all_ev (fun k i => laws_eqStringS.l0 k l l i) l.length true ?_ ?_
  · simp only [laws_eqStringS.f]
    (repeat (first | with_reducible refine Ev.bindS ?_ | (with_reducible refine Ev.ifp ?_ ?_; (· exact cnd_)) | (with_reducible refine Ev.ifn ?_ ?_; (· exact cnd_))))
    exact h
  · intro k
    simp only [laws_eqStringS.l0]
    rw [if_neg (by omega)]
  · intro i hi
    refine ⟨0, fun k _ => ?_⟩
    simp only [laws_eqStringS.l0]
    rw [if_pos (by omega), if_pos (by omega), if_pos (by omega), wrap_succ (by omega)]
    simp
end Go.Proofs.Ytoddejmlcnbdmaa.Pure
namespace Go.Proofs.Ytoddejmlcnbdmaa.Pure
open Go.RowKit Go.Proofs.Ytoddejmlcnbdmaa.Fn Go.Proofs.YtoddejmlcnbdmaaW.PrintWords Go.Proofs.YtoddejmlcnbdmaaW.PrintLast Go.Proofs.YtoddejmlcnbdmaaW.PrintMore

theorem toInt_loop (l : List Int) (hl : l.length ≤ 1073741824) : ∀ (t : List Int) (i : Nat) (k : Nat), l.drop i = t → i ≤ l.length → t.length < k →
    laws_toIntS.l0 k l (l.take i ++ List.replicate t.length 0) i = some l
  | [], i, k + 1, h, _, _ => by
    simp only [laws_toIntS.l0]
    rw [if_neg (drop_nil h), take_all h]
    simp
  | x :: t, i, k + 1, h, hi, hk => by
    obtain ⟨h1, h2, h3⟩ := drop_cons h
    have h4 := drop_len h hi
    simp only [List.length_cons] at h4 hk
    simp only [laws_toIntS.l0]
    rw [if_pos h1, if_pos (nat_nonneg i), if_pos (by simp only [List.length_append, List.length_take, List.length_replicate, List.length_cons]; omega), rd_at h2, wrap_succ (by omega), Int.toNat_natCast]
    simp only [List.length_cons]
    rw [take_drop_set h, ← take_next h]
    exact toInt_loop l hl t (i + 1) k h3 (by omega) (by omega)
theorem toInt_eq (l : List Int) (hl : l.length ≤ 1073741824) (k : Nat) (hk : l.length < k) : laws_toIntS.f k l = some l := by
  unfold laws_toIntS.f
  rw [if_pos (by omega), if_pos (by omega), Int.toNat_natCast]
  have := toInt_loop l hl l 0 k (by simp) (by omega) hk
  simpa using this
theorem eqInt_loop (l : List Int) (hl : l.length ≤ 1073741824) : ∀ (t : List Int) (i : Nat) (k : Nat), l.drop i = t → i ≤ l.length → t.length < k →
    laws_eqIntS.l0 k l l i = some true
  | [], i, k + 1, h, _, _ => by
    simp only [laws_eqIntS.l0]
    rw [if_neg (drop_nil h)]
  | x :: t, i, k + 1, h, hi, hk => by
    obtain ⟨h1, h2, h3⟩ := drop_cons h
    have h4 := drop_len h hi
    simp only [List.length_cons] at h4 hk
    simp only [laws_eqIntS.l0]
    rw [if_pos h1, if_pos (nat_nonneg i), if_pos h1, if_pos trivial, wrap_succ (by omega)]
    exact eqInt_loop l hl t (i + 1) k h3 (by omega) (by omega)
theorem eqInt_self (l : List Int) (hl : l.length ≤ 1073741824) (k : Nat) (hk : l.length < k) : laws_eqIntS.f k l l = some true := by
  unfold laws_eqIntS.f
  rw [if_pos rfl]
  exact eqInt_loop l hl l 0 k (by simp) (by omega) hk
end Go.Proofs.Ytoddejmlcnbdmaa.Pure
namespace Go.Proofs.Ytoddejmlcnbdmaa.Pure
open Go.RowKit Go.Proofs.Ytoddejmlcnbdmaa.Fn Go.Proofs.YtoddejmlcnbdmaaW.PrintWords Go.Proofs.YtoddejmlcnbdmaaW.PrintLast Go.Proofs.YtoddejmlcnbdmaaW.PrintMore
set_option linter.unusedSimpArgs false
set_option linter.unusedVariables false

def cvP (p : S115) : S110 := ⟨p.f0, p.f1, p.f2⟩
/-- A page's rows are no longer than a. -/
def shortP (a : Int) (p : S115) : Prop := (p.f0.length : Int) ≤ a ∧ (p.f1.length : Int) ≤ a ∧ (p.f2.length : Int) ≤ a ∧ (∀ y ∈ p.f0, (y.size : Int) ≤ a) ∧ (∀ y ∈ p.f1, (y.size : Int) ≤ a)
def wfP (p : S115) : Prop := (p.f0.length ≤ maxLen ∧ ∀ y ∈ p.f0, y.size ≤ maxLen) ∧ (p.f1.length ≤ maxLen ∧ ∀ y ∈ p.f1, y.size ≤ maxLen) ∧ p.f2.length ≤ maxLen
theorem szPage_ev (p : S115) (h : wfP p) (a : Int) (h0 : 0 ≤ a) (h1 : a ≤ 1048576) :
    ∃ r : Int, Ev (fun k => laws_szPage.f k p.f0 p.f1 p.f2 a) r ∧ r ≤ a ∧ (0 ≤ r → shortP a p) := by
  obtain ⟨r1, e1, l1, s1⟩ := szStrs_ev p.f0 h.1.1 h.1.2 a h0 h1
  simp only [laws_szPage.f]
  by_cases c1 : r1 < 0
  · exact ⟨-1, Ev.bind e1 (by (repeat (first | with_reducible refine Ev.bindS ?_ | (with_reducible refine Ev.ifp ?_ ?_; (· exact cnd_)) | (with_reducible refine Ev.ifn ?_ ?_; (· exact cnd_)))); exact Ev.val rfl), by omega, by omega⟩
  obtain ⟨r2, e2, l2, s2⟩ := szStrs_ev p.f1 h.2.1.1 h.2.1.2 r1 (by omega) (by omega)
  by_cases c2 : r2 < 0
  · exact ⟨-1, Ev.bind e1 (by (repeat (first | with_reducible refine Ev.bindS ?_ | (with_reducible refine Ev.ifp ?_ ?_; (· exact cnd_)) | (with_reducible refine Ev.ifn ?_ ?_; (· exact cnd_)))); exact Ev.bind e2 (by (repeat (first | with_reducible refine Ev.bindS ?_ | (with_reducible refine Ev.ifp ?_ ?_; (· exact cnd_)) | (with_reducible refine Ev.ifn ?_ ?_; (· exact cnd_)))); exact Ev.val rfl)), by omega, by omega⟩
  have hw : wrap64 (r2 - (p.f2.length : Int)) = r2 - (p.f2.length : Int) := wrap_ok (by have := h.2.2; simp only [maxLen] at this; omega) (by omega)
  have s1' := s1 (by omega)
  have s2' := s2 (by omega)
  by_cases c3 : r2 - (p.f2.length : Int) < 0
  · refine ⟨-1, Ev.bind e1 (by (repeat (first | with_reducible refine Ev.bindS ?_ | (with_reducible refine Ev.ifp ?_ ?_; (· exact cnd_)) | (with_reducible refine Ev.ifn ?_ ?_; (· exact cnd_)))); exact Ev.bind e2 (by (repeat (first | with_reducible refine Ev.bindS ?_ | (with_reducible refine Ev.ifp ?_ ?_; (· exact cnd_)) | (with_reducible refine Ev.ifn ?_ ?_; (· exact cnd_)))); simp only [laws_szIntS.f, hw, if_pos c3, Option.bind_some]; exact Ev.val (by simp))), by omega, by omega⟩
  · refine ⟨r2 - (p.f2.length : Int), Ev.bind e1 (by (repeat (first | with_reducible refine Ev.bindS ?_ | (with_reducible refine Ev.ifp ?_ ?_; (· exact cnd_)) | (with_reducible refine Ev.ifn ?_ ?_; (· exact cnd_)))); exact Ev.bind e2 (by (repeat (first | with_reducible refine Ev.bindS ?_ | (with_reducible refine Ev.ifp ?_ ?_; (· exact cnd_)) | (with_reducible refine Ev.ifn ?_ ?_; (· exact cnd_)))); simp only [laws_szIntS.f, hw, if_neg c3, Option.bind_some]; exact Ev.val rfl)), by omega, fun _ => ⟨s1'.1, by have := s2'.1; omega, by omega, s1'.2, fun y hy => by have := s2'.2 y hy; omega⟩⟩
theorem szTree_ev (P : List S115) (hl : P.length ≤ maxLen) (hw : ∀ p ∈ P, wfP p) :
    ∃ r : Int, Ev (fun k => laws_szTree.f k P 1048576) r ∧ (0 ≤ r → P.length ≤ 1048576 ∧ ∀ p ∈ P, shortP 1048576 p) := by
  have key : ∀ (t : List S115) (i : Nat) (m : Int), P.drop i = t → i ≤ P.length → 0 ≤ m → m ≤ 1048576 →
      ∃ r : Int, Ev (fun k => laws_szPageS.l0 k P m i) r ∧ (0 ≤ r → ∀ p ∈ t, shortP 1048576 p) := by
    intro t
    induction t with
    | nil =>
      intro i m h _ _ hm
      have := drop_nil h
      exact ⟨m, by (refine Ev.up ?_; simp only [laws_szPageS.l0, decT]); (repeat (first | with_reducible refine Ev.bindS ?_ | (with_reducible refine Ev.ifp ?_ ?_; (· exact cnd_)) | (with_reducible refine Ev.ifn ?_ ?_; (· exact cnd_)))); exact Ev.val rfl, by simp⟩
    | cons x t ih =>
      intro i m h hi hm0 hm
      obtain ⟨p1, p2, p3⟩ := drop_cons h
      obtain ⟨r1, e1, l1, s1⟩ := szPage_ev x (hw x (List.mem_of_getElem? p2)) m hm0 hm
      have hrd : rd_T115 P (i : Int) = x := rdOf_at (z := z115) p2
      simp only [maxLen] at hl
      by_cases c : r1 < 0
      · refine ⟨-1, ?_, by omega⟩
        (refine Ev.up ?_; simp only [laws_szPageS.l0, decT])
        rw [hrd]
        (repeat (first | with_reducible refine Ev.bindS ?_ | (with_reducible refine Ev.ifp ?_ ?_; (· exact cnd_)) | (with_reducible refine Ev.ifn ?_ ?_; (· exact cnd_))))
        exact Ev.bind e1 (by (repeat (first | with_reducible refine Ev.bindS ?_ | (with_reducible refine Ev.ifp ?_ ?_; (· exact cnd_)) | (with_reducible refine Ev.ifn ?_ ?_; (· exact cnd_)))); exact Ev.val rfl)
      · obtain ⟨r, q1, q2⟩ := ih (i + 1) r1 p3 (by omega) (by omega) (by omega)
        refine ⟨r, ?_, fun hr p hp => ?_⟩
        · (refine Ev.up ?_; simp only [laws_szPageS.l0, decT])
          rw [hrd, wrap_succ (by omega)]
          (repeat (first | with_reducible refine Ev.bindS ?_ | (with_reducible refine Ev.ifp ?_ ?_; (· exact cnd_)) | (with_reducible refine Ev.ifn ?_ ?_; (· exact cnd_))))
          exact Ev.bind e1 (by (repeat (first | with_reducible refine Ev.bindS ?_ | (with_reducible refine Ev.ifp ?_ ?_; (· exact cnd_)) | (with_reducible refine Ev.ifn ?_ ?_; (· exact cnd_)))); exact q1)
        · rcases List.mem_cons.1 hp with rfl | hp
          · obtain ⟨a1, a2, a3, a4, a5⟩ := s1 (by omega)
            exact ⟨by omega, by omega, by omega, fun y hy => by have := a4 y hy; omega, fun y hy => by have := a5 y hy; omega⟩
          · exact q2 hr p hp
  simp only [maxLen] at hl
  have e : wrap64 (1048576 - (P.length : Int)) = 1048576 - (P.length : Int) := wrap_ok (by omega) (by omega)
  by_cases hlt : 1048576 - (P.length : Int) < 0
  · refine ⟨-1, ?_, by omega⟩
    simp only [laws_szTree.f, laws_szPageS.f, e]
    refine Ev.bind (a := -1) ?_ ?_
    · (repeat (first | with_reducible refine Ev.bindS ?_ | (with_reducible refine Ev.ifp ?_ ?_; (· exact cnd_)) | (with_reducible refine Ev.ifn ?_ ?_; (· exact cnd_))))
      exact Ev.val rfl
    · (repeat (first | with_reducible refine Ev.bindS ?_ | (with_reducible refine Ev.ifp ?_ ?_; (· exact cnd_)) | (with_reducible refine Ev.ifn ?_ ?_; (· exact cnd_))))
      exact Ev.val rfl
  · obtain ⟨r, q1, q2⟩ := key P 0 (1048576 - P.length) rfl (by omega) (by omega) (by omega)
    by_cases c : r < 0
    · refine ⟨-1, ?_, by omega⟩
      simp only [laws_szTree.f, laws_szPageS.f, e]
      refine Ev.bind (a := r) ?_ ?_
      · (repeat (first | with_reducible refine Ev.bindS ?_ | (with_reducible refine Ev.ifp ?_ ?_; (· exact cnd_)) | (with_reducible refine Ev.ifn ?_ ?_; (· exact cnd_))))
        exact q1
      · (repeat (first | with_reducible refine Ev.bindS ?_ | (with_reducible refine Ev.ifp ?_ ?_; (· exact cnd_)) | (with_reducible refine Ev.ifn ?_ ?_; (· exact cnd_))))
        exact Ev.val rfl
    · refine ⟨r, ?_, fun hr => ⟨by omega, q2 hr⟩⟩
      simp only [laws_szTree.f, laws_szPageS.f, e]
      refine Ev.bind (a := r) ?_ ?_
      · (repeat (first | with_reducible refine Ev.bindS ?_ | (with_reducible refine Ev.ifp ?_ ?_; (· exact cnd_)) | (with_reducible refine Ev.ifn ?_ ?_; (· exact cnd_))))
        exact q1
      · (repeat (first | with_reducible refine Ev.bindS ?_ | (with_reducible refine Ev.ifp ?_ ?_; (· exact cnd_)) | (with_reducible refine Ev.ifn ?_ ?_; (· exact cnd_))))
        exact Ev.val rfl
def lenP (p : S110) : Prop := p.f0.length ≤ 1048576 ∧ p.f1.length ≤ 1048576 ∧ p.f2.length ≤ 1048576
theorem toTree_ev (P : List S115) (hl : P.length ≤ 1048576) (hw : ∀ p ∈ P, p.f0.length ≤ 1048576 ∧ p.f1.length ≤ 1048576 ∧ p.f2.length ≤ 1048576) : Ev (fun k => laws_toTree.f k P) (P.map cvP) := by
  have h := copy_ev (fun k x3 i => laws_toPageS.l0 k P x3 i) cvP z110 P ?_ ?_
  · simp only [laws_toTree.f, laws_toPageS.f, Int.toNat_natCast]
    refine Ev.bind (a := P.map cvP) ?_ ?_
    · (repeat (first | with_reducible refine Ev.bindS ?_ | (with_reducible refine Ev.ifp ?_ ?_; (· exact cnd_)) | (with_reducible refine Ev.ifn ?_ ?_; (· exact cnd_))))
      exact h
    · exact Ev.val rfl
  · intro k x3
    simp only [laws_toPageS.l0]
    rw [if_neg (by omega)]
  · intro i x hx
    have hlt := (List.getElem?_eq_some_iff.1 hx).1
    obtain ⟨w1, w2, w3⟩ := hw x (List.mem_of_getElem? hx)
    have hrd : rd_T115 P (i : Int) = x := rdOf_at (z := z115) hx
    obtain ⟨K1, g1⟩ := toStrs_ev x.f0 w1
    obtain ⟨K2, g2⟩ := toStrs_ev x.f1 w2
    refine ⟨max (max K1 K2) (x.f2.length + 1), fun k x3 hk h3 => ?_⟩
    simp only [laws_toPageS.l0]
    rw [if_pos (by omega), if_pos (by omega), hrd, wrap_succ (by omega), Int.toNat_natCast]
    have e1 := g1 k (by omega)
    have e2 := g2 k (by omega)
    have e3 := toInt_eq x.f2 (by omega) k (by omega)
    dsimp only at e1 e2
    simp only [laws_toPage.f, e1, e2, e3, Option.bind_some]
    rw [if_pos (by omega)]
    rfl
theorem eqTree_ev (P : List S110) (hl : P.length ≤ 1048576) (hw : ∀ p ∈ P, lenP p) : Ev (fun k => laws_eqTree.f k P P) true := by
  have h := all_ev (fun k i => laws_eqPageS.l0 k P P i) P.length true ?_ ?_
  · simp only [laws_eqTree.f, laws_eqPageS.f]
    refine Ev.bind (a := true) ?_ ?_
    · (repeat (first | with_reducible refine Ev.bindS ?_ | (with_reducible refine Ev.ifp ?_ ?_; (· exact cnd_)) | (with_reducible refine Ev.ifn ?_ ?_; (· exact cnd_))))
      exact h
    · (repeat (first | with_reducible refine Ev.bindS ?_ | (with_reducible refine Ev.ifp ?_ ?_; (· exact cnd_)) | (with_reducible refine Ev.ifn ?_ ?_; (· exact cnd_))))
      exact Ev.val rfl
  · intro k
    simp only [laws_eqPageS.l0]
    rw [if_neg (by omega)]
  · intro i hi
    have hx : P[i]? = some P[i] := List.getElem?_eq_getElem hi
    obtain ⟨w1, w2, w3⟩ := hw _ (List.mem_of_getElem? hx)
    have hrd : rd_T110 P (i : Int) = P[i] := rdOf_at (z := z110) hx
    generalize P[i] = x at *
    obtain ⟨K1, g1⟩ := eqStrs_ev x.f0 w1
    obtain ⟨K2, g2⟩ := eqStrs_ev x.f1 w2
    refine ⟨max (max K1 K2) (x.f2.length + 1), fun k hk => ?_⟩
    simp only [laws_eqPageS.l0]
    rw [if_pos (by omega), if_pos (by omega), if_pos (by omega), hrd, wrap_succ (by omega)]
    have e1 := g1 k (by omega)
    have e2 := g2 k (by omega)
    have e3 := eqInt_self x.f2 (by omega) k (by omega)
    dsimp only at e1 e2
    simp only [laws_eqPage.f, e1, e2, e3, Option.bind_some]
    rfl
end Go.Proofs.Ytoddejmlcnbdmaa.Pure
namespace Go.Proofs.Ytoddejmlcnbdmaa.Pure
open Go.RowKit Go.Proofs.Ytoddejmlcnbdmaa.Fn Go.Proofs.YtoddejmlcnbdmaaW.PrintWords Go.Proofs.YtoddejmlcnbdmaaW.PrintLast Go.Proofs.YtoddejmlcnbdmaaW.PrintMore Go.Proofs.Ytoddejmlcnbdmaa.Tree
set_option linter.unusedSimpArgs false
set_option linter.unusedVariables false

theorem within_eq (a b c : Int) : impl_within.f a b c = some (decide (b ≤ a ∧ a ≤ c)) := by
  unfold impl_within.f
  by_cases h : b ≤ a
  · rw [if_pos h]; simp [h]
  · rw [if_neg h]; simp [h]
def keyOk (s : ByteArray) : Bool := decide (1 ≤ s.size ∧ s.size ≤ 12)
def valOk (s : ByteArray) : Bool := decide (s.size ≤ 12)
theorem isKey_eq (s : ByteArray) : impl_isKey.f s = some (keyOk s) := by
  simp only [impl_isKey.f, within_eq, Option.bind_some, keyOk, Option.some.injEq, decide_eq_decide]
  omega
theorem isVal_eq (s : ByteArray) : impl_isVal.f s = some (valOk s) := by
  simp only [impl_isVal.f, valOk, Option.some.injEq, decide_eq_decide]
  omega
theorem text_eq (s : ByteArray) : spec_l5Text.f s = some (valOk s) := isVal_eq s
theorem size_nil (s : ByteArray) : (s.toList != ([] : List UInt8)) = decide (1 ≤ s.size) := by
  rw [Bool.eq_iff_iff]
  simp only [bne_iff_ne, ne_eq, toList_nil, decide_eq_true_eq]
  rw [← nm_length]
  cases h : nm s with
  | nil => simp
  | cons x t => simp
theorem pair_eq (a b : ByteArray) : spec_l5Pair.f a b = some (keyOk a && valOk b) := by
  simp only [spec_l5Pair.f, text_eq, Option.bind_some, size_nil]
  cases ha : valOk a with
  | false =>
    have : keyOk a = false := by
      simp only [valOk, decide_eq_false_iff_not] at ha
      simp only [keyOk, decide_eq_false_iff_not]
      omega
    simp [this]
  | true =>
    have : keyOk a = decide (1 ≤ a.size) := by
      simp only [valOk, decide_eq_true_eq] at ha
      simp only [keyOk, decide_eq_decide]
      omega
    cases hb : valOk b <;> simp [this]
theorem pairS_eq (a b : ByteArray) : pairS a b = (keyOk a && valOk b) := by
  have := (pairS_f a b).symm.trans (pair_eq a b)
  exact Option.some.inj this
/-- Rising keys, the one ahead being prev. -/
def riseP : List ByteArray → Option ByteArray → Bool
  | [], _ => true
  | k :: ks, prev => keyOk k && (prevOk prev k && riseP ks (some k))
theorem chk_split : ∀ (ks vs : List ByteArray) (prev : Option ByteArray), ks.length = vs.length → chkS ks vs prev = (riseP ks prev && vs.all valOk)
  | [], [], _, _ => rfl
  | [], v :: vs, _, h => by simp at h
  | k :: ks, [], _, h => by simp at h
  | k :: ks, v :: vs, prev, h => by
    have := chk_split ks vs (some k) (by simpa using h)
    rw [chkS, List.headD_cons, List.drop_succ_cons, List.drop_zero, this, pairS_eq, riseP, List.all_cons]
    cases keyOk k <;> cases valOk v <;> cases prevOk prev k <;> simp
theorem rising_ev (K : List ByteArray) (hK : K.length ≤ 1048576000) : Ev (fun k => impl_areRising.f k K) (riseP K none) := by
  have key : ∀ (t : List ByteArray) (i : Nat), K.drop i = t → i ≤ K.length → Ev (fun k => impl_areRising.l0 k K K K.length i) (riseP t (prevAt K i)) := by
    intro t
    induction t with
    | nil =>
      intro i h hi
      have := drop_nil h
      (refine Ev.up ?_; simp only [impl_areRising.l0, decT])
      (repeat (first | with_reducible refine Ev.bindS ?_ | (with_reducible refine Ev.ifp ?_ ?_; (· exact cnd_)) | (with_reducible refine Ev.ifn ?_ ?_; (· exact cnd_))))
      exact Ev.val rfl
    | cons x t ih =>
      intro i h hi
      obtain ⟨p1, p2, p3⟩ := drop_cons h
      have ih := ih (i + 1) p3 (by omega)
      have hn : prevAt K (i + 1) = some x := p2
      rw [hn] at ih
      (refine Ev.up ?_; simp only [impl_areRising.l0, decT])
      rw [rdOf_at p2, wrap_succ (by omega), isKey_eq]
      simp only [riseP]
      cases hp : keyOk x with
      | false =>
        (repeat (first | with_reducible refine Ev.bindS ?_ | (with_reducible refine Ev.ifp ?_ ?_; (· exact cnd_)) | (with_reducible refine Ev.ifn ?_ ?_; (· exact cnd_))))
        exact Ev.val (by simp)
      | true =>
        rw [Bool.true_and]
        (repeat (first | with_reducible refine Ev.bindS ?_ | (with_reducible refine Ev.ifp ?_ ?_; (· exact cnd_)) | (with_reducible refine Ev.ifn ?_ ?_; (· exact cnd_))))
        rcases Nat.eq_zero_or_pos i with h0 | h0
        · subst h0
          simp only [prevAt, prevOk, Bool.true_and]
          (repeat (first | with_reducible refine Ev.bindS ?_ | (with_reducible refine Ev.ifp ?_ ?_; (· exact cnd_)) | (with_reducible refine Ev.ifn ?_ ?_; (· exact cnd_))))
          exact ih
        · obtain ⟨j, rfl⟩ : ∃ j, i = j + 1 := ⟨i - 1, by omega⟩
          have e : wrap64 (((j + 1 : Nat) : Int) - 1) = (j : Int) := by rw [wrap_ok (by omega) (by omega)]; omega
          have hj : j < K.length := by omega
          have hj2 : K[j]? = some K[j] := List.getElem?_eq_getElem hj
          simp only [prevAt, hj2, prevOk]
          rw [e, rdOf_at hj2]
          (repeat (first | with_reducible refine Ev.bindS ?_ | (with_reducible refine Ev.ifp ?_ ?_; (· exact cnd_)) | (with_reducible refine Ev.ifn ?_ ?_; (· exact cnd_))))
          cases hb : ltB K[j] x with
          | true =>
            have hb' : Op.bytesLess K[j].toList x.toList = true := hb
            rw [Bool.true_and]
            (repeat (first | with_reducible refine Ev.bindS ?_ | (with_reducible refine Ev.ifp ?_ ?_; (· exact cnd_)) | (with_reducible refine Ev.ifn ?_ ?_; (· exact cnd_))))
            exact ih
          | false =>
            have hb' : ¬ Op.bytesLess K[j].toList x.toList = true := by
              have : Op.bytesLess K[j].toList x.toList = false := hb
              rw [this]; simp
            (repeat (first | with_reducible refine Ev.bindS ?_ | (with_reducible refine Ev.ifp ?_ ?_; (· exact cnd_)) | (with_reducible refine Ev.ifn ?_ ?_; (· exact cnd_))))
            exact Ev.val (by simp)
  exact key K 0 rfl (by omega)
theorem find_ev (l : List ByteArray) (hl : l.length ≤ 1048576000) : Ev (fun k => slices_ContainsFunc_at117.f k l) (!(l.all valOk)) := by
  have key : ∀ (t : List ByteArray) (i : Nat), l.drop i = t → i ≤ l.length → ∃ r : Int, Ev (fun k => slices_IndexFunc_at117.l0 k l l.length i) r ∧ decide (r ≥ 0) = !(t.all valOk) := by
    intro t
    induction t with
    | nil =>
      intro i h hi
      have := drop_nil h
      refine ⟨-1, ?_, by simp⟩
      (refine Ev.up ?_; simp only [slices_IndexFunc_at117.l0, decT])
      (repeat (first | with_reducible refine Ev.bindS ?_ | (with_reducible refine Ev.ifp ?_ ?_; (· exact cnd_)) | (with_reducible refine Ev.ifn ?_ ?_; (· exact cnd_))))
      exact Ev.val rfl
    | cons x t ih =>
      intro i h hi
      obtain ⟨p1, p2, p3⟩ := drop_cons h
      obtain ⟨r, ih, hr⟩ := ih (i + 1) p3 (by omega)
      cases hx : valOk x with
      | true =>
        refine ⟨r, ?_, by rw [List.all_cons, hx, hr]; simp⟩
        (refine Ev.up ?_; simp only [slices_IndexFunc_at117.l0, decT])
        simp only [rdOf_at p2, wrap_succ (i := i) (by omega), impl_arePairs_1.f, isVal_eq, hx, Option.bind_some]
        (repeat (first | with_reducible refine Ev.bindS ?_ | (with_reducible refine Ev.ifp ?_ ?_; (· exact cnd_)) | (with_reducible refine Ev.ifn ?_ ?_; (· exact cnd_))))
        exact ih
      | false =>
        refine ⟨i, ?_, by rw [List.all_cons, hx]; simp⟩
        (refine Ev.up ?_; simp only [slices_IndexFunc_at117.l0, decT])
        simp only [rdOf_at p2, wrap_succ (i := i) (by omega), impl_arePairs_1.f, isVal_eq, hx, Option.bind_some]
        (repeat (first | with_reducible refine Ev.bindS ?_ | (with_reducible refine Ev.ifp ?_ ?_; (· exact cnd_)) | (with_reducible refine Ev.ifn ?_ ?_; (· exact cnd_))))
        exact Ev.val rfl
  obtain ⟨r, h1, h2⟩ := key l 0 rfl (by omega)
  simp only [slices_ContainsFunc_at117.f]
  refine Ev.bind (g := fun k => slices_IndexFunc_at117.f k l) h1 ?_
  exact Ev.val h2
def pairsOk (K V : List ByteArray) : Bool := decide (K.length ≤ 40) && (decide (V.length = K.length) && (riseP K none && V.all valOk))
theorem arePairs_ev (K V : List ByteArray) (hK : K.length ≤ 1048576000) (hV : V.length ≤ 1048576000) : Ev (fun k => impl_arePairs.f k K V) (pairsOk K V) := by
  simp only [impl_arePairs.f, pairsOk]
  by_cases h : K.length ≤ 40
  · rw [decide_eq_true h, Bool.true_and]
    (repeat (first | with_reducible refine Ev.bindS ?_ | (with_reducible refine Ev.ifp ?_ ?_; (· exact cnd_)) | (with_reducible refine Ev.ifn ?_ ?_; (· exact cnd_))))
    by_cases h2 : V.length = K.length
    · rw [decide_eq_true h2, Bool.true_and]
      (repeat (first | with_reducible refine Ev.bindS ?_ | (with_reducible refine Ev.ifp ?_ ?_; (· exact cnd_)) | (with_reducible refine Ev.ifn ?_ ?_; (· exact cnd_))))
      refine Ev.bind (rising_ev K hK) ?_
      cases riseP K none with
      | false => (repeat (first | with_reducible refine Ev.bindS ?_ | (with_reducible refine Ev.ifp ?_ ?_; (· exact cnd_)) | (with_reducible refine Ev.ifn ?_ ?_; (· exact cnd_)))); exact Ev.val (by simp)
      | true =>
        (repeat (first | with_reducible refine Ev.bindS ?_ | (with_reducible refine Ev.ifp ?_ ?_; (· exact cnd_)) | (with_reducible refine Ev.ifn ?_ ?_; (· exact cnd_))))
        refine Ev.bind (find_ev V hV) ?_
        exact Ev.val (by simp)
    · rw [decide_eq_false h2]
      (repeat (first | with_reducible refine Ev.bindS ?_ | (with_reducible refine Ev.ifp ?_ ?_; (· exact cnd_)) | (with_reducible refine Ev.ifn ?_ ?_; (· exact cnd_))))
      exact Ev.val (by simp)
  · rw [decide_eq_false h]
    (repeat (first | with_reducible refine Ev.bindS ?_ | (with_reducible refine Ev.ifp ?_ ?_; (· exact cnd_)) | (with_reducible refine Ev.ifn ?_ ?_; (· exact cnd_))))
    exact Ev.val (by simp)
theorem pairs_chk (K V : List ByteArray) (h : V.length = K.length) : pairsOk K V = (decide (K.length ≤ 40) && chkS K V none) := by
  rw [pairsOk, chk_split K V none h.symm, decide_eq_true h, Bool.true_and]
end Go.Proofs.Ytoddejmlcnbdmaa.Pure
namespace Go.Proofs.Ytoddejmlcnbdmaa.Pure
open Go.RowKit Go.Proofs.Ytoddejmlcnbdmaa.Fn Go.Proofs.YtoddejmlcnbdmaaW.PrintWords Go.Proofs.YtoddejmlcnbdmaaW.PrintLast Go.Proofs.YtoddejmlcnbdmaaW.PrintMore Go.Proofs.Ytoddejmlcnbdmaa.Tree
set_option linter.unusedSimpArgs false
set_option linter.unusedVariables false

/-- All leaves h deep, and each kid with two keys at least. -/
def Lev : Nat → PT → Prop
  | 0, _ => False
  | h + 1, t => (t.kids = [] ∧ h = 0) ∨ (t.kids ≠ [] ∧ ∀ s ∈ t.kids, Lev h s ∧ 2 ≤ s.keys.length)
theorem lev_pos {h : Nat} {t : PT} (hl : Lev h t) : 1 ≤ h := by
  cases h with
  | zero => exact hl.elim
  | succ h => omega
theorem lev_uniq : ∀ {h g : Nat} {t : PT}, Lev h t → Lev g t → h = g
  | 0, _, t, a, _ => a.elim
  | h + 1, 0, t, _, b => b.elim
  | h + 1, g + 1, t, a, b => by
    rcases a with ⟨a1, a2⟩ | ⟨a1, a2⟩ <;> rcases b with ⟨b1, b2⟩ | ⟨b1, b2⟩
    · omega
    · exact absurd a1 b1
    · exact absurd b1 a1
    · cases hk : t.kids with
      | nil => exact absurd hk a1
      | cons c cs =>
        have := lev_uniq (a2 c (by rw [hk]; exact List.mem_cons_self)).1 (b2 c (by rw [hk]; exact List.mem_cons_self)).1
        omega
theorem lev_big : ∀ {h : Nat} {t : PT}, Lev h t → h ≤ t.big
  | 0, t, a => a.elim
  | h + 1, t, a => by
    rcases a with ⟨a1, a2⟩ | ⟨a1, a2⟩
    · have := t.big_pos
      omega
    · cases hk : t.kids with
      | nil => exact absurd hk a1
      | cons c cs =>
        have h0 : t.kids[0]? = some c := by rw [hk]; rfl
        have := lev_big (a2 c (by rw [hk]; exact List.mem_cons_self)).1
        have := PT.big_kid h0
        omega
/-- even tells the level, or -1 where there is none. -/
theorem even_lev : ∀ (n : Nat) (t : PT), t.big ≤ n → t.big ≤ 1000000000000 → (∃ h, Lev h t ∧ evenS t = (h : Int)) ∨ ((∀ h, ¬ Lev h t) ∧ evenS t = -1)
  | 0, t, hn, _ => absurd t.big_pos (by omega)
  | n + 1, t, hn, hb => by
    cases hk : t.kids with
    | nil =>
      exact .inl ⟨1, .inl ⟨hk, rfl⟩, evenS_leaf (by rw [hk]; rfl)⟩
    | cons c cs =>
      have h0 : t.kids[0]? = some c := by rw [hk]; rfl
      have he := evenS_node h0
      have hc := PT.big_kid h0
      have kid : ∀ s ∈ t.kids, (∃ h, Lev h s ∧ evenS s = (h : Int)) ∨ ((∀ h, ¬ Lev h s) ∧ evenS s = -1) := fun s hs => by
        obtain ⟨i, hi⟩ := List.getElem?_of_mem hs
        have := PT.big_kid hi
        exact even_lev n s (by omega) (by omega)
      have hall : ∀ (l : List PT) (d : Int), evenL d l = true ↔ ∀ s ∈ l, ¬ d < 0 ∧ evenS s = d ∧ ¬ s.keys.length < 2 := by
        intro l d
        induction l with
        | nil => simp [evenL]
        | cons a l ih =>
          rw [evenL, Bool.and_eq_true, ih]
          simp [and_assoc]
      rw [List.drop_zero] at he
      have hcm : c ∈ t.kids := by rw [hk]; exact List.mem_cons_self
      rcases kid c hcm with ⟨h, hl, hev⟩ | ⟨hno, hev⟩
      · by_cases hL : evenL (evenS c) t.kids = true
        · rw [if_pos hL] at he
          refine .inl ⟨h + 1, .inr ⟨by rw [hk]; simp, fun s hs => ?_⟩, ?_⟩
          · obtain ⟨a1, a2, a3⟩ := (hall _ _).1 hL s hs
            rcases kid s hs with ⟨g, gl, gev⟩ | ⟨_, gev⟩
            · have : g = h := by omega
              subst this
              exact ⟨gl, by omega⟩
            · omega
          · have := lev_big hl
            rw [he, hev, wrap_ok (by omega) (by omega)]
            omega
        · rw [if_neg hL] at he
          refine .inr ⟨fun g hg => hL ((hall _ _).2 fun s hs => ?_), he⟩
          cases g with
          | zero => exact hg.elim
          | succ g =>
            rcases hg with ⟨hg, _⟩ | ⟨_, hg⟩
            · rw [hk] at hg; cases hg
            · have hgc := lev_uniq (hg c hcm).1 hl
              subst hgc
              obtain ⟨s1, s2⟩ := hg s hs
              have s3 := lev_pos s1
              rcases kid s hs with ⟨f, fl, fev⟩ | ⟨fno, _⟩
              · have := lev_uniq fl s1
                exact ⟨by omega, by omega, by omega⟩
              · exact absurd s1 (fno g)
      · refine .inr ⟨fun g hg => ?_, ?_⟩
        · cases g with
          | zero => exact hg.elim
          | succ g =>
            rcases hg with ⟨hg, _⟩ | ⟨_, hg⟩
            · rw [hk] at hg; cases hg
            · exact hno g (hg c hcm).1
        · rw [he, if_neg]
          rw [hall]
          intro h
          have := (h c hcm).1
          omega
def rootOk (t : PT) : Bool := t.kids.isEmpty || decide (0 < t.keys.length)
theorem depth_lev : ∀ (n : Nat) (t : PT), t.big ≤ n → t.big ≤ 1000000000000 → (∃ h, Lev h t ∧ depthP t = ((h : Int), rootOk t)) ∨ ((∀ h, ¬ Lev h t) ∧ depthP t = (0, false))
  | 0, t, hn, _ => absurd t.big_pos (by omega)
  | n + 1, t, hn, hb => by
    cases hk : t.kids with
    | nil =>
      refine .inl ⟨1, .inl ⟨hk, rfl⟩, ?_⟩
      rw [depthP_leaf (by rw [hk]; rfl), rootOk, hk]
      rfl
    | cons c cs =>
      have kid : ∀ s ∈ t.kids, (∃ h, Lev h s ∧ depthP s = ((h : Int), rootOk s)) ∨ ((∀ h, ¬ Lev h s) ∧ depthP s = (0, false)) := fun s hs => by
        obtain ⟨i, hi⟩ := List.getElem?_of_mem hs
        have := PT.big_kid hi
        exact depth_lev n s (by omega) (by omega)
      have hne : t.kids.length ≠ 0 := by rw [hk]; simp
      have he := depthP_node hne
      rw [List.drop_zero] at he
      -- the loop, from a kid on: all of level h, or none
      have loop : ∀ (l : List PT), (∀ s ∈ l, s ∈ t.kids) → ∀ (i : Nat) (f : Int), (∃ h : Nat, (∀ s ∈ l, Lev h s ∧ 2 ≤ s.keys.length) ∧ (0 < i → f = (h : Int)) ∧ depthL i f l = some (if l = [] then f else (h : Int))) ∨
          ((∀ h : Nat, (0 < i → f = (h : Int)) → ¬ ∀ s ∈ l, Lev h s ∧ 2 ≤ s.keys.length) ∧ (l ≠ [] → depthL i f l = none)) := by
        intro l
        induction l with
        | nil =>
          intro _ i f
          by_cases hi : 0 < i → ∃ h : Nat, f = (h : Int)
          · rcases Nat.eq_zero_or_pos i with h0 | h0
            · exact .inl ⟨0, by simp, by omega, by rw [if_pos rfl, depthL]⟩
            · obtain ⟨h, hf⟩ := hi h0
              exact .inl ⟨h, by simp, fun _ => hf, by rw [if_pos rfl, depthL]⟩
          · refine .inr ⟨fun h hf _ => hi fun hi => ⟨h, hf hi⟩, fun h => absurd rfl h⟩
        | cons a l ih =>
          intro hsub i f
          have ha := hsub a List.mem_cons_self
          have hsub' : ∀ s ∈ l, s ∈ t.kids := fun s hs => hsub s (List.mem_cons_of_mem _ hs)
          rcases kid a ha with ⟨h, hl, hd⟩ | ⟨hno, hd⟩
          · by_cases h2 : a.keys.length < 2
            · refine .inr ⟨fun g _ hg => ?_, fun _ => ?_⟩
              · have := (hg a List.mem_cons_self).2
                omega
              · rw [depthL, if_pos]
                simp [h2]
            · have hro : rootOk a = true := by rw [rootOk, decide_eq_true (by omega), Bool.or_true]
              by_cases h3 : 0 < i ∧ (h : Int) ≠ f
              · refine .inr ⟨fun g hf hg => ?_, fun _ => ?_⟩
                · have := lev_uniq hl (hg a List.mem_cons_self).1
                  have := hf h3.1
                  omega
                · rw [depthL, if_pos]
                  simp [hd, h3.1, h3.2]
              · have hstep : depthL i f (a :: l) = depthL (i + 1) (h : Int) l := by
                  rw [depthL, if_neg, hd]
                  rcases Nat.eq_zero_or_pos i with h0 | h0
                  · simp [hd, hro, h2, h0]
                  · have : (h : Int) = f := by
                      rcases Decidable.em ((h : Int) = f) with h4 | h4
                      · exact h4
                      · exact absurd ⟨h0, h4⟩ h3
                    simp [hd, hro, h2, this]
                rcases ih hsub' (i + 1) (h : Int) with ⟨g, g1, g2, g3⟩ | ⟨g1, g2⟩
                · have hgh : h = g := by have := g2 (by omega); omega
                  subst hgh
                  refine .inl ⟨h, fun s hs => ?_, fun hi => ?_, ?_⟩
                  · rcases List.mem_cons.1 hs with rfl | hs
                    · exact ⟨hl, by omega⟩
                    · exact g1 s hs
                  · rcases Decidable.em ((h : Int) = f) with h4 | h4
                    · exact h4.symm
                    · exact absurd ⟨hi, h4⟩ h3
                  · rw [hstep, g3]
                    simp
                · by_cases hl0 : l = []
                  · subst hl0
                    exact absurd (by simp) (g1 h (fun _ => rfl))
                  · refine .inr ⟨fun g hf hg => ?_, fun _ => by rw [hstep]; exact g2 hl0⟩
                    have hgh := lev_uniq hl (hg a List.mem_cons_self).1
                    subst hgh
                    exact g1 h (fun _ => rfl) fun s hs => hg s (List.mem_cons_of_mem _ hs)
          · refine .inr ⟨fun g _ hg => hno g (hg a List.mem_cons_self).1, fun _ => ?_⟩
            rw [depthL, if_pos]
            simp [hd]
      rcases loop t.kids (fun s hs => hs) 0 0 with ⟨h, h1, _, h3⟩ | ⟨h1, h2⟩
      · rw [if_neg (by rw [hk]; simp)] at h3
        refine .inl ⟨h + 1, .inr ⟨by rw [hk]; simp, h1⟩, ?_⟩
        have hc : c ∈ t.kids := by rw [hk]; exact List.mem_cons_self
        have hcb := lev_big (h1 c hc).1
        obtain ⟨i, hi⟩ := List.getElem?_of_mem hc
        have := PT.big_kid hi
        rw [he, h3, depthR, rootOk, hk, wrap_ok (by omega) (by omega)]
        simp
      · refine .inr ⟨fun g hg => ?_, by rw [he, h2 (by rw [hk]; simp)]; rfl⟩
        cases g with
        | zero => exact hg.elim
        | succ g =>
          rcases hg with ⟨hg, _⟩ | ⟨_, hg⟩
          · rw [hk] at hg; cases hg
          · exact h1 g (fun h => by omega) hg
end Go.Proofs.Ytoddejmlcnbdmaa.Pure
namespace Go.Proofs.Ytoddejmlcnbdmaa.Pure
open Go.RowKit Go.Proofs.Ytoddejmlcnbdmaa.Fn Go.Proofs.YtoddejmlcnbdmaaW.PrintWords Go.Proofs.YtoddejmlcnbdmaaW.PrintLast Go.Proofs.YtoddejmlcnbdmaaW.PrintMore Go.Proofs.Ytoddejmlcnbdmaa.Tree
set_option linter.unusedSimpArgs false
set_option linter.unusedVariables false

theorem weave_sum {α : Type} : ∀ (cs : List (List α)) (ks : List α), cs.length = ks.length + 1 → (weave cs ks).length + 1 = (cs.map fun c => c.length + 1).sum
  | [], ks, h => by simp at h
  | [c], [], _ => by simp [weave]
  | c :: d :: cs, [], h => by simp at h
  | c :: cs, k :: ks, h => by
    have := weave_sum cs ks (by simpa using h)
    simp only [weave, List.length_append, List.length_cons, List.map_cons, List.sum_cons]
    omega
theorem sum_ge {α : Type} (f : α → Nat) (m : Nat) : ∀ l : List α, (∀ x ∈ l, m ≤ f x) → l.length * m ≤ (l.map f).sum
  | [], _ => by simp
  | x :: l, h => by
    have := sum_ge f m l fun y hy => h y (List.mem_cons_of_mem _ hy)
    have := h x List.mem_cons_self
    simp only [List.length_cons, List.map_cons, List.sum_cons, Nat.succ_mul]
    omega
/-- A tree of h levels has many keys (Bayer and McCreight). -/
theorem cnt_lev : ∀ (h : Nat) (t : PT), Shp t → Lev (h + 1) t → (t.keys.length + 1) * 3 ^ h ≤ (allK t).length + 1
  | h, t, hs, hl => by
    have h1 := hs.one
    unfold Shp1 at h1
    rcases hl with ⟨a1, a2⟩ | ⟨a1, a2⟩
    · subst a2
      rw [allK_eq, a1]
      simp [weave]
    · have hkl : t.kids.length = t.keys.length + 1 := h1.2.2.resolve_left (by
        intro h0
        exact a1 (List.length_eq_zero_iff.1 h0))
      cases h with
      | zero =>
        cases hk : t.kids with
        | nil => exact absurd hk a1
        | cons c cs => exact (a2 c (by rw [hk]; exact List.mem_cons_self)).1.elim
      | succ h =>
        rw [allK_eq, weave_sum _ _ (by rw [List.length_map]; exact hkl), List.map_map]
        have := sum_ge ((fun c : List ByteArray => c.length + 1) ∘ allK) (3 ^ (h + 1)) t.kids fun s hm => by
          obtain ⟨l1, l2⟩ := a2 s hm
          obtain ⟨i, hi⟩ := List.getElem?_of_mem hm
          have hr := cnt_lev h s (hs.kid hi) l1
          show 3 ^ (h + 1) ≤ (allK s).length + 1
          have h3 : 3 * 3 ^ h ≤ (s.keys.length + 1) * 3 ^ h := Nat.mul_le_mul_right _ (by omega)
          rw [Nat.pow_succ, Nat.mul_comm]
          omega
        rw [hkl] at this
        exact this
/-! fuel -/
theorem readK_mem {rd : Nat → Option (PT × Nat)} : ∀ (l : List Int) (next : Nat) (acc ts : List PT) (n : Nat), readK rd l next acc = some (ts, n) → ∀ x ∈ acc, x ∈ ts
  | [], next, acc, ts, n, h, x, hx => by
    rw [readK] at h
    injection h with h
    injection h with e1 e2
    rw [← e1]
    exact hx
  | k :: ks, next, acc, ts, n, h, x, hx => by
    rw [readK] at h
    split at h
    · cases h
    · cases hr : rd next with
      | none => rw [hr] at h; cases h
      | some r =>
        rw [hr] at h
        exact readK_mem ks r.2 _ ts n h x (List.mem_append_left _ hx)
theorem readK_sub {rd rd' : Nat → Option (PT × Nat)} {Q : PT → Prop} (hrd : ∀ a t n, rd a = some (t, n) → Q t → rd' a = some (t, n)) : ∀ (l : List Int) (next : Nat) (acc ts : List PT) (n : Nat), readK rd l next acc = some (ts, n) → (∀ s ∈ ts, Q s) → readK rd' l next acc = some (ts, n)
  | [], next, acc, ts, n, h, _ => h
  | k :: ks, next, acc, ts, n, h, hq => by
    rw [readK] at h ⊢
    split at h
    · cases h
    · rename_i hk
      rw [if_neg hk]
      cases hr : rd next with
      | none => rw [hr] at h; cases h
      | some r =>
        rw [hr] at h
        have hm := readK_mem ks r.2 _ ts n h r.1 (List.mem_append_right _ (List.mem_singleton_self _))
        rw [hrd next r.1 r.2 hr (hq _ hm)]
        exact readK_sub hrd ks r.2 _ ts n h hq
theorem readS_parts {P : List S110} {f a n : Nat} {t : PT} (h : readS P (f + 1) a = some (t, n)) : ¬ P.length ≤ a ∧ badP (P.getD a z110) = false ∧ t.keys = (P.getD a z110).f0 ∧ t.vals = (P.getD a z110).f1 ∧ readK (readS P f) (P.getD a z110).f2 (a + 1) [] = some (t.kids, n) := by
  rw [readS] at h
  split at h
  · cases h
  · rename_i hl
    split at h
    · cases h
    · rename_i hb
      unfold fin at h
      obtain ⟨r, hr, e⟩ := Option.map_eq_some_iff.1 h
      injection e with e1 e2
      subst e1
      refine ⟨hl, by cases hbb : badP (P.getD a z110) <;> simp_all, rfl, rfl, ?_⟩
      rw [hr, ← e2]
      rfl
theorem readS_back {P : List S110} {f a n : Nat} {t : PT} (h1 : ¬ P.length ≤ a) (h2 : badP (P.getD a z110) = false) (h3 : t.keys = (P.getD a z110).f0) (h4 : t.vals = (P.getD a z110).f1) (h5 : readK (readS P f) (P.getD a z110).f2 (a + 1) [] = some (t.kids, n)) : readS P (f + 1) a = some (t, n) := by
  rw [readS, if_neg h1, if_neg (by rw [h2]; decide), h5]
  unfold fin
  rw [Option.map_some, ← h3, ← h4, PT.eta]
theorem readS_mono {P : List S110} : ∀ (f g a : Nat) (t : PT) (n : Nat), f ≤ g → readS P f a = some (t, n) → readS P g a = some (t, n)
  | 0, g, a, t, n, _, h => by cases h
  | f + 1, 0, a, t, n, hg, h => by omega
  | f + 1, g + 1, a, t, n, hg, h => by
    obtain ⟨h1, h2, h3, h4, h5⟩ := readS_parts h
    exact readS_back h1 h2 h3 h4 (readK_sub (Q := fun _ => True) (fun a t n h _ => readS_mono f g a t n (by omega) h) _ _ _ _ _ h5 fun _ _ => trivial)
theorem readS_lev {P : List S110} : ∀ (h f g a : Nat) (t : PT) (n : Nat), h ≤ g → Lev h t → readS P f a = some (t, n) → readS P g a = some (t, n)
  | 0, f, g, a, t, n, _, hl, _ => hl.elim
  | h + 1, 0, g, a, t, n, _, _, hr => by cases hr
  | h + 1, f + 1, 0, a, t, n, hg, _, _ => by omega
  | h + 1, f + 1, g + 1, a, t, n, hg, hl, hr => by
    obtain ⟨h1, h2, h3, h4, h5⟩ := readS_parts hr
    refine readS_back h1 h2 h3 h4 (readK_sub (Q := Lev h) (fun a t n hr hl => readS_lev h f g a t n (by omega) hl hr) _ _ _ _ _ h5 fun s hs => ?_)
    rcases hl with ⟨a1, _⟩ | ⟨_, a2⟩
    · rw [a1] at hs
      cases hs
    · exact (a2 s hs).1
theorem readS_enough {P : List S110} : ∀ (f g a : Nat) (t : PT) (n : Nat), P.length < a + g → readS P f a = some (t, n) → readS P g a = some (t, n)
  | 0, g, a, t, n, _, h => by cases h
  | f + 1, g, a, t, n, hg, h => by
    obtain ⟨h1, h2, h3, h4, h5⟩ := readS_parts h
    cases g with
    | zero => omega
    | succ g =>
      refine readS_back h1 h2 h3 h4 ?_
      have : ∀ (l : List Int) (next : Nat) (acc ts : List PT) (n : Nat), a + 1 ≤ next → readK (readS P f) l next acc = some (ts, n) → readK (readS P g) l next acc = some (ts, n) := by
        intro l
        induction l with
        | nil => intro next acc ts n _ h; exact h
        | cons k ks ih =>
          intro next acc ts n hn h
          rw [readK] at h ⊢
          split at h
          · cases h
          · rename_i hk
            rw [if_neg hk]
            cases hr : readS P f next with
            | none => rw [hr] at h; cases h
            | some r =>
              rw [hr] at h
              rw [readS_enough f g next r.1 r.2 (by omega) hr]
              have := readS_le f next r.1 r.2 hr
              exact ih r.2 _ ts n (by omega) h
      exact this _ _ _ _ _ (Nat.le_refl _) h5
theorem readK_big {P : List S110} {rd : Nat → Option (PT × Nat)} (hrd : ∀ a t n, rd a = some (t, n) → a < n ∧ t.big ≤ n - a) : ∀ (l : List Int) (next : Nat) (acc ts : List PT) (n : Nat), readK rd l next acc = some (ts, n) → next ≤ n ∧ PT.bigL ts ≤ PT.bigL acc + (n - next)
  | [], next, acc, ts, n, h => by
    rw [readK] at h
    injection h with h
    injection h with e1 e2
    subst e1; subst e2
    omega
  | k :: ks, next, acc, ts, n, h => by
    rw [readK] at h
    split at h
    · cases h
    · cases hr : rd next with
      | none => rw [hr] at h; cases h
      | some r =>
        rw [hr] at h
        have h1 := hrd next r.1 r.2 hr
        have h2 := readK_big (P := P) hrd ks r.2 _ ts n h
        have h3 : ∀ (l : List PT) (x : PT), PT.bigL (l ++ [x]) = PT.bigL l + x.big := by
          intro l x
          induction l with
          | nil => simp [PT.bigL]
          | cons y l ih => rw [List.cons_append, PT.bigL, PT.bigL, ih]; omega
        rw [h3] at h2
        omega
theorem readS_big {P : List S110} : ∀ (f a : Nat) (t : PT) (n : Nat), readS P f a = some (t, n) → a < n ∧ t.big ≤ n - a
  | 0, a, t, n, h => by cases h
  | f + 1, a, t, n, h => by
    obtain ⟨h1, h2, h3, h4, h5⟩ := readS_parts h
    have := readK_big (P := P) (fun a t n h => readS_big f a t n h) _ _ _ _ _ h5
    cases t with | mk keys vals kids =>
    rw [PT.big]
    simp only [PT.kids, PT.bigL] at this
    omega
theorem rootOk_iff (t : PT) : rootOk t = true ↔ ¬ (t.kids.length ≠ 0 ∧ t.keys.length = 0) := by
  unfold rootOk
  cases hk : t.kids with
  | nil => simp
  | cons c cs =>
    simp only [List.isEmpty_cons, Bool.false_or, decide_eq_true_eq, List.length_cons]
    omega
/-- With rounds enough the program's tree is the reference's. -/
theorem root_ev (P : List S110) (hP : P.length ≤ 1048576) : Ev (fun k => rootI k P) (ofS P) := by
  unfold rootI ofS
  cases h1 : readS P (P.length + 1) 0 with
  | none =>
    have h2 : readS P 10 0 = none := by
      cases h : readS P 10 0 with
      | none => rfl
      | some r => have := readS_enough 10 (P.length + 1) 0 r.1 r.2 (by omega) h; rw [h1] at this; cases this
    rw [h2]
    exact Ev.val rfl
  | some r =>
    obtain ⟨t, n⟩ := r
    obtain ⟨hlt, hfits⟩ := readS_fits _ 0 t n h1
    have hle := readS_le _ 0 t n h1
    have hbig := readS_big _ 0 t n h1
    have hk := hfits.k
    have hv := hfits.v
    have hvl := allV_len hfits.shp
    have hap := arePairs_ev (allK t) (allV t) (by omega) (by omega)
    have he := even_lev _ t (Nat.le_refl _) (by omega)
    have hd := depth_lev _ t (Nat.le_refl _) (by omega)
    simp only
    by_cases hn : n = P.length
    · refine Ev.ifn (by simp [hn]) ?_
      have hpc := pairs_chk (allK t) (allV t) hvl
      rcases hd with ⟨h, hl, hdp⟩ | ⟨hno, hdp⟩
      · -- level h
        by_cases hh : h ≤ 10
        · have h2 := readS_lev h (P.length + 1) 10 0 t n hh hl h1
          rw [h2]
          simp only
          rw [if_neg (by simp [hn]), hdp]
          have hev : evenS t = (h : Int) := by
            rcases he with ⟨g, gl, ge⟩ | ⟨hno, _⟩
            · rw [ge, lev_uniq gl hl]
            · exact absurd hl (hno h)
          cases hro : rootOk t with
          | false =>
            have : ¬ ¬ (t.kids.length ≠ 0 ∧ t.keys.length = 0) := fun h => by rw [(rootOk_iff t).2 h] at hro; cases hro
            have := Decidable.not_not.1 this
            refine Ev.ifp rfl (Ev.val ?_)
            split
            · rfl
            · rw [if_pos (.inr (.inl this))]
          | true =>
            have hr2 := (rootOk_iff t).1 hro
            refine Ev.ifn (by simp) (Ev.bind hap (Ev.val ?_))
            rw [hpc]
            cases hc : chkS (allK t) (allV t) none with
            | false =>
              rw [if_pos rfl, Bool.and_false]
              rfl
            | true =>
              rw [Bool.and_true]
              by_cases h40 : (allK t).length ≤ 40
              · rw [if_pos (decide_eq_true h40), if_neg (show ¬ (true = false) by decide), if_neg (by rw [hev]; omega)]
              · rw [if_neg (show ¬ decide ((allK t).length ≤ 40) = true by simpa using h40), if_neg (show ¬ (true = false) by decide), if_pos (.inr (.inr (by omega)))]
        · -- too deep: too many keys
          have h2 : readS P 10 0 = none ∨ ∃ r, readS P 10 0 = some r := by
            cases readS P 10 0 with
            | none => exact .inl rfl
            | some r => exact .inr ⟨r, rfl⟩
          obtain ⟨g, rfl⟩ : ∃ g, h = g + 1 := ⟨h - 1, by omega⟩
          have hcnt := cnt_lev g t hfits.shp hl
          have h3 : 3 ^ 10 ≤ 3 ^ g := Nat.pow_le_pow_right (by omega) (by omega)
          have h310 : (3 : Nat) ^ 10 = 59049 := by decide
          have hmany : 40 < (allK t).length := by
            have : 1 * 3 ^ g ≤ (t.keys.length + 1) * 3 ^ g := Nat.mul_le_mul_right _ (by omega)
            omega
          have hfalse : pairsOk (allK t) (allV t) = false := by rw [hpc, decide_eq_false (by omega), Bool.false_and]
          rcases h2 with h2 | ⟨r, h2⟩
          · rw [h2]
            cases hro : rootOk t with
            | false =>
              rw [hdp, hro]
              exact Ev.ifp rfl (Ev.val rfl)
            | true =>
              rw [hdp, hro]
              refine Ev.ifn (by simp) (Ev.bind hap (Ev.val ?_))
              rw [hfalse]
              rfl
          · have h4 := readS_enough 10 (P.length + 1) 0 r.1 r.2 (by omega) h2
            rw [h1] at h4
            injection h4 with h4
            injection h4 with e1 e2
            rw [h2]
            simp only
            rw [← e1, ← e2, if_neg (by simp [hn])]
            have : (if chkS (allK t) (allV t) none = false then (none : Option PT) else if evenS t < 0 ∨ (t.kids.length ≠ 0 ∧ t.keys.length = 0) ∨ 40 < (allK t).length then none else some t) = none := by
              split
              · rfl
              · rw [if_pos (.inr (.inr hmany))]
            rw [this]
            cases hro : rootOk t with
            | false =>
              rw [hdp, hro]
              exact Ev.ifp rfl (Ev.val rfl)
            | true =>
              rw [hdp, hro]
              refine Ev.ifn (by simp) (Ev.bind hap (Ev.val ?_))
              rw [hfalse]
              rfl
      · rw [hdp]
        refine Ev.ifp rfl (Ev.val ?_)
        cases h2 : readS P 10 0 with
        | none => rfl
        | some r =>
          have h4 := readS_enough 10 (P.length + 1) 0 r.1 r.2 (by omega) h2
          rw [h1] at h4
          injection h4 with h4
          injection h4 with e1 e2
          simp only
          rw [← e1, ← e2, if_neg (by simp [hn])]
          have hev : evenS t = -1 := by
            rcases he with ⟨g, gl, _⟩ | ⟨_, h⟩
            · exact absurd gl (hno g)
            · exact h
          split
          · rfl
          · rw [if_pos (.inl (by rw [hev]; decide))]
    · refine Ev.ifp (by simpa using hn) (Ev.val ?_)
      cases h2 : readS P 10 0 with
      | none => rfl
      | some r =>
        have h4 := readS_enough 10 (P.length + 1) 0 r.1 r.2 (by omega) h2
        rw [h1] at h4
        injection h4 with h4
        injection h4 with e1 e2
        simp only
        rw [← e2, if_pos (by simpa using hn)]
end Go.Proofs.Ytoddejmlcnbdmaa.Pure
namespace Go.Proofs.Ytoddejmlcnbdmaa.Pure
open Go.RowKit Go.Proofs.Ytoddejmlcnbdmaa.Fn Go.Proofs.YtoddejmlcnbdmaaW.PrintWords Go.Proofs.YtoddejmlcnbdmaaW.PrintLast Go.Proofs.YtoddejmlcnbdmaaW.PrintMore Go.Proofs.Ytoddejmlcnbdmaa.Tree
set_option linter.unusedSimpArgs false
set_option linter.unusedVariables false

theorem bless_eq : ∀ (x y : List UInt8), Op.bytesLess x y = decide (x < y)
  | [], [] => by simp [Op.bytesLess]
  | _ :: _, [] => by simp [Op.bytesLess]
  | [], _ :: _ => by simp [Op.bytesLess]
  | a :: x, b :: y => by
    rw [Op.bytesLess, bless_eq x y]
    simp only [List.cons_lt_cons_iff]
    by_cases h1 : a < b <;> by_cases h2 : a = b <;> by_cases h3 : x < y <;> simp [h1, h2, h3]
def lt_ (a b : ByteArray) : Prop := a.toList < b.toList
theorem ltB_iff (a b : ByteArray) : ltB a b = true ↔ lt_ a b := by
  unfold ltB lt_
  rw [bless_eq, decide_eq_true_eq]
theorem lt_trans {a b c : ByteArray} (h : lt_ a b) (k : lt_ b c) : lt_ a c := List.lt_trans h k
theorem lt_irrefl (a : ByteArray) : ¬ lt_ a a := List.lt_irrefl _
theorem lt_asymm {a b : ByteArray} (h : lt_ a b) : ¬ lt_ b a := fun k => lt_irrefl a (lt_trans h k)
abbrev Srt (K : List ByteArray) : Prop := K.Pairwise lt_
theorem rise_srt : ∀ (K : List ByteArray) (prev : Option ByteArray), riseP K prev = true → Srt K ∧ ∀ p, prev = some p → ∀ k ∈ K, lt_ p k
  | [], prev, _ => ⟨.nil, fun _ _ k hk => by cases hk⟩
  | k :: ks, prev, h => by
    rw [riseP, Bool.and_eq_true, Bool.and_eq_true] at h
    obtain ⟨h1, h2, h3⟩ := h
    obtain ⟨i1, i2⟩ := rise_srt ks (some k) h3
    refine ⟨List.pairwise_cons.2 ⟨fun x hx => i2 k rfl x hx, i1⟩, ?_⟩
    rintro p rfl x hx
    have hp : lt_ p k := (ltB_iff _ _).1 h2
    rcases List.mem_cons.1 hx with rfl | hx
    · exact hp
    · exact lt_trans hp (i2 k rfl x hx)
/-- The place of a key among rising ones: all ahead are less, none behind. -/
theorem atI_lt (key : ByteArray) : ∀ (K : List ByteArray) (i : Nat) (x : ByteArray), i < atI key K → K[i]? = some x → ltB x key = true
  | [], i, x, h, _ => by rw [atI] at h; omega
  | k :: ks, i, x, h, hx => by
    rw [atI] at h
    split at h
    · rename_i hk
      cases i with
      | zero =>
        obtain rfl := Option.some.inj hx
        exact hk
      | succ i => exact atI_lt key ks i x (by omega) (by simpa using hx)
    · omega
theorem atI_ge (key : ByteArray) : ∀ (K : List ByteArray), Srt K → ∀ (i : Nat) (x : ByteArray), atI key K ≤ i → K[i]? = some x → ltB x key = false
  | [], _, i, x, _, hx => by simp at hx
  | k :: ks, hs, i, x, h, hx => by
    obtain ⟨h1, h2⟩ := List.pairwise_cons.1 hs
    rw [atI] at h
    split at h
    · cases i with
      | zero => omega
      | succ i => exact atI_ge key ks h2 i x (by omega) (by simpa using hx)
    · rename_i hk
      cases hlt : ltB x key with
      | false => rfl
      | true =>
        cases i with
        | zero =>
          obtain rfl := Option.some.inj hx
          exact absurd hlt hk
        | succ i =>
          have hx' : x ∈ ks := List.mem_of_getElem? (i := i) (by simpa using hx)
          exact absurd ((ltB_iff _ _).2 (lt_trans (h1 x hx') ((ltB_iff _ _).1 hlt))) hk
theorem less_f (a b : ByteArray) : cmp_Less_string.f a b = some (ltB a b) := by
  simp [cmp_Less_string.f, cmp_isNaN_string.f, ltB]
theorem nan_f (a : ByteArray) : slices_isNaN_string.f a = some false := by simp [slices_isNaN_string.f]
theorem mid_eq (i j : Nat) (h1 : i < j) (h2 : j ≤ 1048576000) : wrap64 ((IntKind.u64.wrap (wrap64 ((i : Int) + (j : Int)))) / 2) = (((i + j) / 2 : Nat) : Int) := by
  rw [wrap_ok (n := (i : Int) + j) (by omega) (by omega)]
  have e : IntKind.u64.wrap ((i : Int) + j) = (i : Int) + j := by
    simp only [IntKind.wrap, IntKind.bits, IntKind.signed]
    simp
    omega
  rw [e, wrap_ok (by omega) (by omega)]
  omega
theorem search_ev (K : List ByteArray) (key : ByteArray) (hK : K.length ≤ 1048576000) (hs : Srt K) : ∃ b, Ev (fun k => slices_BinarySearch_string_string.f k K key) ((atI key K : Int), b) := by
  have hle := atI_le key K
  have key2 : ∀ (d i j : Nat), j - i ≤ d → i ≤ atI key K → atI key K ≤ j → j ≤ K.length → ∃ b, Ev (fun k => slices_BinarySearch_string_string.l0 k K key (K.length : Int) (i : Int) (j : Int)) ((atI key K : Int), b) := by
    intro d
    induction d with
    | zero =>
      intro i j h1 h2 h3 h4
      have hi : i = atI key K := by omega
      have hj : j = i := by omega
      subst hj
      by_cases hlt : j < K.length
      · have hx : K[j]? = some K[j] := List.getElem?_eq_getElem hlt
        by_cases he : K[j].toList = key.toList
        · refine ⟨true, ?_⟩
          (refine Ev.up ?_; simp only [slices_BinarySearch_string_string.l0, decT])
          simp only [rdOf_at hx]
          (repeat (first | with_reducible refine Ev.bindS ?_ | (with_reducible refine Ev.ifp ?_ ?_; (· exact cnd_)) | (with_reducible refine Ev.ifn ?_ ?_; (· exact cnd_))))
          exact Ev.val (by rw [hi])
        · refine ⟨false, ?_⟩
          (refine Ev.up ?_; simp only [slices_BinarySearch_string_string.l0, decT])
          simp only [rdOf_at hx, nan_f, Option.bind_some]
          (repeat (first | with_reducible refine Ev.bindS ?_ | (with_reducible refine Ev.ifp ?_ ?_; (· exact cnd_)) | (with_reducible refine Ev.ifn ?_ ?_; (· exact cnd_))))
          exact Ev.val (by rw [hi])
      · refine ⟨false, ?_⟩
        (refine Ev.up ?_; simp only [slices_BinarySearch_string_string.l0, decT])
        (repeat (first | with_reducible refine Ev.bindS ?_ | (with_reducible refine Ev.ifp ?_ ?_; (· exact cnd_)) | (with_reducible refine Ev.ifn ?_ ?_; (· exact cnd_))))
        exact Ev.val (by rw [hi])
    | succ d ih =>
      intro i j h1 h2 h3 h4
      by_cases hij : i < j
      · have hm := mid_eq i j hij (by omega)
        obtain ⟨m, hm2⟩ : ∃ m, m = (i + j) / 2 := ⟨_, rfl⟩
        rw [← hm2] at hm
        have hlt : m < K.length := by omega
        have hx : K[m]? = some K[m] := List.getElem?_eq_getElem hlt
        cases hb : ltB K[m] key with
        | true =>
          have hge : m < atI key K := by
            rcases Nat.lt_or_ge m (atI key K) with h | h
            · exact h
            · have := atI_ge key K hs m _ h hx
              rw [hb] at this
              cases this
          obtain ⟨b, h⟩ := ih (m + 1) j (by omega) (by omega) h3 h4
          refine ⟨b, ?_⟩
          (refine Ev.up ?_; simp only [slices_BinarySearch_string_string.l0, decT])
          simp only [hm, rdOf_at hx, less_f, hb, Option.bind_some, wrap_succ (i := m) (by omega)]
          (repeat (first | with_reducible refine Ev.bindS ?_ | (with_reducible refine Ev.ifp ?_ ?_; (· exact cnd_)) | (with_reducible refine Ev.ifn ?_ ?_; (· exact cnd_))))
          exact h
        | false =>
          have hge : atI key K ≤ m := by
            rcases Nat.lt_or_ge m (atI key K) with h | h
            · have := atI_lt key K m _ h hx
              rw [hb] at this
              cases this
            · exact h
          obtain ⟨b, h⟩ := ih i m (by omega) h2 hge (by omega)
          refine ⟨b, ?_⟩
          (refine Ev.up ?_; simp only [slices_BinarySearch_string_string.l0, decT])
          simp only [hm, rdOf_at hx, less_f, hb, Option.bind_some]
          (repeat (first | with_reducible refine Ev.bindS ?_ | (with_reducible refine Ev.ifp ?_ ?_; (· exact cnd_)) | (with_reducible refine Ev.ifn ?_ ?_; (· exact cnd_))))
          exact h
      · exact ih i j (by omega) h2 h3 h4
  exact key2 K.length 0 K.length (by omega) (by omega) hle (Nat.le_refl _)
theorem lessI_ev (K : List ByteArray) (key : ByteArray) (hK : K.length ≤ 1048576000) (hs : Srt K) : Ev (fun k => impl_less.f k K key) (atI key K : Int) := by
  obtain ⟨b, h⟩ := search_ev K key hK hs
  simp only [impl_less.f]
  exact Ev.bind h (Ev.val rfl)
theorem hasAt_f (K : List ByteArray) (i : Nat) (key : ByteArray) : impl_hasAt.f K (i : Int) key = some (hasS K i key) := by
  unfold impl_hasAt.f hasS
  rcases Nat.lt_or_ge i K.length with h | h
  · have hx : K[i]? = some K[i] := List.getElem?_eq_getElem h
    rw [if_pos (by omega), if_pos (by omega), rdOf_at hx, hx]
  · rw [if_neg (by omega), List.getElem?_eq_none h]
/-! the keys of a node, of a kid, among all -/
theorem weave_keys {α : Type} : ∀ (cs : List (List α)) (ks : List α), ks.Sublist (weave cs ks)
  | [], ks => List.Sublist.refl _
  | c :: cs, [] => List.nil_sublist _
  | c :: cs, k :: ks => by
    rw [weave]
    exact ((weave_keys cs ks).cons_cons k).trans (List.sublist_append_right _ _)
theorem weave_kid {α : Type} : ∀ (cs : List (List α)) (ks : List α), cs.length ≤ ks.length + 1 → ∀ c ∈ cs, c.Sublist (weave cs ks)
  | [], ks, _, c, hc => by cases hc
  | [d], [], _, c, hc => by rw [List.mem_singleton.1 hc]; exact List.Sublist.refl _
  | d :: e :: cs, [], h, c, hc => by simp at h
  | d :: cs, k :: ks, h, c, hc => by
    rw [weave]
    rcases List.mem_cons.1 hc with rfl | hc
    · exact List.sublist_append_left _ _
    · exact ((weave_kid cs ks (by simpa using h) c hc).trans (List.sublist_cons_self _ _)).trans (List.sublist_append_right _ _)
theorem srt_keys {t : PT} (h : Srt (allK t)) : Srt t.keys := by
  rw [allK_eq] at h
  exact h.sublist (weave_keys _ _)
theorem srt_kid {t s : PT} {i : Nat} (hs : Shp t) (h : Srt (allK t)) (hi : t.kids[i]? = some s) : Srt (allK s) := by
  rw [allK_eq] at h
  have h1 := hs.one
  unfold Shp1 at h1
  refine h.sublist (weave_kid _ _ (by rw [List.length_map]; omega) _ ?_)
  exact List.mem_map_of_mem (List.mem_of_getElem? hi)
/-- With rounds enough the program finds what the reference finds. -/
theorem get_ev : ∀ (n : Nat) (t : PT) (key : ByteArray), t.big ≤ n → Shp t → Srt (allK t) → ∃ K, ∀ k, K ≤ k → ∀ m, n ≤ m → getI k m t key = some (getS n t key)
  | 0, t, key, hb, _, _ => absurd t.big_pos (by omega)
  | n + 1, t, key, hb, hs, hsrt => by
    have h1 := hs.one
    unfold Shp1 at h1
    obtain ⟨K1, g1⟩ := lessI_ev t.keys key (by omega) (srt_keys hsrt)
    have hle := atI_le key t.keys
    by_cases h0 : t.kids.length = 0
    · refine ⟨K1, fun k hk m hm => ?_⟩
      obtain ⟨m, rfl⟩ : ∃ j, m = j + 1 := ⟨m - 1, by omega⟩
      have e1 := g1 k hk
      dsimp only at e1
      rw [getI, e1, Option.bind_some, hasAt_f, Option.bind_some, getS]
      cases hh : hasS t.keys (atI key t.keys) key with
      | true =>
        have := hasS_lt hh
        rw [if_pos rfl, if_pos rfl, if_pos (by omega)]
      | false => rw [if_neg (show ¬ (false = true) by decide), if_neg (show ¬ (false = true) by decide), if_pos h0, if_pos h0]
    · have hkl : t.kids.length = t.keys.length + 1 := h1.2.2.resolve_left h0
      have hlt : atI key t.keys < t.kids.length := by omega
      have hx : t.kids[atI key t.keys]? = some t.kids[atI key t.keys] := List.getElem?_eq_getElem hlt
      have hkb := PT.big_kid hx
      obtain ⟨K2, g2⟩ := get_ev n _ key (by omega) (hs.kid hx) (srt_kid hs hsrt hx)
      refine ⟨max K1 K2, fun k hk m hm => ?_⟩
      obtain ⟨m, rfl⟩ : ∃ j, m = j + 1 := ⟨m - 1, by omega⟩
      have e1 := g1 k (by omega)
      dsimp only at e1
      rw [getI, e1, Option.bind_some, hasAt_f, Option.bind_some, getS]
      cases hh : hasS t.keys (atI key t.keys) key with
      | true =>
        have := hasS_lt hh
        rw [if_pos rfl, if_pos rfl, if_pos (by omega)]
      | false =>
        rw [if_neg (show ¬ (false = true) by decide), if_neg (show ¬ (false = true) by decide), if_neg h0, if_neg h0, if_pos (by omega), Int.toNat_natCast, hx]
        exact g2 k (by omega) m (by omega)
end Go.Proofs.Ytoddejmlcnbdmaa.Pure
namespace Go.Proofs.Ytoddejmlcnbdmaa.Pure
open Go.RowKit Go.Proofs.Ytoddejmlcnbdmaa.Fn Go.Proofs.YtoddejmlcnbdmaaW.PrintWords Go.Proofs.YtoddejmlcnbdmaaW.PrintLast Go.Proofs.YtoddejmlcnbdmaaW.PrintMore Go.Proofs.Ytoddejmlcnbdmaa.Tree
set_option linter.unusedSimpArgs false
set_option linter.unusedVariables false

theorem pages_ok (l : List S115) (hl : l.length ≤ 1048576) (hs : ∀ p ∈ l, shortP 1048576 p) :
    okP (l.map cvP) = true ∧ (l.map cvP).length ≤ 1048576 ∧ Ev (fun k => laws_toTree.f k l) (l.map cvP) ∧ Ev (fun k => laws_eqTree.f k (l.map cvP) (l.map cvP)) true := by
  have hm : ∀ q ∈ l.map cvP, lenP q := fun q hq => by
    obtain ⟨p, hp, rfl⟩ := List.mem_map.1 hq
    obtain ⟨a1, a2, a3, _⟩ := hs p hp
    exact ⟨by show p.f0.length ≤ _; omega, by show p.f1.length ≤ _; omega, by show p.f2.length ≤ _; omega⟩
  refine ⟨?_, by rw [List.length_map]; exact hl, toTree_ev l hl (fun p hp => by obtain ⟨a1, a2, a3, _⟩ := hs p hp; omega), eqTree_ev _ (by rw [List.length_map]; exact hl) hm⟩
  unfold okP
  simp only [Bool.and_eq_true, decide_eq_true_eq, List.all_eq_true, List.length_map]
  refine ⟨by omega, fun q hq => ?_⟩
  obtain ⟨a1, a2, a3⟩ := hm q hq
  omega
/-- A good tree. -/
structure Good (t : PT) : Prop where
  shp : Shp t
  srt : Srt (allK t)
  few : (allK t).length ≤ 40
  big : t.big ≤ 1048576
  four : t.keys.length ≤ 4
  lev : ∃ h, Lev h t ∧ evenS t = (h : Int) ∧ depthP t = ((h : Int), true)
  keys : (allK t).all keyOk = true
  vals : (allV t).all valOk = true
theorem rise_keys : ∀ (K : List ByteArray) (prev : Option ByteArray), riseP K prev = true → K.all keyOk = true
  | [], _, _ => rfl
  | k :: ks, prev, h => by
    rw [riseP, Bool.and_eq_true, Bool.and_eq_true] at h
    rw [List.all_cons, h.1, rise_keys ks (some k) h.2.2]
    rfl
theorem of_good {P : List S110} {t : PT} (hP : P.length ≤ 1048576) (h : ofS P = some t) : Good t := by
  unfold ofS at h
  cases hrs : readS P 10 0 with
  | none => rw [hrs] at h; cases h
  | some r =>
    rw [hrs] at h
    simp only at h
    obtain ⟨r1, r2⟩ := r
    have hf := (readS_fits 10 0 r1 r2 hrs).2
    have hbig := readS_big 10 0 r1 r2 hrs
    have hle := readS_le 10 0 r1 r2 hrs
    split at h
    · cases h
    · split at h
      · cases h
      · split at h
        · cases h
        · rename_i hc hno
          obtain rfl := Option.some.inj h
          have hc' : chkS (allK r1) (allV r1) none = true := by cases hcc : chkS (allK r1) (allV r1) none <;> simp_all
          rw [chk_split _ _ _ (allV_len hf.shp).symm, Bool.and_eq_true] at hc'
          have hno' : ¬ evenS r1 < 0 ∧ ¬ (r1.kids.length ≠ 0 ∧ r1.keys.length = 0) ∧ ¬ 40 < (allK r1).length := ⟨fun h => hno (.inl h), fun h => hno (.inr (.inl h)), fun h => hno (.inr (.inr h))⟩
          refine ⟨hf.shp, (rise_srt _ _ hc'.1).1, by have := hno'.2.2; show (allK r1).length ≤ 40; omega, by show r1.big ≤ 1048576; omega, hf.four, ?_, rise_keys _ _ hc'.1, hc'.2⟩
          rcases even_lev _ r1 (Nat.le_refl _) (by omega) with ⟨g, gl, ge⟩ | ⟨_, ge⟩
          · refine ⟨g, gl, ge, ?_⟩
            rcases depth_lev _ r1 (Nat.le_refl _) (by omega) with ⟨f, fl, fe⟩ | ⟨hno2, _⟩
            · rw [fe, lev_uniq fl gl, (rootOk_iff r1).2 hno'.2.1]
            · exact absurd gl (hno2 g)
          · omega
end Go.Proofs.Ytoddejmlcnbdmaa.Pure
namespace Go.Proofs.Ytoddejmlcnbdmaa.Fn
open Go.RowKit Go.Proofs.YtoddejmlcnbdmaaW.PrintWords Go.Proofs.YtoddejmlcnbdmaaW.PrintLast Go.Proofs.YtoddejmlcnbdmaaW.PrintMore
attribute [local go_sem] max2_int min2_int max_two min_two max_three min_three max_four min_four   -- for this text's walks alone
set_option linter.unusedVariables false
set_option linter.unusedSimpArgs false

/-! ### spec_l7Range: function 70 -/
def spec_l7Range.f (a0 : ByteArray) (a1 : ByteArray) : Option (Bool) := (spec_l5Pair.f a0 (⟨#[]⟩ : ByteArray)).bind fun t274 => (if t274 = true then ((spec_l5Pair.f a1 (⟨#[]⟩ : ByteArray)).bind fun t275 => (if t275 = true then (some (Op.bytesLess a0.toList a1.toList)) else (some false))) else (some false))
set_option maxHeartbeats 8000000 in
set_option maxRecDepth 100000 in
theorem spec_l7Range.calls (a0 : ByteArray) (a1 : ByteArray) (r : Bool) (w : World) (h : spec_l7Range.f a0 a1 = some r) :
    Calls Try.prog 70 #[.string a0, .string a1] w fun e w' => e = .returned (.bool r) ∧ Drawn0 w w' := by
  have H : ((spec_l5Pair.f a0 (⟨#[]⟩ : ByteArray)).bind fun t274 => (if t274 = true then ((spec_l5Pair.f a1 (⟨#[]⟩ : ByteArray)).bind fun t275 => (if t275 = true then (some (Op.bytesLess a0.toList a1.toList)) else (some false))) else (some false))) = some r := h
  clear h
  replace H := Option.bind_eq_some_iff.mp H
  obtain ⟨t274, A30, H⟩ := H
  replace H : (if t274 = true then ((spec_l5Pair.f a1 (⟨#[]⟩ : ByteArray)).bind fun t275 => (if t275 = true then (some (Op.bytesLess a0.toList a1.toList)) else (some false))) else (some false)) = some r := H
  have A3 := Aside0.mk A30
  clear A30
  by_cases c4 : t274 = true
  · subst c4
    have H1 : ((spec_l5Pair.f a1 (⟨#[]⟩ : ByteArray)).bind fun t275 => (if t275 = true then (some (Op.bytesLess a0.toList a1.toList)) else (some false))) = some r := by rw [if_pos rfl] at H; exact H
    clear H
    have H := H1
    clear H1
    replace H := Option.bind_eq_some_iff.mp H
    obtain ⟨t275, A50, H⟩ := H
    replace H : (if t275 = true then (some (Op.bytesLess a0.toList a1.toList)) else (some false)) = some r := H
    have A5 := Aside0.mk A50
    clear A50
    by_cases c6 : t275 = true
    · subst c6
      have H1 : (some (Op.bytesLess a0.toList a1.toList)) = some r := by rw [if_pos rfl] at H; exact H
      clear H
      have H := H1
      clear H1
      obtain rfl := Option.some.inj H
      go_enter Try.func70, Try.ntmps70
      go_wp2_with (first | ((with_reducible refine gate_callee (f := 75) rfl ?_); refine goesL_ (some 6) rfl rfl Try.func75 (by kernel_rfl) rfl #[.string a0, .string (⟨#[]⟩ : ByteArray)] rfl (by (try simp only [List.map_toArray, List.map_cons, List.map_nil]); first | done | rfl | (simp only [List.length_drop, List.length_take]; rfl)) ?_; (with_reducible refine (spec_l5Pair.calls a0 (⟨#[]⟩ : ByteArray) true _ A3.out).mono ?_); rintro e w' ⟨rfl, ⟨nd, rfl⟩⟩; refine ⟨_, rfl, ?_⟩) | (go_at_call 75; (with_reducible refine (spec_l5Pair.calls a1 (⟨#[]⟩ : ByteArray) true _ A5.out).mono ?_); rintro e w' ⟨rfl, ⟨nd, rfl⟩⟩))
      go_ret
      exact ⟨by first | rfl | (simp only [Go.Proofs.Ytoddejmlcnbdmaa.Gen.nil_str, Go.Proofs.Ytoddejmlcnbdmaa.Gen.gt_str]; first | done | rfl | (simp; done)) | (simp; done) | (simp [*]; done), by repeat (first | exact Drawn0.refl _ | apply Drawn0.step)⟩
    · replace c6 := Bool.eq_false_iff.mpr c6
      subst c6
      have H1 : (some false) = some r := by rw [if_neg (show ¬ (false = true) by decide)] at H; exact H
      clear H
      have H := H1
      clear H1
      obtain rfl := Option.some.inj H
      go_enter Try.func70, Try.ntmps70
      go_wp2_with (first | ((with_reducible refine gate_callee (f := 75) rfl ?_); refine goesL_ (some 6) rfl rfl Try.func75 (by kernel_rfl) rfl #[.string a0, .string (⟨#[]⟩ : ByteArray)] rfl (by (try simp only [List.map_toArray, List.map_cons, List.map_nil]); first | done | rfl | (simp only [List.length_drop, List.length_take]; rfl)) ?_; (with_reducible refine (spec_l5Pair.calls a0 (⟨#[]⟩ : ByteArray) true _ A3.out).mono ?_); rintro e w' ⟨rfl, ⟨nd, rfl⟩⟩; refine ⟨_, rfl, ?_⟩) | (go_at_call 75; (with_reducible refine (spec_l5Pair.calls a1 (⟨#[]⟩ : ByteArray) false _ A5.out).mono ?_); rintro e w' ⟨rfl, ⟨nd, rfl⟩⟩))
      go_ret
      exact ⟨by first | rfl | (simp only [Go.Proofs.Ytoddejmlcnbdmaa.Gen.nil_str, Go.Proofs.Ytoddejmlcnbdmaa.Gen.gt_str]; first | done | rfl | (simp; done)) | (simp; done) | (simp [*]; done), by repeat (first | exact Drawn0.refl _ | apply Drawn0.step)⟩
  · replace c4 := Bool.eq_false_iff.mpr c4
    subst c4
    have H1 : (some false) = some r := by rw [if_neg (show ¬ (false = true) by decide)] at H; exact H
    clear H
    have H := H1
    clear H1
    obtain rfl := Option.some.inj H
    go_enter Try.func70, Try.ntmps70
    go_wp2_with (first | ((with_reducible refine gate_callee (f := 75) rfl ?_); refine goesL_ (some 6) rfl rfl Try.func75 (by kernel_rfl) rfl #[.string a0, .string (⟨#[]⟩ : ByteArray)] rfl (by (try simp only [List.map_toArray, List.map_cons, List.map_nil]); first | done | rfl | (simp only [List.length_drop, List.length_take]; rfl)) ?_; (with_reducible refine (spec_l5Pair.calls a0 (⟨#[]⟩ : ByteArray) false _ A3.out).mono ?_); rintro e w' ⟨rfl, ⟨nd, rfl⟩⟩; refine ⟨_, rfl, ?_⟩))
    go_ret
    exact ⟨by first | rfl | (simp only [Go.Proofs.Ytoddejmlcnbdmaa.Gen.nil_str, Go.Proofs.Ytoddejmlcnbdmaa.Gen.gt_str]; first | done | rfl | (simp; done)) | (simp; done) | (simp [*]; done), by repeat (first | exact Drawn0.refl _ | apply Drawn0.step)⟩

end Go.Proofs.Ytoddejmlcnbdmaa.Fn
namespace Go.Proofs.Ytoddejmlcnbdmaa.Fn
open Go.RowKit Go.Proofs.YtoddejmlcnbdmaaW.PrintWords Go.Proofs.YtoddejmlcnbdmaaW.PrintLast Go.Proofs.YtoddejmlcnbdmaaW.PrintMore
attribute [local go_sem] max2_int min2_int max_two min_two max_three min_three max_four min_four   -- for this text's walks alone
set_option linter.unusedVariables false
set_option linter.unusedSimpArgs false

/-! ### spec_l7In: function 71 -/
def spec_l7In.f (a0 : ByteArray) (a1 : ByteArray) (a2 : ByteArray) : Option (Bool) := if ((Op.bytesLess a0.toList a1.toList) = true) then (some false) else (some (Op.bytesLess a0.toList a2.toList))
set_option maxHeartbeats 8000000 in
set_option maxRecDepth 100000 in
theorem spec_l7In.calls (a0 : ByteArray) (a1 : ByteArray) (a2 : ByteArray) (r : Bool) (w : World) (h : spec_l7In.f a0 a1 a2 = some r) :
    Calls Try.prog 71 #[.string a0, .string a1, .string a2] w fun e w' => e = .returned (.bool r) ∧ Drawn0 w w' := by
  have H : (if ((Op.bytesLess a0.toList a1.toList) = true) then (some false) else (some (Op.bytesLess a0.toList a2.toList))) = some r := h
  clear h
  by_cases c4 : ((Op.bytesLess a0.toList a1.toList) = true)
  · rw [if_pos c4] at H
    have c4b0 : (Op.bytesLess a0.toList a1.toList) = true := c4
    clear c4
    obtain rfl := Option.some.inj H
    go_enter Try.func71, Try.ntmps71
    go_wp2
    go_ret
    exact ⟨by first | rfl | (simp only [Go.Proofs.Ytoddejmlcnbdmaa.Gen.nil_str, Go.Proofs.Ytoddejmlcnbdmaa.Gen.gt_str]; first | done | rfl | (simp; done)) | (simp; done) | (simp [*]; done), by repeat (first | exact Drawn0.refl _ | apply Drawn0.step)⟩
  · rw [if_neg c4] at H
    have c4b0 : (Op.bytesLess a0.toList a1.toList) = false := by simpa using c4
    clear c4
    obtain rfl := Option.some.inj H
    go_enter Try.func71, Try.ntmps71
    go_wp2
    go_ret
    exact ⟨by first | rfl | (simp only [Go.Proofs.Ytoddejmlcnbdmaa.Gen.nil_str, Go.Proofs.Ytoddejmlcnbdmaa.Gen.gt_str]; first | done | rfl | (simp; done)) | (simp; done) | (simp [*]; done), by repeat (first | exact Drawn0.refl _ | apply Drawn0.step)⟩

end Go.Proofs.Ytoddejmlcnbdmaa.Fn
