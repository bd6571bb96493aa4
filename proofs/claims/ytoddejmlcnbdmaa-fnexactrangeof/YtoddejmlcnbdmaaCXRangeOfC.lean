/- The law FnExactRangeOf holds of the given program: at every input it answers true and leaves its arguments as they were; no condition. This text: part 3 of what its proof reaches. -/
import Derived.Deep.QuietTactic
import Derived.BigQuiet
import Derived.Test.YtoddejmlcnbdmaaCXRangeOfA
import Derived.Test.YtoddejmlcnbdmaaCXRangeOfB
namespace Go.Proofs.Ytoddejmlcnbdmaa.Fn
open Go.RowKit Go.Proofs.YtoddejmlcnbdmaaW.PrintWords Go.Proofs.YtoddejmlcnbdmaaW.PrintLast Go.Proofs.YtoddejmlcnbdmaaW.PrintMore
attribute [local go_sem] max2_int min2_int max_two min_two max_three min_three max_four min_four   -- for this text's walks alone
set_option linter.unusedVariables false
set_option linter.unusedSimpArgs false

/-! ### slices_IndexFunc_at117: function 169 -/
def slices_IndexFunc_at117.l0 : Nat → List ByteArray → Int → Int → Option (Int)
  | 0, _, _, _ => none
  | k + 1, x0, x7, x8 => if x8 < x7 then (if 0 ≤ x8 then (if x8 < (x0.length : Int) then ((impl_arePairs_1.f (rdOf ByteArray.empty x0 x8)).bind fun t175 => (if t175 = true then (some x8) else (slices_IndexFunc_at117.l0 k x0 x7 (wrap64 (x8 + 1))))) else (none)) else (none)) else (some (-1))
def slices_IndexFunc_at117.f (k : Nat) (l0 : List ByteArray)  : Option (Int) := slices_IndexFunc_at117.l0 k l0 (l0.length : Int) 0
theorem slices_IndexFunc_at117.mono_l : ∀ k, (∀ y0 y1 y2, LeO (slices_IndexFunc_at117.l0 k y0 y1 y2) (slices_IndexFunc_at117.l0 (k + 1) y0 y1 y2))
  | 0 => fun _ _ _ r h => by simp [slices_IndexFunc_at117.l0] at h
  | k + 1 => by
    have ih0 := slices_IndexFunc_at117.mono_l k
    · intro y0 y1 y2
      unfold slices_IndexFunc_at117.l0
      repeat' first
      | (with_reducible exact ih0 _ _ _)
      | (with_reducible exact LeO.refl _)
      | (with_reducible exact LeO.none _)
      | (with_reducible refine LeO.ite ?_ ?_)
      | (with_reducible refine LeO.bind ?_ (fun _ => ?_))
      | exact ih0 _ _ _
      | exact LeO.none _
      | refine LeO.ite ?_ ?_
      | refine LeO.bind ?_ (fun _ => ?_)
theorem slices_IndexFunc_at117.mono : ∀ a0 k, LeO (slices_IndexFunc_at117.f k a0) (slices_IndexFunc_at117.f (k + 1) a0) := by
  intro a0 k
  have ih0 := slices_IndexFunc_at117.mono_l k
  unfold slices_IndexFunc_at117.f
  repeat' first
      | (with_reducible exact ih0 _ _ _)
      | (with_reducible exact LeO.refl _)
      | (with_reducible exact LeO.none _)
      | (with_reducible refine LeO.ite ?_ ?_)
      | (with_reducible refine LeO.bind ?_ (fun _ => ?_))
      | exact ih0 _ _ _
      | exact LeO.none _
      | refine LeO.ite ?_ ?_
      | refine LeO.bind ?_ (fun _ => ?_)
set_option maxHeartbeats 8000000 in
set_option maxRecDepth 100000 in
theorem slices_IndexFunc_at117.calls (k : Nat) (A0 : Option Addr) (c0 : Nat) (l0 : List ByteArray)  (r : Int) (w : World) (hr0 : Kd.C Kd.string w A0 l0.length l0) (hc0 : l0.length ≤ c0) (h : slices_IndexFunc_at117.f k l0 = some r) :
    Calls Try.prog 134 #[.slice A0 l0.length c0, .func (.func 117) #[] #[]] w fun e w' => e = .returned (.int .i64 r) ∧ Drawn0 w w' := by
  have HR0 := Aside0.mk hr0
  have HC0 := Aside0.mk hc0
  clear hr0 hc0
  have H : (slices_IndexFunc_at117.l0 k l0 (l0.length : Int) 0) = some r := h
  clear h
  have H' := Aside0.mk H
  clear H
  go_enter Try.func134, Try.ntmps134
  go_wp2
  go_loopg [8] k (fun kq v8 w' => ∃ (x8_1 : Int), v8 = .int .i64 x8_1 ∧ Aside0 (slices_IndexFunc_at117.l0 kq l0 (l0.length : Int) x8_1 = some r) ∧ Aside0 (kq ≤ k) ∧ Drawn0 w w')
  case atStart => exact ⟨(0), (by first | rfl | (simp; done) | (simp [*]; done)), H', ⟨Nat.le_refl _⟩, by repeat (first | exact Drawn0.refl _ | apply Drawn0.step)⟩
  case round =>
    clear H'
    try clear c1
    try clear p2
    obtain ⟨x8_1, rfl, HA, HK1, ⟨m1, rfl⟩⟩ := hrel
    cases gk with
    | zero => exact absurd HA.out (by simp [slices_IndexFunc_at117.l0])
    | succ k1 =>
      have H := HA.out
      clear HA
      simp only [slices_IndexFunc_at117.l0] at H
      by_cases c3 : x8_1 < (l0.length : Int)
      · rw [if_pos c3] at H
        have c3b0 : decide (x8_1 < (l0.length : Int)) = true := decide_eq_true c3
        clear c3
        by_cases c4 : 0 ≤ x8_1
        · rw [if_pos c4] at H
          have c4b0 : decide (0 ≤ x8_1) = true := decide_eq_true c4
          clear c4
          by_cases c5 : x8_1 < (l0.length : Int)
          · rw [if_pos c5] at H
            have c5b0 : decide (x8_1 < (l0.length : Int)) = true := decide_eq_true c5
            clear c5
            replace H := Option.bind_eq_some_iff.mp H
            obtain ⟨t175, A60, H⟩ := H
            replace H : (if t175 = true then (some x8_1) else (slices_IndexFunc_at117.l0 k1 l0 (l0.length : Int) (wrap64 (x8_1 + 1)))) = some r := H
            have A6 := Aside0.mk A60
            clear A60
            by_cases c7 : t175 = true
            · subst c7
              have H1 : (some x8_1) = some r := by rw [if_pos rfl] at H; exact H
              clear H
              have H := H1
              clear H1
              obtain rfl := Option.some.inj H
              have p174 : 0 ≤ (x8_1 : Int) := of_decide_eq_true (by first | (with_reducible assumption) | assumption)
              have q174 : x8_1 < (l0.length : Int) := of_decide_eq_true (by first | (with_reducible assumption) | assumption)
              obtain ⟨ad174, e174, hx174_0⟩ := Kd.at_string HR0.out x8_1 p174 q174
              cases e174
              replace p174 := eq_true p174
              replace q174 := eq_true q174
              go_wp2_with (first | ((with_reducible refine Go.Proofs.Ytoddejmlcnbdmaa.Gen.gateV rfl ?_); refine Go.Proofs.Ytoddejmlcnbdmaa.Gen.goesV_ (some 16) rfl rfl Try.func117 (by kernel_rfl) rfl #[.string (rdOf ByteArray.empty l0 x8_1)] rfl (by (try simp only [List.map_toArray, List.map_cons, List.map_nil]); first | done | rfl | (simp only [List.length_drop, List.length_take]; rfl)) ?_; (with_reducible refine (impl_arePairs_1.calls (rdOf ByteArray.empty l0 x8_1) true _ A6.out).mono ?_); rintro e w' ⟨rfl, ⟨nd, rfl⟩⟩; refine ⟨_, rfl, ?_⟩))
              go_ret
              exact ⟨by first | rfl | (simp; done) | (simp [*]; done), by repeat (first | exact Drawn0.refl _ | apply Drawn0.step)⟩
            · replace c7 := Bool.eq_false_iff.mpr c7
              subst c7
              have H1 : (slices_IndexFunc_at117.l0 k1 l0 (l0.length : Int) (wrap64 (x8_1 + 1))) = some r := by rw [if_neg (show ¬ (false = true) by decide)] at H; exact H
              clear H
              have H := H1
              clear H1
              have H' := Aside0.mk H
              clear H
              have p174 : 0 ≤ (x8_1 : Int) := of_decide_eq_true (by first | (with_reducible assumption) | assumption)
              have q174 : x8_1 < (l0.length : Int) := of_decide_eq_true (by first | (with_reducible assumption) | assumption)
              obtain ⟨ad174, e174, hx174_0⟩ := Kd.at_string HR0.out x8_1 p174 q174
              cases e174
              replace p174 := eq_true p174
              replace q174 := eq_true q174
              go_wp2_with (first | ((with_reducible refine Go.Proofs.Ytoddejmlcnbdmaa.Gen.gateV rfl ?_); refine Go.Proofs.Ytoddejmlcnbdmaa.Gen.goesV_ (some 16) rfl rfl Try.func117 (by kernel_rfl) rfl #[.string (rdOf ByteArray.empty l0 x8_1)] rfl (by (try simp only [List.map_toArray, List.map_cons, List.map_nil]); first | done | rfl | (simp only [List.length_drop, List.length_take]; rfl)) ?_; (with_reducible refine (impl_arePairs_1.calls (rdOf ByteArray.empty l0 x8_1) false _ A6.out).mono ?_); rintro e w' ⟨rfl, ⟨nd, rfl⟩⟩; refine ⟨_, rfl, ?_⟩))
              go_roundg k1
              case measure => have := HK1.out; omega
              case rel => exact ⟨(wrap64 (x8_1 + 1)), (by first | rfl | (simp; done) | (simp [*]; done)), H', ⟨by have := HK1.out; omega⟩, by repeat (first | exact Drawn0.refl _ | apply Drawn0.step)⟩
          · rw [if_neg c5] at H
            exact absurd H (by simp)
        · rw [if_neg c4] at H
          exact absurd H (by simp)
      · rw [if_neg c3] at H
        have c3b0 : decide (x8_1 < (l0.length : Int)) = false := decide_eq_false c3
        clear c3
        obtain rfl := Option.some.inj H
        go_wp2
        go_ret
        exact ⟨by first | rfl | (simp; done) | (simp [*]; done), by repeat (first | exact Drawn0.refl _ | apply Drawn0.step)⟩

end Go.Proofs.Ytoddejmlcnbdmaa.Fn
namespace Go.Proofs.Ytoddejmlcnbdmaa.Fn
open Go.RowKit Go.Proofs.YtoddejmlcnbdmaaW.PrintWords Go.Proofs.YtoddejmlcnbdmaaW.PrintLast Go.Proofs.YtoddejmlcnbdmaaW.PrintMore
attribute [local go_sem] max2_int min2_int max_two min_two max_three min_three max_four min_four   -- for this text's walks alone
set_option linter.unusedVariables false
set_option linter.unusedSimpArgs false

/-! ### slices_ContainsFunc_at117: function 168 -/
def slices_ContainsFunc_at117.f (k : Nat) (l0 : List ByteArray)  : Option (Bool) := (slices_IndexFunc_at117.f k l0).bind fun t176 => (some (decide (t176 ≥ 0)))
theorem slices_ContainsFunc_at117.mono : ∀ a0 k, LeO (slices_ContainsFunc_at117.f k a0) (slices_ContainsFunc_at117.f (k + 1) a0) := by
  intro a0 k
  unfold slices_ContainsFunc_at117.f
  repeat' first
      | (with_reducible exact slices_IndexFunc_at117.mono _ _)
      | (with_reducible exact LeO.refl _)
      | (with_reducible exact LeO.none _)
      | (with_reducible refine LeO.ite ?_ ?_)
      | (with_reducible refine LeO.bind ?_ (fun _ => ?_))
      | exact slices_IndexFunc_at117.mono _ _
      | exact LeO.none _
      | refine LeO.ite ?_ ?_
      | refine LeO.bind ?_ (fun _ => ?_)
set_option maxHeartbeats 8000000 in
set_option maxRecDepth 100000 in
theorem slices_ContainsFunc_at117.calls (k : Nat) (A0 : Option Addr) (c0 : Nat) (l0 : List ByteArray)  (r : Bool) (w : World) (hr0 : Kd.C Kd.string w A0 l0.length l0) (hc0 : l0.length ≤ c0) (h : slices_ContainsFunc_at117.f k l0 = some r) :
    Calls Try.prog 116 #[.slice A0 l0.length c0, .func (.func 117) #[] #[]] w fun e w' => e = .returned (.bool r) ∧ Drawn0 w w' := by
  have HR0 := Aside0.mk hr0
  have HC0 := Aside0.mk hc0
  clear hr0 hc0
  have H : ((slices_IndexFunc_at117.f k l0).bind fun t176 => (some (decide (t176 ≥ 0)))) = some r := h
  clear h
  replace H := Option.bind_eq_some_iff.mp H
  obtain ⟨t176, A30, H⟩ := H
  replace H : (some (decide (t176 ≥ 0))) = some r := H
  have A3 := Aside0.mk A30
  clear A30
  obtain rfl := Option.some.inj H
  go_enter Try.func116, Try.ntmps116
  go_wp2_with (first | ((with_reducible refine gate_callee (f := 134) rfl ?_); refine goesL_ (some 7) rfl rfl Try.func134 (by kernel_rfl) rfl #[.slice A0 l0.length c0, .func (.func 117) #[] #[]] rfl (by (try simp only [List.map_toArray, List.map_cons, List.map_nil]); first | done | rfl | (simp only [List.length_drop, List.length_take]; rfl)) ?_; (with_reducible refine (slices_IndexFunc_at117.calls k _ _ l0  t176 _ ?side1 ?side2 A3.out).mono ?_); (case side1 => repeat (first | exact HR0.out | (with_reducible refine Kd.C_alloc ?_ _) | (with_reducible refine Kd.C_drewN ?_ _) | (with_reducible refine Kd.C_drew ?_))); (case side2 => exact HC0.out); rintro e w' ⟨rfl, ⟨nd, rfl⟩⟩; refine ⟨_, rfl, ?_⟩))
  go_ret
  exact ⟨by first | rfl | (simp; done) | (simp [*]; done), by repeat (first | exact Drawn0.refl _ | apply Drawn0.step)⟩

end Go.Proofs.Ytoddejmlcnbdmaa.Fn
namespace Go.Proofs.Ytoddejmlcnbdmaa.Fn
open Go.RowKit Go.Proofs.YtoddejmlcnbdmaaW.PrintWords Go.Proofs.YtoddejmlcnbdmaaW.PrintLast Go.Proofs.YtoddejmlcnbdmaaW.PrintMore
attribute [local go_sem] max2_int min2_int max_two min_two max_three min_three max_four min_four   -- for this text's walks alone
set_option linter.unusedVariables false
set_option linter.unusedSimpArgs false

/-! ### impl_arePairs: function 86 -/
def impl_arePairs.f (k : Nat) (l0 : List ByteArray) (l1 : List ByteArray) : Option (Bool) := if (l0.length : Int) ≤ 40 then (if (l0.length : Int) = (l1.length : Int) then ((impl_areRising.f k l0).bind fun t177 => (if t177 = true then ((slices_ContainsFunc_at117.f k l1).bind fun t178 => (some (!t178))) else (some false))) else (some false)) else (some false)
theorem impl_arePairs.mono : ∀ a0 a1 k, LeO (impl_arePairs.f k a0 a1) (impl_arePairs.f (k + 1) a0 a1) := by
  intro a0 a1 k
  unfold impl_arePairs.f
  repeat' first
      | (with_reducible exact impl_areRising.mono _ _)
      | (with_reducible exact slices_ContainsFunc_at117.mono _ _)
      | (with_reducible exact LeO.refl _)
      | (with_reducible exact LeO.none _)
      | (with_reducible refine LeO.ite ?_ ?_)
      | (with_reducible refine LeO.bind ?_ (fun _ => ?_))
      | exact impl_areRising.mono _ _
      | exact slices_ContainsFunc_at117.mono _ _
      | exact LeO.none _
      | refine LeO.ite ?_ ?_
      | refine LeO.bind ?_ (fun _ => ?_)
set_option maxHeartbeats 8000000 in
set_option maxRecDepth 100000 in
theorem impl_arePairs.calls (k : Nat) (A0 : Option Addr) (c0 : Nat) (l0 : List ByteArray) (A1 : Option Addr) (c1 : Nat) (l1 : List ByteArray) (r : Bool) (w : World) (hr0 : Kd.C Kd.string w A0 l0.length l0) (hc0 : l0.length ≤ c0) (hr1 : Kd.C Kd.string w A1 l1.length l1) (hc1 : l1.length ≤ c1) (h : impl_arePairs.f k l0 l1 = some r) :
    Calls Try.prog 86 #[.slice A0 l0.length c0, .slice A1 l1.length c1] w fun e w' => e = .returned (.bool r) ∧ Drawn0 w w' := by
  have HR0 := Aside0.mk hr0
  have HC0 := Aside0.mk hc0
  clear hr0 hc0
  have HR1 := Aside0.mk hr1
  have HC1 := Aside0.mk hc1
  clear hr1 hc1
  have H : (if (l0.length : Int) ≤ 40 then (if (l0.length : Int) = (l1.length : Int) then ((impl_areRising.f k l0).bind fun t177 => (if t177 = true then ((slices_ContainsFunc_at117.f k l1).bind fun t178 => (some (!t178))) else (some false))) else (some false)) else (some false)) = some r := h
  clear h
  by_cases c3 : (l0.length : Int) ≤ 40
  · rw [if_pos c3] at H
    have c3b0 : decide ((l0.length : Int) ≤ 40) = true := decide_eq_true c3
    have c3b1 : decide (l0.length ≤ 40) = true := decide_eq_true (by omega)
    clear c3
    by_cases c4 : (l0.length : Int) = (l1.length : Int)
    · rw [if_pos c4] at H
      have c4b0 : ((l0.length : Int) == (l1.length : Int)) = true := beq_iff_eq.mpr c4
      have c4b1 : ((l0.length : Int) != (l1.length : Int)) = false := bne_eq_false_iff_eq.mpr c4
      have c4b2 : (l0.length == l1.length) = true := by first | simpa using c4 | (simp at c4 ⊢; omega)
      clear c4
      replace H := Option.bind_eq_some_iff.mp H
      obtain ⟨t177, A50, H⟩ := H
      replace H : (if t177 = true then ((slices_ContainsFunc_at117.f k l1).bind fun t178 => (some (!t178))) else (some false)) = some r := H
      have A5 := Aside0.mk A50
      clear A50
      by_cases c6 : t177 = true
      · subst c6
        have H1 : ((slices_ContainsFunc_at117.f k l1).bind fun t178 => (some (!t178))) = some r := by rw [if_pos rfl] at H; exact H
        clear H
        have H := H1
        clear H1
        replace H := Option.bind_eq_some_iff.mp H
        obtain ⟨t178, A70, H⟩ := H
        replace H : (some (!t178)) = some r := H
        have A7 := Aside0.mk A70
        clear A70
        obtain rfl := Option.some.inj H
        go_enter Try.func86, Try.ntmps86
        go_wp2_with (first | (go_at_call 115; (with_reducible refine (impl_areRising.calls k _ _ l0 true _ ?side1 ?side2 A5.out).mono ?_); (case side1 => repeat (first | exact HR0.out | (with_reducible refine Kd.C_alloc ?_ _) | (with_reducible refine Kd.C_drewN ?_ _) | (with_reducible refine Kd.C_drew ?_))); (case side2 => exact HC0.out); rintro e w' ⟨rfl, ⟨nd, rfl⟩⟩) | (go_at_call 116; (with_reducible refine (slices_ContainsFunc_at117.calls k _ _ l1  t178 _ ?side1 ?side2 A7.out).mono ?_); (case side1 => repeat (first | exact HR1.out | (with_reducible refine Kd.C_alloc ?_ _) | (with_reducible refine Kd.C_drewN ?_ _) | (with_reducible refine Kd.C_drew ?_))); (case side2 => exact HC1.out); rintro e w' ⟨rfl, ⟨nd, rfl⟩⟩))
        go_ret
        exact ⟨by first | rfl | (simp; done) | (simp [*]; done), by repeat (first | exact Drawn0.refl _ | apply Drawn0.step)⟩
      · replace c6 := Bool.eq_false_iff.mpr c6
        subst c6
        have H1 : (some false) = some r := by rw [if_neg (show ¬ (false = true) by decide)] at H; exact H
        clear H
        have H := H1
        clear H1
        obtain rfl := Option.some.inj H
        go_enter Try.func86, Try.ntmps86
        go_wp2_with (first | (go_at_call 115; (with_reducible refine (impl_areRising.calls k _ _ l0 false _ ?side1 ?side2 A5.out).mono ?_); (case side1 => repeat (first | exact HR0.out | (with_reducible refine Kd.C_alloc ?_ _) | (with_reducible refine Kd.C_drewN ?_ _) | (with_reducible refine Kd.C_drew ?_))); (case side2 => exact HC0.out); rintro e w' ⟨rfl, ⟨nd, rfl⟩⟩))
        go_ret
        exact ⟨by first | rfl | (simp; done) | (simp [*]; done), by repeat (first | exact Drawn0.refl _ | apply Drawn0.step)⟩
    · rw [if_neg c4] at H
      have c4b0 : ((l0.length : Int) == (l1.length : Int)) = false := beq_eq_false_iff_ne.mpr c4
      have c4b1 : ((l0.length : Int) != (l1.length : Int)) = true := bne_iff_ne.mpr c4
      have c4b2 : (l0.length == l1.length) = false := by first | simpa using c4 | (simp at c4 ⊢; omega)
      obtain rfl := Option.some.inj H
      go_enter Try.func86, Try.ntmps86
      go_wp2
      go_ret
      exact ⟨by first | rfl | (simp; done) | (simp [*]; done), by repeat (first | exact Drawn0.refl _ | apply Drawn0.step)⟩
  · rw [if_neg c3] at H
    have c3b0 : decide ((l0.length : Int) ≤ 40) = false := decide_eq_false c3
    have c3b1 : decide (l0.length ≤ 40) = false := decide_eq_false (by omega)
    clear c3
    obtain rfl := Option.some.inj H
    go_enter Try.func86, Try.ntmps86
    go_wp2
    go_ret
    exact ⟨by first | rfl | (simp; done) | (simp [*]; done), by repeat (first | exact Drawn0.refl _ | apply Drawn0.step)⟩

end Go.Proofs.Ytoddejmlcnbdmaa.Fn
namespace Go.Proofs.Ytoddejmlcnbdmaa.Tree
open Go.RowKit Go.Proofs.YtoddejmlcnbdmaaW.PrintWords Go.Proofs.Ytoddejmlcnbdmaa.Fn
set_option linter.unusedVariables false

def pairS (k v : ByteArray) : Bool := (spec_l5Pair.f k v).getD false
theorem pairS_f (k v : ByteArray) : spec_l5Pair.f k v = some (pairS k v) := by
  unfold pairS spec_l5Pair.f spec_l5Text.f
  simp only [Option.bind_some]
  split
  · split <;> rfl
  · rfl
def prevOk : Option ByteArray → ByteArray → Bool
  | none, _ => true
  | some p, k => ltB p k
def chkS : List ByteArray → List ByteArray → Option ByteArray → Bool
  | [], _, _ => true
  | k :: ks, vs, prev => pairS k (vs.headD ByteArray.empty) && prevOk prev k && chkS ks (vs.drop 1) (some k)
def prevAt (keys : List ByteArray) : Nat → Option ByteArray
  | 0 => none
  | j + 1 => keys[j]?
theorem chk_on {keys vals : List ByteArray} {i : Nat} {k v : ByteArray} {B : Bool} (h : B = chkS (keys.drop i) (vals.drop i) (prevAt keys i)) (hk : keys[i]? = some k) (hv : vals[i]? = some v) (hp : pairS k v = true) (ho : ∀ p, prevAt keys i = some p → ltB p k = true) :
    B = chkS (keys.drop (i + 1)) (vals.drop (i + 1)) (prevAt keys (i + 1)) := by
  rw [drop_of hk, drop_of hv, chkS, List.headD_cons, hp, List.drop_succ_cons, List.drop_zero, Bool.true_and] at h
  rw [h]
  show _ = chkS _ _ (keys[i]?)
  rw [hk]
  cases hpr : prevAt keys i with
  | none => rfl
  | some p => simp only [prevOk, ho p hpr, Bool.true_and]
theorem chk_off1 {keys vals : List ByteArray} {i : Nat} {k v : ByteArray} {B : Bool} (h : B = chkS (keys.drop i) (vals.drop i) (prevAt keys i)) (hk : keys[i]? = some k) (hv : vals[i]? = some v) (hp : pairS k v = false) : B = false := by
  rw [drop_of hk, drop_of hv, chkS, List.headD_cons, hp, Bool.false_and, Bool.false_and] at h
  exact h
theorem chk_off2 {keys vals : List ByteArray} {i : Nat} {k p : ByteArray} {B : Bool} (h : B = chkS (keys.drop i) (vals.drop i) (prevAt keys i)) (hk : keys[i]? = some k) (hpr : prevAt keys i = some p) (ho : ltB p k = false) : B = false := by
  rw [drop_of hk, chkS, hpr] at h
  rw [h]
  simp only [prevOk, ho, Bool.and_false, Bool.false_and]
theorem chk_end {keys vals : List ByteArray} {i : Nat} {B : Bool} (h : B = chkS (keys.drop i) (vals.drop i) (prevAt keys i)) (hi : keys.length ≤ i) : B = true := by
  rw [List.drop_eq_nil_of_le hi, chkS] at h
  exact h
def ofS (P : List S110) : Option PT := match readS P 10 0 with
  | none => none
  | some r => if r.2 ≠ P.length then none else if chkS (allK r.1) (allV r.1) none = false then none else if evenS r.1 < 0 ∨ (r.1.kids.length ≠ 0 ∧ r.1.keys.length = 0) ∨ 40 < (allK r.1).length then none else some r.1
/-- With k rounds for the keys' test. -/
def rootI (k : Nat) (P : List S110) : Option (Option PT) := match readS P (P.length + 1) 0 with
  | none => some none
  | some r => if r.2 ≠ P.length then some none else if (depthP r.1).2 = false then some none else (impl_arePairs.f k (allK r.1) (allV r.1)).bind fun b => some (if b = true then some r.1 else none)
/-! how much a tree that was read holds -/
theorem weave_le {α : Type} : ∀ (cs : List (List α)) (ks : List α), (weave cs ks).length ≤ (cs.map List.length).sum + ks.length
  | [], ks => by simp [weave]
  | c :: cs, [] => by simp [weave]
  | c :: cs, k :: ks => by
    have := weave_le cs ks
    simp only [weave, List.length_append, List.length_cons, List.map_cons, List.sum_cons]
    omega
structure Fits (t : PT) (m : Nat) : Prop where
  shp : Shp t
  four : t.keys.length ≤ 4
  k : (allK t).length ≤ 4 * m
  v : (allV t).length ≤ 4 * m
theorem readK_fits {rd : Nat → Option (PT × Nat)} (hrd : ∀ a t n, rd a = some (t, n) → a < n ∧ Fits t (n - a)) : ∀ (l : List Int) (next : Nat) (acc ts : List PT) (n s : Nat),
    (∀ t ∈ acc, Shp t) → ((acc.map allK).map List.length).sum ≤ 4 * s → ((acc.map allV).map List.length).sum ≤ 4 * s → readK rd l next acc = some (ts, n) →
    next ≤ n ∧ ts.length = acc.length + l.length ∧ (∀ t ∈ ts, Shp t) ∧ ((ts.map allK).map List.length).sum ≤ 4 * (s + (n - next)) ∧ ((ts.map allV).map List.length).sum ≤ 4 * (s + (n - next))
  | [], next, acc, ts, n, s, h1, h2, h3, h => by
    rw [readK] at h
    injection h with h
    injection h with e1 e2
    subst e1; subst e2
    refine ⟨Nat.le_refl _, by simp, h1, by omega, by omega⟩
  | k :: ks, next, acc, ts, n, s, h1, h2, h3, h => by
    rw [readK] at h
    split at h
    · cases h
    · cases hr : rd next with
      | none => rw [hr] at h; cases h
      | some r =>
        rw [hr] at h
        obtain ⟨t, m⟩ := r
        obtain ⟨hlt, hf⟩ := hrd next t m hr
        have hk := hf.k
        have hv := hf.v
        have := readK_fits hrd ks m (acc ++ [t]) ts n (s + (m - next)) (fun x hx => by
          rcases List.mem_append.1 hx with hx | hx
          · exact h1 x hx
          · rw [List.mem_singleton.1 hx]; exact hf.shp) (by simp only [List.map_append, List.map_cons, List.map_nil, List.sum_append, List.sum_cons, List.sum_nil]; omega) (by simp only [List.map_append, List.map_cons, List.map_nil, List.sum_append, List.sum_cons, List.sum_nil]; omega) h
        obtain ⟨g1, g2, g3, g4, g5⟩ := this
        rw [List.length_append] at g2
        simp only [List.length_cons, List.length_nil] at g2 ⊢
        exact ⟨by omega, by omega, g3, by omega, by omega⟩
theorem readS_fits {P : List S110} : ∀ (f a : Nat) (t : PT) (n : Nat), readS P f a = some (t, n) → a < n ∧ Fits t (n - a)
  | 0, a, t, n, h => by cases h
  | f + 1, a, t, n, h => by
    rw [readS] at h
    split at h
    · cases h
    · split at h
      · cases h
      · rename_i hl hb
        generalize P.getD a z110 = p at h hb
        unfold fin at h
        obtain ⟨r, hr, e⟩ := Option.map_eq_some_iff.1 h
        obtain ⟨ts, m⟩ := r
        injection e with e1 e2
        have e2 : m = n := e2
        subst e2
        have := readK_fits (fun a t n h => readS_fits f a t n h) p.f2 (a + 1) [] ts m 0 (fun t h => by cases h) (by simp) (by simp) hr
        obtain ⟨g1, g2, g3, g4, g5⟩ := this
        have hb' : badP p = false := by cases hbb : badP p <;> simp_all
        unfold badP at hb'
        simp only [Bool.or_eq_false_iff, Bool.and_eq_false_iff, decide_eq_false_iff_not, bne_eq_false_iff_eq] at hb'
        have e1 : PT.mk p.f0 p.f1 ts = t := e1
        subst e1
        simp only [List.length_nil] at g2
        have s1 : Shp1 (.mk p.f0 p.f1 ts) := by
          unfold Shp1
          simp only [PT.keys, PT.vals, PT.kids]
          omega
        refine ⟨by omega, Shp.mk' s1 (fun i s hs => g3 s (List.mem_of_getElem? hs)), by show p.f0.length ≤ 4; omega, ?_, ?_⟩
        · rw [allK_eq]
          have := weave_le (ts.map allK) p.f0
          show (weave (ts.map allK) p.f0).length ≤ _
          omega
        · rw [allV_eq]
          have := weave_le (ts.map allV) p.f1
          show (weave (ts.map allV) p.f1).length ≤ _
          omega
theorem weave_len {α β : Type} : ∀ (cs : List (List α)) (ds : List (List β)) (ks : List α) (vs : List β), cs.map List.length = ds.map List.length → ks.length = vs.length → (weave cs ks).length = (weave ds vs).length
  | [], [], ks, vs, _, h => by simpa [weave] using h
  | [], d :: ds, ks, vs, h, _ => by simp at h
  | c :: cs, [], ks, vs, h, _ => by simp at h
  | c :: cs, d :: ds, [], [], h, _ => by simp at h; simp [weave, h.1]
  | c :: cs, d :: ds, [], v :: vs, _, h => by simp at h
  | c :: cs, d :: ds, k :: ks, [], _, h => by simp at h
  | c :: cs, d :: ds, k :: ks, v :: vs, h1, h2 => by
    simp only [List.map_cons, List.cons.injEq] at h1
    have := weave_len cs ds ks vs h1.2 (by simpa using h2)
    simp only [weave, List.length_append, List.length_cons]
    omega
theorem allV_len_ : ∀ (n : Nat) {t : PT}, SizeOf.sizeOf t ≤ n → Shp t → (allV t).length = (allK t).length
  | 0, t, h, _ => by cases t; simp at h
  | n + 1, t, h, hs => by
    have h1 := hs.one
    unfold Shp1 at h1
    rw [allV_eq, allK_eq]
    refine weave_len _ _ _ _ ?_ h1.1.symm
    rw [List.map_map, List.map_map]
    refine List.map_congr_left fun s hm => ?_
    obtain ⟨i, hi⟩ := List.getElem?_of_mem hm
    have := PT.size_kid hi
    exact allV_len_ n (by omega) (hs.kid hi)
theorem allV_len {t : PT} (h : Shp t) : (allV t).length = (allK t).length := allV_len_ _ (Nat.le_refl _) h
end Go.Proofs.Ytoddejmlcnbdmaa.Tree
namespace Go.Proofs.Ytoddejmlcnbdmaa.Tree
open Go.Proofs.Ytoddejmlcnbdmaa.Gen
open Go.RowKit Go.Proofs.YtoddejmlcnbdmaaW.PrintWords Go.Proofs.YtoddejmlcnbdmaaW.PrintLast Go.Proofs.YtoddejmlcnbdmaaW.PrintMore Go.Proofs.Ytoddejmlcnbdmaa.Fn
set_option linter.unusedVariables false
set_option linter.unusedSimpArgs false
set_option maxHeartbeats 8000000
set_option maxRecDepth 100000

theorem Shp.few_ {t : PT} (h : Shp t) : Few t := Shp.few (n := SizeOf.sizeOf t) (Nat.le_refl _) h
/-- What a tree's making out of pages comes to. -/
def OfR (T E : Nat) (w : World) (r : Option PT) (e : Ending) (w' : World) : Prop :=
  Below w.heap.size w w' ∧ ((r = none ∧ e = .returned (.tuple #[.pointer none, .bool false])) ∨
    ∃ nt : NT, r = some nt.erase ∧ e = .returned (.tuple #[ptrv nt.p, .bool true]) ∧ Sat w' w.heap.size (nt.cks T E))
theorem neNil (v : Value) : NeRow (.slice none 0 0) v := fun k hk => by cases hk
theorem spec_all.calls0 (t : PT) (hs : Shp t) {p : Nat} (w : World) (h : Rd 96 w p t) (hb1 : (allK t).length ≤ 8796093022208) (hb2 : (allV t).length ≤ 8796093022208) : Calls Try.prog 65 #[ptrv p, .slice none 0 0, .slice none 0 0] w (AllR w (allK t) (allV t)) :=
  spec_all.calls _ t (Nat.le_refl _) hs w w (.slice none 0 0) (.slice none 0 0) [] [] h (Below.refl _ _) (SR.nil _ _) (SR.nil _ _) (neNil _) hb1 hb2
theorem spec_l5Read.calls0 (P : List S110) (hN : P.length ≤ 1000000000000) (A : Option Addr) (c : Nat) (w : World) (hp : Kd.C k110 w A P.length P) (hm : ∀ p ∈ P, p.f0.length ≤ 1000000000000 ∧ p.f1.length ≤ 1000000000000 ∧ p.f2.length ≤ 1000000000000) :
    Calls Try.prog 95 #[.agg #[.slice A P.length c], .int .i64 0, .int .i64 1] w (ReadR 96 70 w (readS P 10 0)) :=
  spec_l5Read.calls P hN 10 1 (by omega) (by omega) 0 A c w hp hm (Nat.zero_le _)
theorem spec_l5Of.calls (P : List S110) (hN : P.length ≤ 1000000000000) (A : Option Addr) (c : Nat) (w : World) (hp : Kd.C k110 w A P.length P) (hm : ∀ p ∈ P, p.f0.length ≤ 1000000000000 ∧ p.f1.length ≤ 1000000000000 ∧ p.f2.length ≤ 1000000000000) :
    Calls Try.prog 57 #[.agg #[.slice A P.length c]] w (OfR 96 70 w (ofS P)) := by
  have HP := Aside0.mk hp
  have HM := Aside0.mk hm
  have HNP := Aside0.mk hN
  have hNl : P.length ≤ 1000000000000 := hN
  obtain ⟨R, hR⟩ : ∃ R, R = ofS P := ⟨_, rfl⟩
  rw [← hR]
  unfold ofS at hR
  cases hrs : readS P 10 0 with
  | none =>
    rw [hrs] at hR
    have HE := Aside0.mk hR
    have HRS := Aside0.mk hrs
    have tn : ((-1 : Int) != (P.length : Int)) = true := by rw [bne_iff_ne]; omega
    clear hp hm hN hR hrs
    go_enter Try.func57, Try.ntmps57
    go_wp2_with (first | ((with_reducible refine gate_dst (N := 1) rfl ?_); refine box_event ?hg (N := 1) ?hd (cs := #[.slice A P.length c]) (t := 29) ?hr ?_; (case hd => rfl); (case hg => rfl); (case hr => first | (go_simp; done) | (go_simp; rfl)); intro b3 hg w1 hbox hb; have HBX := Aside0.mk hbox; have HB := Aside0.mk hb; have hz3 : w1.cell? ⟨b3, 0, none⟩ = some (.slice A P.length c) := (blk_cell hbox 0).trans rfl; clear hg hbox hb) | (go_at_call 95; (with_reducible refine (spec_l5Read.calls0 P HNP.out A c _ (Kd.C_below HP.out HB.out) HM.out).mono ?_); rintro e w2 ⟨hb, hr⟩; rw [HRS.out] at hr; obtain ⟨-, rfl⟩ := hr.resolve_right (by rintro ⟨_, _, h, _⟩; cases h); have hz3b : w2.cell? ⟨b3, 0, none⟩ = some (.slice A P.length c) := (blk_cell (blk_below HBX.out hb) 0).trans rfl; have n1_ := Aside0.mk (below_step HB.out hb); clear HB; have HB := n1_; clear n1_ hb hr))
    go_ret2
    exact ⟨HB.out, .inl ⟨HE.out, rfl⟩⟩
  | some tn =>
    obtain ⟨t, n⟩ := tn
    rw [hrs] at hR
    simp only at hR
    have HRS := Aside0.mk hrs
    have HFT := Aside0.mk (readS_fits 10 0 t n hrs).2
    have HLE := Aside0.mk (readS_le 10 0 t n hrs)
    have hn0 : decide ((n : Int) < 0) = false := decide_eq_false (by omega)
    by_cases hn : n = P.length
    · rw [if_neg (by simp [hn])] at hR
      have tn1 : ((n : Int) != (P.length : Int)) = false := ne_f hn
      have tn2 : (n != P.length) = false := nen_f hn
      have HZ1 := Aside0.mk (show (allK t).length ≤ 8796093022208 by have := HFT.out.k; omega)
      have HZ2 := Aside0.mk (show (allV t).length ≤ 8796093022208 by have := HFT.out.v; omega)
      have HKB := Aside0.mk (show (allK t).length ≤ 4000000000000 by have := HFT.out.k; omega)
      have HRR := Aside0.mk hR
      clear hp hm hN hR hrs hn
      go_enter Try.func57, Try.ntmps57
      go_upto_region 6 with (first | ((with_reducible refine gate_dst (N := 1) rfl ?_); refine box_event ?hg (N := 1) ?hd (cs := #[.slice A P.length c]) (t := 29) ?hr ?_; (case hd => rfl); (case hg => rfl); (case hr => first | (go_simp; done) | (go_simp; rfl)); intro b3 hg w1 hbox hb; have HBX := Aside0.mk hbox; have HB := Aside0.mk hb; have hz3 : w1.cell? ⟨b3, 0, none⟩ = some (.slice A P.length c) := (blk_cell hbox 0).trans rfl; clear hg hbox hb) | (go_at_call 95; (with_reducible refine (spec_l5Read.calls0 P HNP.out A c _ (Kd.C_below HP.out HB.out) HM.out).mono ?_); rintro e w2 ⟨hb, hr⟩; rw [HRS.out] at hr; obtain ⟨nt, n9, h9, rfl, hs⟩ := hr.resolve_left (by rintro ⟨h, _⟩; cases h); injection h9 with h9; injection h9 with h9 h8; subst h9; subst h8; have hz3b : w2.cell? ⟨b3, 0, none⟩ = some (.slice A P.length c) := (blk_cell (blk_below HBX.out hb) 0).trans rfl; have HS2 := Aside0.mk (hs.lower HB.out.size); have n1_ := Aside0.mk (below_step HB.out hb); clear HB; have HB := n1_; clear n1_ hb hr hs) | (go_at_call 65; (with_reducible refine (spec_all.calls0 nt.erase HFT.out.shp w2 (rd_of HS2.out) HZ1.out HZ2.out).mono ?_); rintro e w3 ⟨u1, u2, rfl, ho1, ho2, hne, hb⟩; obtain ⟨B1, d1, rfl, hl1, hc1⟩ := Kd.R_reads ho1; obtain ⟨B2, d2, rfl, hl2, hc2⟩ := Kd.R_reads ho2; have HC1 := Aside0.mk hc1; have HC2 := Aside0.mk hc2; have n1_ := Aside0.mk (below_step HB.out hb); have HR3 := Aside0.mk ((rd_of HS2.out).under hb); have HS3 := Aside0.mk (HS2.out.under hb); clear HB; have HB := n1_; clear n1_ hb ho1 ho2 hne hl1 hl2 hc1 hc2 HS2))
      have hkb : (allK nt.erase).length ≤ 4000000000000 := HKB.out
      obtain ⟨B, hB⟩ : ∃ B, B = chkS (allK nt.erase) (allV nt.erase) none := ⟨_, rfl⟩
      have HBB := Aside0.mk hB
      have HVK := Aside0.mk (allV_len HFT.out.shp)
      have HCH := Aside0.mk (show B = chkS ((allK nt.erase).drop 0) ((allV nt.erase).drop 0) (prevAt (allK nt.erase) 0) from hB)
      clear hz3 hz3b hB
      go_loopg [31] (allK nt.erase).length (fun kq u31 w' => ∃ (i m : Nat), u31 = .int .i64 (i : Int) ∧ Aside0 (i ≤ (allK nt.erase).length ∧ kq + i = (allK nt.erase).length) ∧ Aside0 (B = chkS ((allK nt.erase).drop i) ((allV nt.erase).drop i) (prevAt (allK nt.erase) i)) ∧ w' = w3.drewN m)
      case atStart => exact ⟨0, 0, by first | rfl | (simp; done), ⟨by omega⟩, HCH, rfl⟩
      case round =>
        clear HCH
        obtain ⟨i, m, rfl, HK, HCH, rfl⟩ := hrel
        have ci : (0 ≤ (i : Int)) = True := eq_true (by omega)
        by_cases hi : i < (allK nt.erase).length
        · have ce : decide ((i : Int) < ((allK nt.erase).length : Int)) = true := decide_eq_true (by omega)
          have ceb : (i < (allK nt.erase).length) = True := eq_true hi
          have hil : i < 4000000000000 := by omega
          have hiv : i < (allV nt.erase).length := by rw [HVK.out]; exact hi
          have cva : ((i : Int) < ((allV nt.erase).length : Int)) = True := eq_true (by omega)
          have cvb : (i < (allV nt.erase).length) = True := eq_true hiv
          have HI := Aside0.mk hi
          obtain ⟨adk, hA1, hk0⟩ := Kd.at_string HC1.out (i : Int) (by omega) (by omega)
          obtain ⟨adv, hA2, hv0⟩ := Kd.at_string HC2.out (i : Int) (by omega) (by omega)
          subst hA1
          subst hA2
          rw [Int.toNat_natCast] at hk0 hv0
          have hks : (allK nt.erase)[i]? = some (rdOf ByteArray.empty (allK nt.erase) (i : Int)) := by unfold rdOf; rw [Int.toNat_natCast, List.getD_eq_getElem?_getD, List.getElem?_eq_getElem hi]; rfl
          have hvs : (allV nt.erase)[i]? = some (rdOf ByteArray.empty (allV nt.erase) (i : Int)) := by unfold rdOf; rw [Int.toNat_natCast, List.getD_eq_getElem?_getD, List.getElem?_eq_getElem hiv]; rfl
          generalize rdOf ByteArray.empty (allK nt.erase) (i : Int) = kx at hk0 hks
          generalize rdOf ByteArray.empty (allV nt.erase) (i : Int) = vx at hv0 hvs
          have HKS := Aside0.mk hks
          have HVS := Aside0.mk hvs
          clear hks hvs hi hiv
          cases hpr : pairS kx vx with
          | false =>
            have HPR := Aside0.mk ((pairS_f kx vx).trans (by rw [hpr]))
            have hbf := chk_off1 HCH.out HKS.out HVS.out hpr
            have HE := Aside0.mk (show R = none by have := HRR.out; rw [if_pos (by rw [← HBB.out]; exact hbf)] at this; exact this)
            clear hpr hbf
            go_wp2_with (go_at_call 75; (with_reducible refine (spec_l5Pair.calls kx vx false _ HPR.out).mono ?_); rintro e w' ⟨rfl, ⟨nd, rfl⟩⟩)
            go_ret2
            exact ⟨pw_below_drewN HB.out _, .inl ⟨HE.out, rfl⟩⟩
          | true =>
            have HPR := Aside0.mk ((pairS_f kx vx).trans (by rw [hpr]))
            have HPRT := Aside0.mk hpr
            clear hpr
            by_cases hi0 : 0 < i
            · have t0 : decide (0 < (i : Int)) = true := decide_eq_true (by omega)
              have t0b : (0 < i) = True := eq_true hi0
              obtain ⟨ji, hji⟩ : ∃ j : Int, j = (i : Int) - 1 := ⟨_, rfl⟩
              have hjw : IntKind.i64.wrap ((i : Int) - 1) = ji := by rw [IntWalk.i64_in _ (by omega)]; exact hji.symm
              obtain ⟨adp, hA3, hp0⟩ := Kd.at_string HC1.out ji (by omega) (by have := HI.out; omega)
              obtain rfl : adk = adp := Option.some.inj hA3
              have hps : prevAt (allK nt.erase) i = some (rdOf ByteArray.empty (allK nt.erase) ji) := by
                obtain ⟨j, rfl⟩ : ∃ j, i = j + 1 := ⟨i - 1, by omega⟩
                have e : ji.toNat = j := by omega
                show (allK nt.erase)[j]? = _
                unfold rdOf
                rw [e, List.getD_eq_getElem?_getD, List.getElem?_eq_getElem (by have := HI.out; omega)]
                rfl
              generalize rdOf ByteArray.empty (allK nt.erase) ji = px at hp0 hps
              have cj0 : (0 ≤ ji) = True := eq_true (by omega)
              have cj1 : (ji < ((allK nt.erase).length : Int)) = True := eq_true (by have := HI.out; omega)
              have cj2 : decide (0 ≤ ji) = true := decide_eq_true (by omega)
              have cj3 : decide (ji < ((allK nt.erase).length : Int)) = true := decide_eq_true (by have := HI.out; omega)
              have HPS := Aside0.mk hps
              clear hps hi0 hji
              cases hlt : ltB px kx with
              | true =>
                have HC' := Aside0.mk (chk_on HCH.out HKS.out HVS.out HPRT.out (fun p hp => by rw [HPS.out] at hp; injection hp with hp; rw [← hp]; exact hlt))
                have hl' : Op.bytesLess px.toList kx.toList = true := hlt
                clear hlt
                go_wp2_with (go_at_call 75; (with_reducible refine (spec_l5Pair.calls kx vx true _ HPR.out).mono ?_); rintro e w' ⟨rfl, ⟨nd, rfl⟩⟩)
                go_roundg ((allK nt.erase).length - (i + 1))
                case measure => have := HK.out; have := HI.out; omega
                case rel => exact ⟨i + 1, _, by first | rfl | go_num | (simp; done), ⟨by have := HK.out; have := HI.out; omega⟩, HC', rfl⟩
              | false =>
                have hbf := chk_off2 HCH.out HKS.out HPS.out hlt
                have HE := Aside0.mk (show R = none by have := HRR.out; rw [if_pos (by rw [← HBB.out]; exact hbf)] at this; exact this)
                have hl' : Op.bytesLess px.toList kx.toList = false := hlt
                clear hlt hbf
                go_wp2_with (go_at_call 75; (with_reducible refine (spec_l5Pair.calls kx vx true _ HPR.out).mono ?_); rintro e w' ⟨rfl, ⟨nd, rfl⟩⟩)
                go_ret2
                exact ⟨pw_below_drewN HB.out _, .inl ⟨HE.out, rfl⟩⟩
            · have t0 : decide (0 < (i : Int)) = false := decide_eq_false (by omega)
              have t0b : (0 < i) = False := eq_false hi0
              have HC' := Aside0.mk (chk_on HCH.out HKS.out HVS.out HPRT.out (fun p hp => by have h_ : i = 0 := (by omega); rw [h_] at hp; cases hp))
              clear hi0
              go_wp2_with (go_at_call 75; (with_reducible refine (spec_l5Pair.calls kx vx true _ HPR.out).mono ?_); rintro e w' ⟨rfl, ⟨nd, rfl⟩⟩)
              go_roundg ((allK nt.erase).length - (i + 1))
              case measure => have := HK.out; have := HI.out; omega
              case rel => exact ⟨i + 1, _, by first | rfl | go_num | (simp; done), ⟨by have := HK.out; have := HI.out; omega⟩, HC', rfl⟩
        · have ce : decide ((i : Int) < ((allK nt.erase).length : Int)) = false := decide_eq_false (by omega)
          have ceb : (i < (allK nt.erase).length) = False := eq_false hi
          have hbt := chk_end HCH.out (by omega)
          have hrr := HRR.out
          rw [if_neg (by rw [← HBB.out, hbt]; decide)] at hrr
          obtain ⟨Ak, ck, Av, cv, Ac, cc, ps, HN3⟩ := HR3.out.open
          have hzn := HN3.z0
          clear hi hbt HN3
          by_cases h1 : evenS nt.erase < 0
          · have HE := Aside0.mk (show R = none by rw [hrr, if_pos (.inl h1)])
            have t1 : decide (evenS nt.erase < 0) = true := decide_eq_true h1
            clear h1 hrr
            go_wp2_with (go_at_call 61; (with_reducible refine (spec_even.calls _ nt.erase (Nat.le_refl _) HFT.out.shp.few_ _ ?side1).mono ?_); (case side1 => repeat (first | exact HR3.out | (with_reducible refine Rd.drewN ?_ _) | (with_reducible refine Rd.drew ?_))); rintro e w' ⟨rfl, ⟨nd, rfl⟩⟩)
            go_ret2
            exact ⟨pw_below_drewN HB.out _, .inl ⟨HE.out, rfl⟩⟩
          · have t1 : decide (evenS nt.erase < 0) = false := decide_eq_false h1
            by_cases h2 : nt.erase.kids.length = 0
            · have hbl := Aside0.mk (show decide ((nt.erase.kids.length : Int) = 0) = true from decide_eq_true (by omega))
              by_cases h4 : 40 < (allK nt.erase).length
              · have HE := Aside0.mk (show R = none by rw [hrr, if_pos (.inr (.inr h4))])
                have t4 : decide (40 < ((allK nt.erase).length : Int)) = true := decide_eq_true (by omega)
                have t4b : (40 < (allK nt.erase).length) = True := eq_true h4
                clear h1 h2 h4 hrr
                go_wp2_with (first | (go_at_call 61; (with_reducible refine (spec_even.calls _ nt.erase (Nat.le_refl _) HFT.out.shp.few_ _ ?side1).mono ?_); (case side1 => repeat (first | exact HR3.out | (with_reducible refine Rd.drewN ?_ _) | (with_reducible refine Rd.drew ?_))); rintro e w' ⟨rfl, ⟨nd, rfl⟩⟩) | (go_at_call 84; (with_reducible refine (spec_leaf.callsB true hbl.out _ ?side1).mono ?_); (case side1 => repeat (first | exact HR3.out | (with_reducible refine Rd.drewN ?_ _) | (with_reducible refine Rd.drew ?_))); rintro e w' ⟨rfl, ⟨nd, rfl⟩⟩))
                go_ret2
                exact ⟨pw_below_drewN HB.out _, .inl ⟨HE.out, rfl⟩⟩
              · have HE := Aside0.mk (show R = some nt.erase by rw [hrr, if_neg (by omega)])
                have t4 : decide (40 < ((allK nt.erase).length : Int)) = false := decide_eq_false (by omega)
                have t4b : (40 < (allK nt.erase).length) = False := eq_false h4
                clear h1 h2 h4 hrr
                go_wp2_with (first | (go_at_call 61; (with_reducible refine (spec_even.calls _ nt.erase (Nat.le_refl _) HFT.out.shp.few_ _ ?side1).mono ?_); (case side1 => repeat (first | exact HR3.out | (with_reducible refine Rd.drewN ?_ _) | (with_reducible refine Rd.drew ?_))); rintro e w' ⟨rfl, ⟨nd, rfl⟩⟩) | (go_at_call 84; (with_reducible refine (spec_leaf.callsB true hbl.out _ ?side1).mono ?_); (case side1 => repeat (first | exact HR3.out | (with_reducible refine Rd.drewN ?_ _) | (with_reducible refine Rd.drew ?_))); rintro e w' ⟨rfl, ⟨nd, rfl⟩⟩))
                go_ret2
                exact ⟨pw_below_drewN HB.out _, .inr ⟨nt, HE.out, rfl, (HS3.out.drewN _).lower (Nat.le_refl _)⟩⟩
            · have hbl := Aside0.mk (show decide ((nt.erase.kids.length : Int) = 0) = false from decide_eq_false (by omega))
              by_cases h3 : nt.erase.keys.length = 0
              · have HE := Aside0.mk (show R = none by rw [hrr, if_pos (.inr (.inl ⟨h2, h3⟩))])
                have t3 : ((nt.erase.keys.length : Int) == 0) = true := by rw [beq_iff_eq]; omega
                have t3b : ((nt.erase.keys.length : Int) = 0) = True := eq_true (by omega)
                have t3c : decide ((nt.erase.keys.length : Int) = 0) = true := decide_eq_true (by omega)
                clear h1 h2 h3 hrr
                go_wp2_with (first | (go_at_call 61; (with_reducible refine (spec_even.calls _ nt.erase (Nat.le_refl _) HFT.out.shp.few_ _ ?side1).mono ?_); (case side1 => repeat (first | exact HR3.out | (with_reducible refine Rd.drewN ?_ _) | (with_reducible refine Rd.drew ?_))); rintro e w' ⟨rfl, ⟨nd, rfl⟩⟩) | (go_at_call 84; (with_reducible refine (spec_leaf.callsB false hbl.out _ ?side1).mono ?_); (case side1 => repeat (first | exact HR3.out | (with_reducible refine Rd.drewN ?_ _) | (with_reducible refine Rd.drew ?_))); rintro e w' ⟨rfl, ⟨nd, rfl⟩⟩))
                go_ret2
                exact ⟨pw_below_drewN HB.out _, .inl ⟨HE.out, rfl⟩⟩
              · have t3 : ((nt.erase.keys.length : Int) == 0) = false := by rw [beq_eq_false_iff_ne]; omega
                have t3c : decide ((nt.erase.keys.length : Int) = 0) = false := decide_eq_false (by omega)
                by_cases h4 : 40 < (allK nt.erase).length
                · have HE := Aside0.mk (show R = none by rw [hrr, if_pos (.inr (.inr h4))])
                  have t4 : decide (40 < ((allK nt.erase).length : Int)) = true := decide_eq_true (by omega)
                  have t4b : (40 < (allK nt.erase).length) = True := eq_true h4
                  clear h1 h2 h3 h4 hrr
                  go_wp2_with (first | (go_at_call 61; (with_reducible refine (spec_even.calls _ nt.erase (Nat.le_refl _) HFT.out.shp.few_ _ ?side1).mono ?_); (case side1 => repeat (first | exact HR3.out | (with_reducible refine Rd.drewN ?_ _) | (with_reducible refine Rd.drew ?_))); rintro e w' ⟨rfl, ⟨nd, rfl⟩⟩) | (go_at_call 84; (with_reducible refine (spec_leaf.callsB false hbl.out _ ?side1).mono ?_); (case side1 => repeat (first | exact HR3.out | (with_reducible refine Rd.drewN ?_ _) | (with_reducible refine Rd.drew ?_))); rintro e w' ⟨rfl, ⟨nd, rfl⟩⟩))
                  go_ret2
                  exact ⟨pw_below_drewN HB.out _, .inl ⟨HE.out, rfl⟩⟩
                · have HE := Aside0.mk (show R = some nt.erase by rw [hrr, if_neg (by omega)])
                  have t4 : decide (40 < ((allK nt.erase).length : Int)) = false := decide_eq_false (by omega)
                  have t4b : (40 < (allK nt.erase).length) = False := eq_false h4
                  clear h1 h2 h3 h4 hrr
                  go_wp2_with (first | (go_at_call 61; (with_reducible refine (spec_even.calls _ nt.erase (Nat.le_refl _) HFT.out.shp.few_ _ ?side1).mono ?_); (case side1 => repeat (first | exact HR3.out | (with_reducible refine Rd.drewN ?_ _) | (with_reducible refine Rd.drew ?_))); rintro e w' ⟨rfl, ⟨nd, rfl⟩⟩) | (go_at_call 84; (with_reducible refine (spec_leaf.callsB false hbl.out _ ?side1).mono ?_); (case side1 => repeat (first | exact HR3.out | (with_reducible refine Rd.drewN ?_ _) | (with_reducible refine Rd.drew ?_))); rintro e w' ⟨rfl, ⟨nd, rfl⟩⟩))
                  go_ret2
                  exact ⟨pw_below_drewN HB.out _, .inr ⟨nt, HE.out, rfl, (HS3.out.drewN _).lower (Nat.le_refl _)⟩⟩
    · rw [if_pos (by simpa using hn)] at hR
      have HE := Aside0.mk hR
      have tn1 : ((n : Int) != (P.length : Int)) = true := ne_t hn
      have tn2 : (n != P.length) = true := nen_t hn
      clear hp hm hN hR hrs hn
      go_enter Try.func57, Try.ntmps57
      go_wp2_with (first | ((with_reducible refine gate_dst (N := 1) rfl ?_); refine box_event ?hg (N := 1) ?hd (cs := #[.slice A P.length c]) (t := 29) ?hr ?_; (case hd => rfl); (case hg => rfl); (case hr => first | (go_simp; done) | (go_simp; rfl)); intro b3 hg w1 hbox hb; have HBX := Aside0.mk hbox; have HB := Aside0.mk hb; have hz3 : w1.cell? ⟨b3, 0, none⟩ = some (.slice A P.length c) := (blk_cell hbox 0).trans rfl; clear hg hbox hb) | (go_at_call 95; (with_reducible refine (spec_l5Read.calls0 P HNP.out A c _ (Kd.C_below HP.out HB.out) HM.out).mono ?_); rintro e w2 ⟨hb, hr⟩; rw [HRS.out] at hr; obtain ⟨nt, n9, h9, rfl, hs⟩ := hr.resolve_left (by rintro ⟨h, _⟩; cases h); injection h9 with h9; injection h9 with h9 h8; subst h9; subst h8; have hz3b : w2.cell? ⟨b3, 0, none⟩ = some (.slice A P.length c) := (blk_cell (blk_below HBX.out hb) 0).trans rfl; have HS2 := Aside0.mk (hs.lower HB.out.size); have n1_ := Aside0.mk (below_step HB.out hb); clear HB; have HB := n1_; clear n1_ hb hr hs))
      go_ret2
      exact ⟨HB.out, .inl ⟨HE.out, rfl⟩⟩
end Go.Proofs.Ytoddejmlcnbdmaa.Tree
namespace Go.Proofs.Ytoddejmlcnbdmaa.Tree
open Go.Proofs.Ytoddejmlcnbdmaa.Gen
open Go.RowKit Go.Proofs.YtoddejmlcnbdmaaW.PrintWords Go.Proofs.YtoddejmlcnbdmaaW.PrintLast Go.Proofs.YtoddejmlcnbdmaaW.PrintMore Go.Proofs.Ytoddejmlcnbdmaa.Fn
set_option linter.unusedVariables false
set_option linter.unusedSimpArgs false
set_option maxHeartbeats 8000000
set_option maxRecDepth 100000

theorem impl_all.calls0 (t : PT) (hs : Shp t) {p : Nat} (w : World) (h : Rd 101 w p t) (hb1 : (allK t).length ≤ 8796093022208) (hb2 : (allV t).length ≤ 8796093022208) : Calls Try.prog 66 #[ptrv p, .slice none 0 0, .slice none 0 0] w (AllR w (allK t) (allV t)) :=
  impl_all.calls _ t (Nat.le_refl _) hs w w (.slice none 0 0) (.slice none 0 0) [] [] h (Below.refl _ _) (SR.nil _ _) (SR.nil _ _) (neNil _) hb1 hb2
theorem impl_node.calls0 (P : List S110) (hN : P.length ≤ 1000000000000) (w0 : World) (A : Option Addr) (c : Nat) (hp : Kd.C k110 w0 A P.length P) (hm : ∀ p ∈ P, p.f0.length ≤ 1000000000000 ∧ p.f1.length ≤ 1000000000000 ∧ p.f2.length ≤ 1000000000000) (gb : Nat) (w : World) (hb : Below w0.heap.size w0 w) (hgb : w0.heap.size ≤ gb) (hg : w.heap[gb]? = some (.cells #[.slice A P.length c, .int .i64 0] 121 (0, 0))) :
    Calls Try.prog 97 #[ptrv gb] w (NodeR w0 w gb (.slice A P.length c) (readS P (P.length + 1) 0)) :=
  impl_node.calls P hN w0 A c hp hm (P.length + 1) 0 (by omega) (Nat.zero_le _) gb w hb hgb hg
theorem impl_root.calls (k : Nat) (P : List S110) (hN : P.length ≤ 1000000000000) (A : Option Addr) (c : Nat) (w : World) (hp : Kd.C k110 w A P.length P) (hm : ∀ p ∈ P, p.f0.length ≤ 1000000000000 ∧ p.f1.length ≤ 1000000000000 ∧ p.f2.length ≤ 1000000000000) (r : Option PT) (h : rootI k P = some r) :
    Calls Try.prog 59 #[.agg #[.slice A P.length c]] w (OfR 101 74 w r) := by
  have HP := Aside0.mk hp
  have HM := Aside0.mk hm
  have HNP := Aside0.mk hN
  have hNl : P.length ≤ 1000000000000 := hN
  unfold rootI at h
  cases hrs : readS P (P.length + 1) 0 with
  | none =>
    rw [hrs] at h
    have HE := Aside0.mk (Option.some.inj h)
    have HRS := Aside0.mk hrs
    clear hp hm hN h hrs
    go_enter Try.func59, Try.ntmps59
    go_wp2_with (first | ((with_reducible refine gate_dst (N := 1) rfl ?_); refine box_event ?hg (N := 1) ?hd (cs := #[.slice A P.length c]) (t := 29) ?hr ?_; (case hd => rfl); (case hg => rfl); (case hr => first | (go_simp; done) | (go_simp; rfl)); intro b3 hg w1 hbox hb; have HBX := Aside0.mk hbox; have HB := Aside0.mk hb; have hz3 : w1.cell? ⟨b3, 0, none⟩ = some (.slice A P.length c) := (blk_cell hbox 0).trans rfl; clear hg hbox hb) | ((with_reducible refine gate_dst (N := 12) rfl ?_); refine box_event ?hg (N := 12) ?hd (cs := #[.slice A P.length c, .int .i64 0]) (t := 121) ?hr ?_; (case hd => rfl); (case hg => rfl); (case hr => first | (go_simp; done) | (go_simp; rfl)); intro gb hg w2 hbox hb; have HGB := Aside0.mk (show w.heap.size ≤ gb by rw [hg]; exact HB.out.size); have HBG := Aside0.mk (show b3 ≠ gb by have := blk_lt HBX.out; omega); have HG := Aside0.mk hbox; have n2_ := Aside0.mk (blk_below HBX.out hb); have n1_ := Aside0.mk (below_step HB.out hb); clear HB; clear HBX; have HB := n1_; have HBX := n2_; clear n1_ n2_ hg hbox hb) | (go_at_call 97; (with_reducible refine (impl_node.calls0 P HNP.out w A c HP.out HM.out gb _ HB.out HGB.out HG.out).mono ?_); rintro e w3 ⟨hb, hr⟩; rw [HRS.out] at hr; obtain ⟨-, rfl⟩ := hr.resolve_right (by rintro ⟨_, _, h, _⟩; cases h); clear HB; have HB := Aside0.mk hb; clear hb hr))
    go_quiet (fail)
    go_wp2
    go_ret2
    exact ⟨pw_below_drewN HB.out _, .inl ⟨HE.out.symm, rfl⟩⟩
  | some tn =>
    obtain ⟨t, n⟩ := tn
    rw [hrs] at h
    simp only at h
    have HRS := Aside0.mk hrs
    have HFT := Aside0.mk (readS_fits _ 0 t n hrs).2
    have HLE := Aside0.mk (readS_le _ 0 t n hrs)
    by_cases hn : n = P.length
    · rw [if_neg (by simp [hn])] at h
      have tn1 : ((n : Int) != (P.length : Int)) = false := ne_f hn
      have tn2 : (n != P.length) = false := nen_f hn
      have HZ1 := Aside0.mk (show (allK t).length ≤ 8796093022208 by have := HFT.out.k; omega)
      have HZ2 := Aside0.mk (show (allV t).length ≤ 8796093022208 by have := HFT.out.v; omega)
      obtain ⟨dd, bb, hdp⟩ : ∃ d b, depthP t = (d, b) := ⟨_, _, rfl⟩
      have HDP := Aside0.mk hdp
      rw [hdp] at h
      cases bb with
      | false =>
        have HE := Aside0.mk (Option.some.inj h)
        clear hp hm hN h hrs hn hdp
        go_enter Try.func59, Try.ntmps59
        go_wp2_with (first | ((with_reducible refine gate_dst (N := 1) rfl ?_); refine box_event ?hg (N := 1) ?hd (cs := #[.slice A P.length c]) (t := 29) ?hr ?_; (case hd => rfl); (case hg => rfl); (case hr => first | (go_simp; done) | (go_simp; rfl)); intro b3 hg w1 hbox hb; have HBX := Aside0.mk hbox; have HB := Aside0.mk hb; have hz3 : w1.cell? ⟨b3, 0, none⟩ = some (.slice A P.length c) := (blk_cell hbox 0).trans rfl; clear hg hbox hb) | ((with_reducible refine gate_dst (N := 12) rfl ?_); refine box_event ?hg (N := 12) ?hd (cs := #[.slice A P.length c, .int .i64 0]) (t := 121) ?hr ?_; (case hd => rfl); (case hg => rfl); (case hr => first | (go_simp; done) | (go_simp; rfl)); intro gb hg w2 hbox hb; have HGB := Aside0.mk (show w.heap.size ≤ gb by rw [hg]; exact HB.out.size); have HBG := Aside0.mk (show b3 ≠ gb by have := blk_lt HBX.out; omega); have HG := Aside0.mk hbox; have n2_ := Aside0.mk (blk_below HBX.out hb); have n1_ := Aside0.mk (below_step HB.out hb); clear HB; clear HBX; have HB := n1_; have HBX := n2_; clear n1_ n2_ hg hbox hb) | (go_at_call 97; (with_reducible refine (impl_node.calls0 P HNP.out w A c HP.out HM.out gb _ HB.out HGB.out HG.out).mono ?_); rintro e w3 ⟨hb, hr⟩; rw [HRS.out] at hr; obtain ⟨nt, n9, h9, rfl, hs, hk, hg⟩ := hr.resolve_left (by rintro ⟨h, _⟩; cases h); injection h9 with h9; injection h9 with h9 h8; subst h9; subst h8; have hz3b : w3.cell? ⟨b3, 0, none⟩ = some (.slice A P.length c) := (blk_cell (blk_kept HBX.out hk HBG.out) 0).trans rfl; have hzg : w3.cell? ⟨gb, 1, none⟩ = some (.int .i64 (n : Int)) := (blk_cell hg 1).trans rfl; have HS2 := Aside0.mk (hs.lower HB.out.size); clear HB; have HB := Aside0.mk hb; have HR3 := Aside0.mk (rd_of HS2.out); clear hb hr hs hk hg))
        go_quiet (fail)
        go_wp2_with (go_at_call 62; (with_reducible refine (impl_depth.calls _ nt.erase (Nat.le_refl _) HFT.out.shp.few_ dd false HDP.out _ ?side1).mono ?_); (case side1 => repeat (first | exact HR3.out | (with_reducible refine Rd.drewN ?_ _) | (with_reducible refine Rd.drew ?_))); rintro e w' ⟨rfl, ⟨nd, rfl⟩⟩)
        go_ret2
        exact ⟨pw_below_drewN HB.out _, .inl ⟨HE.out.symm, rfl⟩⟩
      | true =>
        rw [if_neg (by simp)] at h
        obtain ⟨b, hap, h⟩ := Option.bind_eq_some_iff.mp h
        have HAP := Aside0.mk hap
        cases b with
        | false =>
          have HE := Aside0.mk (Option.some.inj h)
          clear hp hm hN h hrs hn hdp hap
          go_enter Try.func59, Try.ntmps59
          go_wp2_with (first | ((with_reducible refine gate_dst (N := 1) rfl ?_); refine box_event ?hg (N := 1) ?hd (cs := #[.slice A P.length c]) (t := 29) ?hr ?_; (case hd => rfl); (case hg => rfl); (case hr => first | (go_simp; done) | (go_simp; rfl)); intro b3 hg w1 hbox hb; have HBX := Aside0.mk hbox; have HB := Aside0.mk hb; have hz3 : w1.cell? ⟨b3, 0, none⟩ = some (.slice A P.length c) := (blk_cell hbox 0).trans rfl; clear hg hbox hb) | ((with_reducible refine gate_dst (N := 12) rfl ?_); refine box_event ?hg (N := 12) ?hd (cs := #[.slice A P.length c, .int .i64 0]) (t := 121) ?hr ?_; (case hd => rfl); (case hg => rfl); (case hr => first | (go_simp; done) | (go_simp; rfl)); intro gb hg w2 hbox hb; have HGB := Aside0.mk (show w.heap.size ≤ gb by rw [hg]; exact HB.out.size); have HBG := Aside0.mk (show b3 ≠ gb by have := blk_lt HBX.out; omega); have HG := Aside0.mk hbox; have n2_ := Aside0.mk (blk_below HBX.out hb); have n1_ := Aside0.mk (below_step HB.out hb); clear HB; clear HBX; have HB := n1_; have HBX := n2_; clear n1_ n2_ hg hbox hb) | (go_at_call 97; (with_reducible refine (impl_node.calls0 P HNP.out w A c HP.out HM.out gb _ HB.out HGB.out HG.out).mono ?_); rintro e w3 ⟨hb, hr⟩; rw [HRS.out] at hr; obtain ⟨nt, n9, h9, rfl, hs, hk, hg⟩ := hr.resolve_left (by rintro ⟨h, _⟩; cases h); injection h9 with h9; injection h9 with h9 h8; subst h9; subst h8; have hz3b : w3.cell? ⟨b3, 0, none⟩ = some (.slice A P.length c) := (blk_cell (blk_kept HBX.out hk HBG.out) 0).trans rfl; have hzg : w3.cell? ⟨gb, 1, none⟩ = some (.int .i64 (n : Int)) := (blk_cell hg 1).trans rfl; have HS2 := Aside0.mk (hs.lower HB.out.size); clear HB; have HB := Aside0.mk hb; have HR3 := Aside0.mk (rd_of HS2.out); clear hb hr hs hk hg))
          have HRN := fun m => HR3.out.drewN m
          go_quiet (fail)
          go_wp2_with (first | (go_at_call 62; (with_reducible refine (impl_depth.calls _ nt.erase (Nat.le_refl _) HFT.out.shp.few_ dd true HDP.out _ ?side1).mono ?_); (case side1 => repeat (first | exact HR3.out | (with_reducible refine Rd.drewN ?_ _) | (with_reducible refine Rd.drew ?_))); rintro e w' ⟨rfl, ⟨nd, rfl⟩⟩) | (go_at_call 66; (with_reducible refine (impl_all.calls0 nt.erase HFT.out.shp _ (HRN _) HZ1.out HZ2.out).mono ?_); rintro e w5 ⟨u1, u2, rfl, ho1, ho2, hne, hb⟩; obtain ⟨B1, d1, rfl, hl1, hc1⟩ := Kd.R_reads ho1; obtain ⟨B2, d2, rfl, hl2, hc2⟩ := Kd.R_reads ho2; have HC1 := Aside0.mk hc1; have HC2 := Aside0.mk hc2; have HD1 := Aside0.mk hl1; have HD2 := Aside0.mk hl2; have n1_ := Aside0.mk (below_step (pw_below_drewN HB.out _) hb); have HS3 := Aside0.mk ((HS2.out.drewN _).under hb); clear HB; have HB := n1_; clear n1_ hb ho1 ho2 hne hl1 hl2 hc1 hc2 HS2) | (go_at_call 86; (with_reducible refine (impl_arePairs.calls k _ _ (allK nt.erase) _ _ (allV nt.erase) false _ HC1.out HD1.out HC2.out HD2.out HAP.out).mono ?_); rintro e w' ⟨rfl, ⟨nd, rfl⟩⟩))
          go_ret2
          exact ⟨pw_below_drewN HB.out _, .inl ⟨HE.out.symm, rfl⟩⟩
        | true =>
          have HE := Aside0.mk (Option.some.inj h)
          clear hp hm hN h hrs hn hdp hap
          go_enter Try.func59, Try.ntmps59
          go_wp2_with (first | ((with_reducible refine gate_dst (N := 1) rfl ?_); refine box_event ?hg (N := 1) ?hd (cs := #[.slice A P.length c]) (t := 29) ?hr ?_; (case hd => rfl); (case hg => rfl); (case hr => first | (go_simp; done) | (go_simp; rfl)); intro b3 hg w1 hbox hb; have HBX := Aside0.mk hbox; have HB := Aside0.mk hb; have hz3 : w1.cell? ⟨b3, 0, none⟩ = some (.slice A P.length c) := (blk_cell hbox 0).trans rfl; clear hg hbox hb) | ((with_reducible refine gate_dst (N := 12) rfl ?_); refine box_event ?hg (N := 12) ?hd (cs := #[.slice A P.length c, .int .i64 0]) (t := 121) ?hr ?_; (case hd => rfl); (case hg => rfl); (case hr => first | (go_simp; done) | (go_simp; rfl)); intro gb hg w2 hbox hb; have HGB := Aside0.mk (show w.heap.size ≤ gb by rw [hg]; exact HB.out.size); have HBG := Aside0.mk (show b3 ≠ gb by have := blk_lt HBX.out; omega); have HG := Aside0.mk hbox; have n2_ := Aside0.mk (blk_below HBX.out hb); have n1_ := Aside0.mk (below_step HB.out hb); clear HB; clear HBX; have HB := n1_; have HBX := n2_; clear n1_ n2_ hg hbox hb) | (go_at_call 97; (with_reducible refine (impl_node.calls0 P HNP.out w A c HP.out HM.out gb _ HB.out HGB.out HG.out).mono ?_); rintro e w3 ⟨hb, hr⟩; rw [HRS.out] at hr; obtain ⟨nt, n9, h9, rfl, hs, hk, hg⟩ := hr.resolve_left (by rintro ⟨h, _⟩; cases h); injection h9 with h9; injection h9 with h9 h8; subst h9; subst h8; have hz3b : w3.cell? ⟨b3, 0, none⟩ = some (.slice A P.length c) := (blk_cell (blk_kept HBX.out hk HBG.out) 0).trans rfl; have hzg : w3.cell? ⟨gb, 1, none⟩ = some (.int .i64 (n : Int)) := (blk_cell hg 1).trans rfl; have HS2 := Aside0.mk (hs.lower HB.out.size); clear HB; have HB := Aside0.mk hb; have HR3 := Aside0.mk (rd_of HS2.out); clear hb hr hs hk hg))
          have HRN := fun m => HR3.out.drewN m
          go_quiet (fail)
          go_wp2_with (first | (go_at_call 62; (with_reducible refine (impl_depth.calls _ nt.erase (Nat.le_refl _) HFT.out.shp.few_ dd true HDP.out _ ?side1).mono ?_); (case side1 => repeat (first | exact HR3.out | (with_reducible refine Rd.drewN ?_ _) | (with_reducible refine Rd.drew ?_))); rintro e w' ⟨rfl, ⟨nd, rfl⟩⟩) | (go_at_call 66; (with_reducible refine (impl_all.calls0 nt.erase HFT.out.shp _ (HRN _) HZ1.out HZ2.out).mono ?_); rintro e w5 ⟨u1, u2, rfl, ho1, ho2, hne, hb⟩; obtain ⟨B1, d1, rfl, hl1, hc1⟩ := Kd.R_reads ho1; obtain ⟨B2, d2, rfl, hl2, hc2⟩ := Kd.R_reads ho2; have HC1 := Aside0.mk hc1; have HC2 := Aside0.mk hc2; have HD1 := Aside0.mk hl1; have HD2 := Aside0.mk hl2; have n1_ := Aside0.mk (below_step (pw_below_drewN HB.out _) hb); have HS3 := Aside0.mk ((HS2.out.drewN _).under hb); clear HB; have HB := n1_; clear n1_ hb ho1 ho2 hne hl1 hl2 hc1 hc2 HS2) | (go_at_call 86; (with_reducible refine (impl_arePairs.calls k _ _ (allK nt.erase) _ _ (allV nt.erase) true _ HC1.out HD1.out HC2.out HD2.out HAP.out).mono ?_); rintro e w' ⟨rfl, ⟨nd, rfl⟩⟩))
          go_ret2
          exact ⟨pw_below_drewN HB.out _, .inr ⟨nt, by rw [← HE.out]; rfl, rfl, HS3.out.drewN _⟩⟩
    · rw [if_pos (by simpa using hn)] at h
      have HE := Aside0.mk (Option.some.inj h)
      have tn1 : ((n : Int) != (P.length : Int)) = true := ne_t hn
      have tn2 : (n != P.length) = true := nen_t hn
      clear hp hm hN h hrs hn
      go_enter Try.func59, Try.ntmps59
      go_wp2_with (first | ((with_reducible refine gate_dst (N := 1) rfl ?_); refine box_event ?hg (N := 1) ?hd (cs := #[.slice A P.length c]) (t := 29) ?hr ?_; (case hd => rfl); (case hg => rfl); (case hr => first | (go_simp; done) | (go_simp; rfl)); intro b3 hg w1 hbox hb; have HBX := Aside0.mk hbox; have HB := Aside0.mk hb; have hz3 : w1.cell? ⟨b3, 0, none⟩ = some (.slice A P.length c) := (blk_cell hbox 0).trans rfl; clear hg hbox hb) | ((with_reducible refine gate_dst (N := 12) rfl ?_); refine box_event ?hg (N := 12) ?hd (cs := #[.slice A P.length c, .int .i64 0]) (t := 121) ?hr ?_; (case hd => rfl); (case hg => rfl); (case hr => first | (go_simp; done) | (go_simp; rfl)); intro gb hg w2 hbox hb; have HGB := Aside0.mk (show w.heap.size ≤ gb by rw [hg]; exact HB.out.size); have HBG := Aside0.mk (show b3 ≠ gb by have := blk_lt HBX.out; omega); have HG := Aside0.mk hbox; have n2_ := Aside0.mk (blk_below HBX.out hb); have n1_ := Aside0.mk (below_step HB.out hb); clear HB; clear HBX; have HB := n1_; have HBX := n2_; clear n1_ n2_ hg hbox hb) | (go_at_call 97; (with_reducible refine (impl_node.calls0 P HNP.out w A c HP.out HM.out gb _ HB.out HGB.out HG.out).mono ?_); rintro e w3 ⟨hb, hr⟩; rw [HRS.out] at hr; obtain ⟨nt, n9, h9, rfl, hs, hk, hg⟩ := hr.resolve_left (by rintro ⟨h, _⟩; cases h); injection h9 with h9; injection h9 with h9 h8; subst h9; subst h8; have hz3b : w3.cell? ⟨b3, 0, none⟩ = some (.slice A P.length c) := (blk_cell (blk_kept HBX.out hk HBG.out) 0).trans rfl; have hzg : w3.cell? ⟨gb, 1, none⟩ = some (.int .i64 (n : Int)) := (blk_cell hg 1).trans rfl; have HS2 := Aside0.mk (hs.lower HB.out.size); clear HB; have HB := Aside0.mk hb; have HR3 := Aside0.mk (rd_of HS2.out); clear hb hr hs hk hg))
      go_quiet (fail)
      go_wp2
      go_ret2
      exact ⟨pw_below_drewN HB.out _, .inl ⟨HE.out.symm, rfl⟩⟩
end Go.Proofs.Ytoddejmlcnbdmaa.Tree
namespace Go.Proofs.Ytoddejmlcnbdmaa.Tree
open Go.Proofs.Ytoddejmlcnbdmaa.Gen
open Go.RowKit Go.Proofs.YtoddejmlcnbdmaaW.PrintWords Go.Proofs.YtoddejmlcnbdmaaW.PrintLast Go.Proofs.YtoddejmlcnbdmaaW.PrintMore Go.Proofs.Ytoddejmlcnbdmaa.Fn
set_option linter.unusedVariables false
set_option linter.unusedSimpArgs false
set_option maxHeartbeats 8000000
set_option maxRecDepth 100000

theorem spec_at.calls (t : PT) (hm : t.keys.length ≤ 1000000000000) (key : ByteArray) (i0 : Nat) (b : Bool) (hi0 : atI key t.keys = i0) (hb : hasS t.keys i0 key = b) {p : Nat} (w : World) (h : Rd 96 w p t) :
    Calls Try.prog 100 #[ptrv p, .string key] w fun e w' => e = .returned (.tuple #[.int .i64 (i0 : Int), .bool b]) ∧ Drawn0 w w' := by
  obtain ⟨Ak, ck, Av, cv, Ac, cc, ps, HN0⟩ := h.open
  have HN := Aside0.mk HN0
  have hz0 := HN0.z0
  have HE := Aside0.mk (show i0 = 0 + atI key (t.keys.drop 0) by rw [List.drop_zero, Nat.zero_add]; exact hi0.symm)
  have HBB := Aside0.mk hb
  clear h HN0 hi0 hb
  go_enter Try.func100, Try.ntmps100
  go_wp2
  go_loopg [6] t.keys.length (fun kq u6 w' => ∃ (i m : Nat), u6 = .int .i64 (i : Int) ∧ Aside0 (i ≤ t.keys.length ∧ kq + i = t.keys.length) ∧ Aside0 (i0 = i + atI key (t.keys.drop i)) ∧ w' = w.drewN m)
  case atStart => exact ⟨0, 0, by first | rfl | (simp; done), ⟨by omega⟩, HE, rfl⟩
  case round =>
    clear HE
    obtain ⟨i, m, rfl, HK, HE, rfl⟩ := hrel
    have ci : (0 ≤ (i : Int)) = True := eq_true (by omega)
    by_cases hi : i < t.keys.length
    · have ce : decide ((i : Int) < (t.keys.length : Int)) = true := decide_eq_true (by omega)
      have ceb : (i < t.keys.length) = True := eq_true hi
      have hil : i < 1000000000000 := by omega
      have HI := Aside0.mk hi
      obtain ⟨adk, rfl, hk0⟩ := HN.out.key i (by omega) (by omega)
      rw [Int.toNat_natCast] at hk0
      have hks : t.keys[i]? = some (rdOf ByteArray.empty t.keys (i : Int)) := by unfold rdOf; rw [Int.toNat_natCast, List.getD_eq_getElem?_getD, List.getElem?_eq_getElem hi]; rfl
      generalize rdOf ByteArray.empty t.keys (i : Int) = k at hk0 hks
      have HKS := Aside0.mk hks
      clear hks hi
      cases hlt : ltB k key with
      | true =>
        have HE1 := Aside0.mk (atI_on HKS.out HE.out hlt)
        have hlt' : Op.bytesLess k.toList key.toList = true := hlt
        clear hlt
        go_wp2
        go_roundg (t.keys.length - (i + 1))
        case measure => have := HK.out; have := HI.out; omega
        case rel => exact ⟨i + 1, _, by first | rfl | go_num | (simp; done), ⟨by have := HK.out; have := HI.out; omega⟩, HE1, rfl⟩
      | false =>
        have he := atI_off HKS.out HE.out hlt
        subst he
        have hlt' : Op.bytesLess k.toList key.toList = false := hlt
        have hbb : (k.toList == key.toList) = b := by have := HBB.out; unfold hasS at this; rw [HKS.out] at this; exact this
        clear hlt
        go_wp2
        go_quiet (fail)
        go_wp2
        go_ret2
        exact ⟨rfl, by repeat (first | exact Drawn0.refl _ | apply Drawn0.step | exact ⟨_, rfl⟩)⟩
    · have ce : decide ((i : Int) < (t.keys.length : Int)) = false := decide_eq_false (by omega)
      have ceb : (i < t.keys.length) = False := eq_false hi
      have he := atI_end (by omega) HE.out
      subst he
      obtain rfl : b = false := by
        cases b with
        | false => rfl
        | true => exact absurd (hasS_lt HBB.out) hi
      clear hi
      go_wp2
      go_quiet (fail)
      go_wp2
      go_ret2
      exact ⟨rfl, by repeat (first | exact Drawn0.refl _ | apply Drawn0.step | exact ⟨_, rfl⟩)⟩
theorem spec_get.calls : ∀ (n : Nat) (t : PT), t.big ≤ n → Shp t → ∀ (key v : ByteArray) (b : Bool), getS n t key = (v, b) → ∀ {p : Nat} (w : World), Rd 96 w p t →
    Calls Try.prog 63 #[ptrv p, .string key] w fun e w' => e = .returned (.tuple #[.string v, .bool b]) ∧ Drawn0 w w' := by
  intro n
  induction n with
  | zero =>
    intro t hs
    exact absurd (PT.big_pos t) (by omega)
  | succ n ih =>
    intro t hs hf key v b hr p w h
    obtain ⟨Ak, ck, Av, cv, Ac, cc, ps, HN0⟩ := h.open
    have h1 := hf.one
    unfold Shp1 at h1
    have hle := atI_le key t.keys
    have HN := Aside0.mk HN0
    have HO := Aside0.mk h
    have HF := Aside0.mk hf
    have HSZ := Aside0.mk hs
    have hz1 := HN0.z1
    have hz2 := HN0.z2
    obtain ⟨i, hi⟩ : ∃ i, atI key t.keys = i := ⟨_, rfl⟩
    rw [getS, hi] at hr
    rw [hi] at hle
    have HI := Aside0.mk hi
    have ci : (0 ≤ (i : Int)) = True := eq_true (by omega)
    cases hh : hasS t.keys i key with
    | true =>
      have hlt := hasS_lt hh
      rw [hh, if_pos rfl] at hr
      injection hr with e1 e2
      subst e2
      obtain ⟨adv, rfl, hv0⟩ := HN0.val i (by omega) (by omega)
      rw [Int.toNat_natCast] at hv0
      rw [e1] at hv0
      have cvb : (i < t.vals.length) = True := eq_true (by omega)
      have cva : ((i : Int) < (t.vals.length : Int)) = True := eq_true (by omega)
      have HH := Aside0.mk hh
      have HM := Aside0.mk (show t.keys.length ≤ 1000000000000 by omega)
      clear h1 hle hlt hh hi h hf hs HN0 e1
      go_enter Try.func63, Try.ntmps63
      go_wp2_with (go_at_call 100; (with_reducible refine (spec_at.calls t HM.out key i true HI.out HH.out _ ?side1).mono ?_); (case side1 => repeat (first | exact HO.out | (with_reducible refine Rd.drewN ?_ _) | (with_reducible refine Rd.drew ?_))); rintro e w' ⟨rfl, ⟨nd, rfl⟩⟩)
      go_ret2
      exact ⟨rfl, by repeat (first | exact Drawn0.refl _ | apply Drawn0.step | exact ⟨_, rfl⟩)⟩
    | false =>
      rw [hh, if_neg (by decide)] at hr
      have HH := Aside0.mk hh
      have HM := Aside0.mk (show t.keys.length ≤ 1000000000000 by omega)
      by_cases h0 : t.kids.length = 0
      · rw [if_pos h0] at hr
        injection hr with e1 e2
        subst e1; subst e2
        have hb0 := Aside0.mk (show decide ((t.kids.length : Int) = 0) = true from decide_eq_true (by omega))
        clear h1 hle hh hi h hf hs HN0 h0
        go_enter Try.func63, Try.ntmps63
        go_wp2_with (first | (go_at_call 100; (with_reducible refine (spec_at.calls t HM.out key i false HI.out HH.out _ ?side1).mono ?_); (case side1 => repeat (first | exact HO.out | (with_reducible refine Rd.drewN ?_ _) | (with_reducible refine Rd.drew ?_))); rintro e w' ⟨rfl, ⟨nd, rfl⟩⟩) | (go_at_call 84; (with_reducible refine (spec_leaf.callsB true hb0.out _ ?side1).mono ?_); (case side1 => repeat (first | exact HO.out | (with_reducible refine Rd.drewN ?_ _) | (with_reducible refine Rd.drew ?_))); rintro e w' ⟨rfl, ⟨nd, rfl⟩⟩))
        go_ret2
        exact ⟨by first | rfl | (simp; done), by repeat (first | exact Drawn0.refl _ | apply Drawn0.step | exact ⟨_, rfl⟩)⟩
      · rw [if_neg h0] at hr
        have hb0 := Aside0.mk (show decide ((t.kids.length : Int) = 0) = false from decide_eq_false (by omega))
        have hkl : t.kids.length = t.keys.length + 1 := h1.2.2.resolve_left h0
        obtain ⟨adc, q, s, rfl, hc0, hs', hrs⟩ := HN0.kid i (by omega) (by omega)
        rw [Int.toNat_natCast] at hc0 hs'
        rw [hs'] at hr
        have HS := Aside0.mk hs'
        have HRs := Aside0.mk hrs
        have HR := Aside0.mk (show getS n s key = (v, b) from hr)
        have hca : ((i : Int) < (t.kids.length : Int)) = True := eq_true (by omega)
        have hcb : (i < t.kids.length) = True := eq_true (by omega)
        clear h1 hle hh hi h hf hs HN0 h0 hr hkl hs' hrs
        go_enter Try.func63, Try.ntmps63
        go_wp2_with (first | (go_at_call 100; (with_reducible refine (spec_at.calls t HM.out key i false HI.out HH.out _ ?side1).mono ?_); (case side1 => repeat (first | exact HO.out | (with_reducible refine Rd.drewN ?_ _) | (with_reducible refine Rd.drew ?_))); rintro e w' ⟨rfl, ⟨nd, rfl⟩⟩) | (go_at_call 84; (with_reducible refine (spec_leaf.callsB false hb0.out _ ?side1).mono ?_); (case side1 => repeat (first | exact HO.out | (with_reducible refine Rd.drewN ?_ _) | (with_reducible refine Rd.drew ?_))); rintro e w' ⟨rfl, ⟨nd, rfl⟩⟩) | (go_at_call 63; (with_reducible refine (ih s (by have := PT.big_kid HS.out; have := HSZ.out; omega) (HF.out.kid HS.out) key v b HR.out _ ?side1).mono ?_); (case side1 => repeat (first | exact HRs.out | (with_reducible refine Rd.drewN ?_ _) | (with_reducible refine Rd.drew ?_))); rintro e w' ⟨rfl, ⟨nd, rfl⟩⟩))
        go_ret2
        exact ⟨by first | rfl | (simp; done), by repeat (first | exact Drawn0.refl _ | apply Drawn0.step | exact ⟨_, rfl⟩)⟩
theorem impl_get.calls (k : Nat) : ∀ (n : Nat) (t : PT) (key v : ByteArray) (b : Bool), getI k n t key = some (v, b) → ∀ {p : Nat} (w : World), Rd 101 w p t →
    Calls Try.prog 64 #[ptrv p, .string key] w fun e w' => e = .returned (.tuple #[.string v, .bool b]) ∧ Drawn0 w w' := by
  intro n
  induction n with
  | zero =>
    intro t key v b hr
    cases hr
  | succ n ih =>
    intro t key v b hr p w h
    obtain ⟨Ak, ck, Av, cv, Ac, cc, ps, HN0⟩ := h.open
    have HN := Aside0.mk HN0
    have HO := Aside0.mk h
    have hz0 := HN0.z0
    have hz1 := HN0.z1
    have hz2 := HN0.z2
    rw [getI] at hr
    obtain ⟨a, hl, hr⟩ := Option.bind_eq_some_iff.mp hr
    obtain ⟨hh, hha, hr⟩ := Option.bind_eq_some_iff.mp hr
    have HLE := Aside0.mk hl
    have HHA := Aside0.mk hha
    clear hl hha
    cases hh with
    | true =>
      rw [if_pos rfl] at hr
      by_cases ha : 0 ≤ a ∧ a < (t.vals.length : Int)
      · rw [if_pos ha] at hr
        injection hr with hr
        injection hr with e1 e2
        subst e2
        obtain ⟨adv, rfl, hv0⟩ := HN0.val a ha.1 ha.2
        rw [e1] at hv0
        have cva : (a < (t.vals.length : Int)) = True := eq_true ha.2
        have ci : (0 ≤ a) = True := eq_true ha.1
        clear ha h HN0 e1
        go_enter Try.func64, Try.ntmps64
        go_wp2_with (first | (go_at_call 73; (with_reducible refine (impl_less.calls k _ _ t.keys key a _ ?side1 ?side2 HLE.out).mono ?_); (case side1 => repeat (first | exact HN.out.hk | (with_reducible refine Kd.C_drewN ?_ _) | (with_reducible refine Kd.C_drew ?_))); (case side2 => exact HN.out.h1); rintro e w' ⟨rfl, ⟨nd, rfl⟩⟩) | (go_at_call 101; (with_reducible refine (impl_hasAt.calls _ _ t.keys a key true _ ?side1 ?side2 HHA.out).mono ?_); (case side1 => repeat (first | exact HN.out.hk | (with_reducible refine Kd.C_drewN ?_ _) | (with_reducible refine Kd.C_drew ?_))); (case side2 => exact HN.out.h1); rintro e w' ⟨rfl, ⟨nd, rfl⟩⟩))
        go_ret2
        exact ⟨rfl, by repeat (first | exact Drawn0.refl _ | apply Drawn0.step | exact ⟨_, rfl⟩)⟩
      · rw [if_neg ha] at hr
        cases hr
    | false =>
      rw [if_neg (by decide)] at hr
      by_cases h0 : t.kids.length = 0
      · rw [if_pos h0] at hr
        injection hr with hr
        injection hr with e1 e2
        subst e1; subst e2
        have hb0 := Aside0.mk (show decide ((t.kids.length : Int) = 0) = true from decide_eq_true (by omega))
        clear h HN0 h0
        go_enter Try.func64, Try.ntmps64
        go_wp2_with (first | (go_at_call 73; (with_reducible refine (impl_less.calls k _ _ t.keys key a _ ?side1 ?side2 HLE.out).mono ?_); (case side1 => repeat (first | exact HN.out.hk | (with_reducible refine Kd.C_drewN ?_ _) | (with_reducible refine Kd.C_drew ?_))); (case side2 => exact HN.out.h1); rintro e w' ⟨rfl, ⟨nd, rfl⟩⟩) | (go_at_call 101; (with_reducible refine (impl_hasAt.calls _ _ t.keys a key false _ ?side1 ?side2 HHA.out).mono ?_); (case side1 => repeat (first | exact HN.out.hk | (with_reducible refine Kd.C_drewN ?_ _) | (with_reducible refine Kd.C_drew ?_))); (case side2 => exact HN.out.h1); rintro e w' ⟨rfl, ⟨nd, rfl⟩⟩) | (go_at_call 99; (with_reducible refine (impl_isLeaf.callsB true hb0.out _ ?side1).mono ?_); (case side1 => repeat (first | exact HO.out | (with_reducible refine Rd.drewN ?_ _) | (with_reducible refine Rd.drew ?_))); rintro e w' ⟨rfl, ⟨nd, rfl⟩⟩))
        go_ret2
        exact ⟨by first | rfl | (simp; done), by repeat (first | exact Drawn0.refl _ | apply Drawn0.step | exact ⟨_, rfl⟩)⟩
      · rw [if_neg h0] at hr
        by_cases ha : 0 ≤ a
        · rw [if_pos ha] at hr
          have hb0 := Aside0.mk (show decide ((t.kids.length : Int) = 0) = false from decide_eq_false (by omega))
          rcases Nat.lt_or_ge a.toNat t.kids.length with hlt | hge
          · obtain ⟨adc, q, s, rfl, hc0, hs', hrs⟩ := HN0.kid a ha (by omega)
            rw [hs'] at hr
            have HRs := Aside0.mk hrs
            have HR := Aside0.mk (show getI k n s key = some (v, b) from hr)
            have hca : (a < (t.kids.length : Int)) = True := eq_true (by omega)
            have ci : (0 ≤ a) = True := eq_true ha
            clear ha h HN0 h0 hr hs' hrs hlt
            go_enter Try.func64, Try.ntmps64
            go_wp2_with (first | (go_at_call 73; (with_reducible refine (impl_less.calls k _ _ t.keys key a _ ?side1 ?side2 HLE.out).mono ?_); (case side1 => repeat (first | exact HN.out.hk | (with_reducible refine Kd.C_drewN ?_ _) | (with_reducible refine Kd.C_drew ?_))); (case side2 => exact HN.out.h1); rintro e w' ⟨rfl, ⟨nd, rfl⟩⟩) | (go_at_call 101; (with_reducible refine (impl_hasAt.calls _ _ t.keys a key false _ ?side1 ?side2 HHA.out).mono ?_); (case side1 => repeat (first | exact HN.out.hk | (with_reducible refine Kd.C_drewN ?_ _) | (with_reducible refine Kd.C_drew ?_))); (case side2 => exact HN.out.h1); rintro e w' ⟨rfl, ⟨nd, rfl⟩⟩) | (go_at_call 99; (with_reducible refine (impl_isLeaf.callsB false hb0.out _ ?side1).mono ?_); (case side1 => repeat (first | exact HO.out | (with_reducible refine Rd.drewN ?_ _) | (with_reducible refine Rd.drew ?_))); rintro e w' ⟨rfl, ⟨nd, rfl⟩⟩) | (go_at_call 64; (with_reducible refine (ih s key v b HR.out _ ?side1).mono ?_); (case side1 => repeat (first | exact HRs.out | (with_reducible refine Rd.drewN ?_ _) | (with_reducible refine Rd.drew ?_))); rintro e w' ⟨rfl, ⟨nd, rfl⟩⟩))
            go_ret2
            exact ⟨by first | rfl | (simp; done), by repeat (first | exact Drawn0.refl _ | apply Drawn0.step | exact ⟨_, rfl⟩)⟩
          · rw [List.getElem?_eq_none hge] at hr
            cases hr
        · rw [if_neg ha] at hr
          cases hr
end Go.Proofs.Ytoddejmlcnbdmaa.Tree
namespace Go.Proofs.Ytoddejmlcnbdmaa.Fn
open Go.Proofs.Ytoddejmlcnbdmaa.Gen Go.Proofs.Ytoddejmlcnbdmaa.Tree
open Go.RowKit Go.Proofs.YtoddejmlcnbdmaaW.PrintWords Go.Proofs.YtoddejmlcnbdmaaW.PrintLast Go.Proofs.YtoddejmlcnbdmaaW.PrintMore
set_option linter.unusedVariables false
set_option linter.unusedSimpArgs false
set_option maxHeartbeats 8000000
set_option maxRecDepth 100000

def okP (P : List S110) : Bool := decide (P.length ≤ 1000000000000) && P.all fun p => decide (p.f0.length ≤ 1000000000000) && decide (p.f1.length ≤ 1000000000000) && decide (p.f2.length ≤ 1000000000000)
theorem okP_parts {P : List S110} (h : okP P = true) : P.length ≤ 1000000000000 ∧ ∀ p ∈ P, p.f0.length ≤ 1000000000000 ∧ p.f1.length ≤ 1000000000000 ∧ p.f2.length ≤ 1000000000000 := by
  unfold okP at h
  simp only [Bool.and_eq_true, decide_eq_true_eq, List.all_eq_true] at h
  exact ⟨h.1, fun p hp => ⟨(h.2 p hp).1.1, (h.2 p hp).1.2, (h.2 p hp).2⟩⟩
theorem rootI_mono (P : List S110) (k : Nat) : LeO (rootI k P) (rootI (k + 1) P) := by
  unfold rootI
  cases readS P (P.length + 1) 0 with
  | none => exact LeO.refl _
  | some r =>
    refine LeO.ite (LeO.refl _) (LeO.ite (LeO.refl _) (LeO.bind (impl_arePairs.mono _ _ _) fun _ => LeO.refl _))
theorem getI_mono : ∀ (k n : Nat) (t : PT) (key : ByteArray), LeO (getI k n t key) (getI (k + 1) (n + 1) t key)
  | k, 0, t, key => LeO.none _
  | k, n + 1, t, key => by
    rw [getI, getI]
    refine LeO.bind (impl_less.mono _ _ _) fun a => LeO.bind (LeO.refl _) fun h => LeO.ite (LeO.refl _) (LeO.ite (LeO.refl _) (LeO.ite ?_ (LeO.refl _)))
    cases t.kids[a.toNat]? with
    | none => exact LeO.refl _
    | some s => exact getI_mono k n s key
def spec_GoodTree.f (l0_0 : List S110) : Option Bool := if okP l0_0 = true then some (ofS l0_0).isSome else none
theorem spec_GoodTree.calls (A0_0 : Option Addr) (c0_0 : Nat) (l0_0 : List (S110)) (r : Bool) (w : World) (hr0_0 : Kd.C k110 w A0_0 l0_0.length l0_0) (hc0_0 : l0_0.length ≤ c0_0) (h : spec_GoodTree.f l0_0 = some r) :
    Calls Try.prog 16 #[.agg #[.slice A0_0 l0_0.length c0_0]] w fun e w' => e = .returned (.bool r) ∧ Below w.heap.size w w' := by
  unfold spec_GoodTree.f at h
  have HP := Aside0.mk hr0_0
  clear hr0_0 hc0_0
  by_cases hok : okP l0_0 = true
  · rw [if_pos hok] at h
    have HNP := Aside0.mk (okP_parts hok).1
    have HM := Aside0.mk (okP_parts hok).2
    cases hrs : ofS l0_0 with
    | none =>
      rw [hrs] at h
      obtain rfl := Option.some.inj h
      have HRS := Aside0.mk hrs
      clear h hrs hok
      go_enter Try.func16, Try.ntmps16
      go_wp2_with (first | ((with_reducible refine gate_dst (N := 1) rfl ?_); refine box_event ?hg (N := 1) ?hd (cs := #[.slice A0_0 l0_0.length c0_0]) (t := 29) ?hr ?_; (case hd => rfl); (case hg => rfl); (case hr => first | (go_simp; done) | (go_simp; rfl)); intro b3 hg w1 hbox hb; have HB := Aside0.mk hb; have hz3 : w1.cell? ⟨b3, 0, none⟩ = some (.slice A0_0 l0_0.length c0_0) := (blk_cell hbox 0).trans rfl; clear hg hbox hb) | (go_at_call 57; (with_reducible refine (spec_l5Of.calls l0_0 HNP.out A0_0 c0_0 _ (Kd.C_below HP.out HB.out) HM.out).mono ?_); rintro e w2 ⟨hb, hr⟩; rw [HRS.out] at hr; obtain ⟨-, rfl⟩ := hr.resolve_right (by rintro ⟨_, h, _⟩; cases h); have n1_ := Aside0.mk (below_step HB.out hb); clear HB; have HB := n1_; clear n1_ hb hr))
      go_ret
      exact ⟨by first | rfl | (simp; done), HB.out⟩
    | some t =>
      rw [hrs] at h
      obtain rfl := Option.some.inj h
      have HRS := Aside0.mk hrs
      clear h hrs hok
      go_enter Try.func16, Try.ntmps16
      go_wp2_with (first | ((with_reducible refine gate_dst (N := 1) rfl ?_); refine box_event ?hg (N := 1) ?hd (cs := #[.slice A0_0 l0_0.length c0_0]) (t := 29) ?hr ?_; (case hd => rfl); (case hg => rfl); (case hr => first | (go_simp; done) | (go_simp; rfl)); intro b3 hg w1 hbox hb; have HB := Aside0.mk hb; have hz3 : w1.cell? ⟨b3, 0, none⟩ = some (.slice A0_0 l0_0.length c0_0) := (blk_cell hbox 0).trans rfl; clear hg hbox hb) | (go_at_call 57; (with_reducible refine (spec_l5Of.calls l0_0 HNP.out A0_0 c0_0 _ (Kd.C_below HP.out HB.out) HM.out).mono ?_); rintro e w2 ⟨hb, hr⟩; rw [HRS.out] at hr; obtain ⟨nt, h9, rfl, hs⟩ := hr.resolve_left (by rintro ⟨h, _⟩; cases h); injection h9 with h9; subst h9; have HR2 := Aside0.mk (rd_of hs); have n1_ := Aside0.mk (below_step HB.out hb); clear HB; have HB := n1_; clear n1_ hb hr hs))
      go_ret
      exact ⟨by first | rfl | (simp; done), HB.out⟩
  · rw [if_neg hok] at h
    cases h
def impl_GoodTree.f (k : Nat) (l0_0 : List S110) : Option Bool := if okP l0_0 = true then (rootI k l0_0).bind fun r => some r.isSome else none
theorem impl_GoodTree.mono : ∀ a0 k, LeO (impl_GoodTree.f k a0) (impl_GoodTree.f (k + 1) a0) := fun a0 k => LeO.ite (LeO.bind (rootI_mono _ _) fun _ => LeO.refl _) (LeO.refl _)
theorem impl_GoodTree.calls (k : Nat) (A0_0 : Option Addr) (c0_0 : Nat) (l0_0 : List (S110)) (r : Bool) (w : World) (hr0_0 : Kd.C k110 w A0_0 l0_0.length l0_0) (hc0_0 : l0_0.length ≤ c0_0) (h : impl_GoodTree.f k l0_0 = some r) :
    Calls Try.prog 18 #[.agg #[.slice A0_0 l0_0.length c0_0]] w fun e w' => e = .returned (.bool r) ∧ Below w.heap.size w w' := by
  unfold impl_GoodTree.f at h
  have HP := Aside0.mk hr0_0
  clear hr0_0 hc0_0
  by_cases hok : okP l0_0 = true
  · rw [if_pos hok] at h
    have HNP := Aside0.mk (okP_parts hok).1
    have HM := Aside0.mk (okP_parts hok).2
    obtain ⟨o, hrs, h⟩ := Option.bind_eq_some_iff.mp h
    cases o with
    | none =>
      obtain rfl := Option.some.inj h
      have HRS := Aside0.mk hrs
      clear h hrs hok
      go_enter Try.func18, Try.ntmps18
      go_wp2_with (first | ((with_reducible refine gate_dst (N := 1) rfl ?_); refine box_event ?hg (N := 1) ?hd (cs := #[.slice A0_0 l0_0.length c0_0]) (t := 29) ?hr ?_; (case hd => rfl); (case hg => rfl); (case hr => first | (go_simp; done) | (go_simp; rfl)); intro b3 hg w1 hbox hb; have HB := Aside0.mk hb; have hz3 : w1.cell? ⟨b3, 0, none⟩ = some (.slice A0_0 l0_0.length c0_0) := (blk_cell hbox 0).trans rfl; clear hg hbox hb) | (go_at_call 59; (with_reducible refine (impl_root.calls k l0_0 HNP.out A0_0 c0_0 _ (Kd.C_below HP.out HB.out) HM.out _ HRS.out).mono ?_); rintro e w2 ⟨hb, hr⟩; obtain ⟨-, rfl⟩ := hr.resolve_right (by rintro ⟨_, h, _⟩; cases h); have n1_ := Aside0.mk (below_step HB.out hb); clear HB; have HB := n1_; clear n1_ hb hr))
      go_ret
      exact ⟨by first | rfl | (simp; done), HB.out⟩
    | some t =>
      obtain rfl := Option.some.inj h
      have HRS := Aside0.mk hrs
      clear h hrs hok
      go_enter Try.func18, Try.ntmps18
      go_wp2_with (first | ((with_reducible refine gate_dst (N := 1) rfl ?_); refine box_event ?hg (N := 1) ?hd (cs := #[.slice A0_0 l0_0.length c0_0]) (t := 29) ?hr ?_; (case hd => rfl); (case hg => rfl); (case hr => first | (go_simp; done) | (go_simp; rfl)); intro b3 hg w1 hbox hb; have HB := Aside0.mk hb; have hz3 : w1.cell? ⟨b3, 0, none⟩ = some (.slice A0_0 l0_0.length c0_0) := (blk_cell hbox 0).trans rfl; clear hg hbox hb) | (go_at_call 59; (with_reducible refine (impl_root.calls k l0_0 HNP.out A0_0 c0_0 _ (Kd.C_below HP.out HB.out) HM.out _ HRS.out).mono ?_); rintro e w2 ⟨hb, hr⟩; obtain ⟨nt, h9, rfl, hs⟩ := hr.resolve_left (by rintro ⟨h, _⟩; cases h); injection h9 with h9; subst h9; have HR2 := Aside0.mk (rd_of hs); have n1_ := Aside0.mk (below_step HB.out hb); clear HB; have HB := n1_; clear n1_ hb hr hs))
      go_ret
      exact ⟨by first | rfl | (simp; done), HB.out⟩
  · rw [if_neg hok] at h
    cases h
theorem ofS_shp {P : List S110} {t : PT} (h : ofS P = some t) : Shp t := by
  unfold ofS at h
  cases hrs : readS P 10 0 with
  | none => rw [hrs] at h; cases h
  | some r =>
    rw [hrs] at h
    simp only at h
    obtain ⟨r1, r2⟩ := r
    have hf := (readS_fits 10 0 r1 r2 hrs).2.shp
    split at h
    · cases h
    · split at h
      · cases h
      · split at h
        · cases h
        · obtain rfl := Option.some.inj h
          exact hf
theorem rootI_shp {k : Nat} {P : List S110} {t : PT} (h : rootI k P = some (some t)) : Shp t := by
  unfold rootI at h
  cases hrs : readS P (P.length + 1) 0 with
  | none => rw [hrs] at h; cases h
  | some r =>
    rw [hrs] at h
    simp only at h
    obtain ⟨r1, r2⟩ := r
    have hf := (readS_fits _ 0 r1 r2 hrs).2.shp
    split at h
    · cases h
    · split at h
      · cases h
      · obtain ⟨b, _, h⟩ := Option.bind_eq_some_iff.mp h
        cases b with
        | false => cases h
        | true =>
          obtain rfl : r1 = t := by simpa using h
          exact hf
def spec_DepthOf.f (l0_0 : List S110) : Option (Int × Bool) := if okP l0_0 = true then (match ofS l0_0 with | none => some (0, false) | some t => some ((evenS t, true))) else none
theorem spec_DepthOf.calls (A0_0 : Option Addr) (c0_0 : Nat) (l0_0 : List (S110)) (r1 : Int) (r2 : Bool) (w : World) (hr0_0 : Kd.C k110 w A0_0 l0_0.length l0_0) (hc0_0 : l0_0.length ≤ c0_0) (h : spec_DepthOf.f l0_0 = some (r1, r2)) :
    Calls Try.prog 20 #[.agg #[.slice A0_0 l0_0.length c0_0]] w fun e w' => e = .returned (.tuple #[.int .i64 r1, .bool r2]) ∧ Below w.heap.size w w' := by
  unfold spec_DepthOf.f at h
  have HP := Aside0.mk hr0_0
  clear hr0_0 hc0_0
  by_cases hok : okP l0_0 = true
  · rw [if_pos hok] at h
    have HNP := Aside0.mk (okP_parts hok).1
    have HM := Aside0.mk (okP_parts hok).2
    cases hrs : ofS l0_0 with
    | none =>
      rw [hrs] at h
      injection h with h
      injection h with e1 e2
      subst e1; subst e2
      have HRS := Aside0.mk hrs
      clear hrs hok
      go_enter Try.func20, Try.ntmps20
      go_wp2_with (first | ((with_reducible refine gate_dst (N := 1) rfl ?_); refine box_event ?hg (N := 1) ?hd (cs := #[.slice A0_0 l0_0.length c0_0]) (t := 29) ?hr ?_; (case hd => rfl); (case hg => rfl); (case hr => first | (go_simp; done) | (go_simp; rfl)); intro b3 hg w1 hbox hb; have HB := Aside0.mk hb; have hz3 : w1.cell? ⟨b3, 0, none⟩ = some (.slice A0_0 l0_0.length c0_0) := (blk_cell hbox 0).trans rfl; clear hg hbox hb) | (go_at_call 57; (with_reducible refine (spec_l5Of.calls l0_0 HNP.out A0_0 c0_0 _ (Kd.C_below HP.out HB.out) HM.out).mono ?_); rintro e w2 ⟨hb, hr⟩; rw [HRS.out] at hr; obtain ⟨-, rfl⟩ := hr.resolve_right (by rintro ⟨_, h, _⟩; cases h); have n1_ := Aside0.mk (below_step HB.out hb); clear HB; have HB := n1_; clear n1_ hb hr))
      go_ret2
      exact ⟨by first | rfl | (simp; done), HB.out⟩
    | some t =>
      rw [hrs] at h
      injection h with h
      injection h with e1 e2
      subst e1; subst e2
      have HRS := Aside0.mk hrs
      have HOF := Aside0.mk (ofS_shp hrs)
      try clear h
      clear hrs hok
      go_enter Try.func20, Try.ntmps20
      go_wp2_with (first | ((with_reducible refine gate_dst (N := 1) rfl ?_); refine box_event ?hg (N := 1) ?hd (cs := #[.slice A0_0 l0_0.length c0_0]) (t := 29) ?hr ?_; (case hd => rfl); (case hg => rfl); (case hr => first | (go_simp; done) | (go_simp; rfl)); intro b3 hg w1 hbox hb; have HB := Aside0.mk hb; have hz3 : w1.cell? ⟨b3, 0, none⟩ = some (.slice A0_0 l0_0.length c0_0) := (blk_cell hbox 0).trans rfl; clear hg hbox hb) | (go_at_call 57; (with_reducible refine (spec_l5Of.calls l0_0 HNP.out A0_0 c0_0 _ (Kd.C_below HP.out HB.out) HM.out).mono ?_); rintro e w2 ⟨hb, hr⟩; rw [HRS.out] at hr; obtain ⟨nt, h9, rfl, hs⟩ := hr.resolve_left (by rintro ⟨h, _⟩; cases h); injection h9 with h9; subst h9; have HR2 := Aside0.mk (rd_of hs); have n1_ := Aside0.mk (below_step HB.out hb); clear HB; have HB := n1_; clear n1_ hb hr hs) | (go_at_call 61; (with_reducible refine (spec_even.calls _ nt.erase (Nat.le_refl _) HOF.out.few_ _ ?side1).mono ?_); (case side1 => repeat (first | exact HR2.out | (with_reducible refine Rd.drewN ?_ _) | (with_reducible refine Rd.drew ?_))); rintro e w' ⟨rfl, ⟨nd, rfl⟩⟩))
      go_ret2
      exact ⟨by first | rfl | (simp; done), pw_below_drewN HB.out _⟩
  · rw [if_neg hok] at h
    cases h
def impl_DepthOf.f (k : Nat) (l0_0 : List S110) : Option (Int × Bool) := if okP l0_0 = true then (rootI k l0_0).bind fun r => (match r with | none => some (0, false) | some t => some (depthP t)) else none
theorem impl_DepthOf.calls (k : Nat) (A0_0 : Option Addr) (c0_0 : Nat) (l0_0 : List (S110)) (r1 : Int) (r2 : Bool) (w : World) (hr0_0 : Kd.C k110 w A0_0 l0_0.length l0_0) (hc0_0 : l0_0.length ≤ c0_0) (h : impl_DepthOf.f k l0_0 = some (r1, r2)) :
    Calls Try.prog 21 #[.agg #[.slice A0_0 l0_0.length c0_0]] w fun e w' => e = .returned (.tuple #[.int .i64 r1, .bool r2]) ∧ Below w.heap.size w w' := by
  unfold impl_DepthOf.f at h
  have HP := Aside0.mk hr0_0
  clear hr0_0 hc0_0
  by_cases hok : okP l0_0 = true
  · rw [if_pos hok] at h
    have HNP := Aside0.mk (okP_parts hok).1
    have HM := Aside0.mk (okP_parts hok).2
    obtain ⟨o, hrs, h⟩ := Option.bind_eq_some_iff.mp h
    cases o with
    | none =>
      injection h with h
      injection h with e1 e2
      subst e1; subst e2
      have HRS := Aside0.mk hrs
      clear hrs hok
      go_enter Try.func21, Try.ntmps21
      go_wp2_with (first | ((with_reducible refine gate_dst (N := 1) rfl ?_); refine box_event ?hg (N := 1) ?hd (cs := #[.slice A0_0 l0_0.length c0_0]) (t := 29) ?hr ?_; (case hd => rfl); (case hg => rfl); (case hr => first | (go_simp; done) | (go_simp; rfl)); intro b3 hg w1 hbox hb; have HB := Aside0.mk hb; have hz3 : w1.cell? ⟨b3, 0, none⟩ = some (.slice A0_0 l0_0.length c0_0) := (blk_cell hbox 0).trans rfl; clear hg hbox hb) | (go_at_call 59; (with_reducible refine (impl_root.calls k l0_0 HNP.out A0_0 c0_0 _ (Kd.C_below HP.out HB.out) HM.out _ HRS.out).mono ?_); rintro e w2 ⟨hb, hr⟩; obtain ⟨-, rfl⟩ := hr.resolve_right (by rintro ⟨_, h, _⟩; cases h); have n1_ := Aside0.mk (below_step HB.out hb); clear HB; have HB := n1_; clear n1_ hb hr))
      go_ret2
      exact ⟨by first | rfl | (simp; done), HB.out⟩
    | some t =>
      have HX := Aside0.mk (Option.some.inj h)
      have HRS := Aside0.mk hrs
      have HOF := Aside0.mk (rootI_shp hrs)
      try clear h
      clear hrs hok
      go_enter Try.func21, Try.ntmps21
      go_wp2_with (first | ((with_reducible refine gate_dst (N := 1) rfl ?_); refine box_event ?hg (N := 1) ?hd (cs := #[.slice A0_0 l0_0.length c0_0]) (t := 29) ?hr ?_; (case hd => rfl); (case hg => rfl); (case hr => first | (go_simp; done) | (go_simp; rfl)); intro b3 hg w1 hbox hb; have HB := Aside0.mk hb; have hz3 : w1.cell? ⟨b3, 0, none⟩ = some (.slice A0_0 l0_0.length c0_0) := (blk_cell hbox 0).trans rfl; clear hg hbox hb) | (go_at_call 59; (with_reducible refine (impl_root.calls k l0_0 HNP.out A0_0 c0_0 _ (Kd.C_below HP.out HB.out) HM.out _ HRS.out).mono ?_); rintro e w2 ⟨hb, hr⟩; obtain ⟨nt, h9, rfl, hs⟩ := hr.resolve_left (by rintro ⟨h, _⟩; cases h); injection h9 with h9; subst h9; have HR2 := Aside0.mk (rd_of hs); have n1_ := Aside0.mk (below_step HB.out hb); clear HB; have HB := n1_; clear n1_ hb hr hs) | (go_at_call 62; (with_reducible refine (impl_depth.calls _ nt.erase (Nat.le_refl _) HOF.out.few_ r1 r2 HX.out _ ?side1).mono ?_); (case side1 => repeat (first | exact HR2.out | (with_reducible refine Rd.drewN ?_ _) | (with_reducible refine Rd.drew ?_))); rintro e w' ⟨rfl, ⟨nd, rfl⟩⟩))
      go_ret2
      exact ⟨by first | rfl | (simp; done), pw_below_drewN HB.out _⟩
  · rw [if_neg hok] at h
    cases h
theorem impl_DepthOf.mono : ∀ a0 k, LeO (impl_DepthOf.f k a0) (impl_DepthOf.f (k + 1) a0) := fun a0 k => LeO.ite (LeO.bind (rootI_mono _ _) fun _ => LeO.refl _) (LeO.refl _)
def spec_GetKey.f (l0_0 : List S110) (a1 : ByteArray) : Option (ByteArray × Bool) := if okP l0_0 = true then (match ofS l0_0 with | none => some (⟨#[]⟩, false) | some t => some (getS t.big t a1)) else none
theorem spec_GetKey.calls (A0_0 : Option Addr) (c0_0 : Nat) (l0_0 : List (S110)) (a1 : ByteArray) (r1 : ByteArray) (r2 : Bool) (w : World) (hr0_0 : Kd.C k110 w A0_0 l0_0.length l0_0) (hc0_0 : l0_0.length ≤ c0_0) (h : spec_GetKey.f l0_0 a1 = some (r1, r2)) :
    Calls Try.prog 22 #[.agg #[.slice A0_0 l0_0.length c0_0], .string a1] w fun e w' => e = .returned (.tuple #[.string r1, .bool r2]) ∧ Below w.heap.size w w' := by
  unfold spec_GetKey.f at h
  have HP := Aside0.mk hr0_0
  clear hr0_0 hc0_0
  by_cases hok : okP l0_0 = true
  · rw [if_pos hok] at h
    have HNP := Aside0.mk (okP_parts hok).1
    have HM := Aside0.mk (okP_parts hok).2
    cases hrs : ofS l0_0 with
    | none =>
      rw [hrs] at h
      injection h with h
      injection h with e1 e2
      subst e1; subst e2
      have HRS := Aside0.mk hrs
      clear hrs hok
      go_enter Try.func22, Try.ntmps22
      go_wp2_with (first | ((with_reducible refine gate_dst (N := 2) rfl ?_); refine box_event ?hg (N := 2) ?hd (cs := #[.slice A0_0 l0_0.length c0_0]) (t := 29) ?hr ?_; (case hd => rfl); (case hg => rfl); (case hr => first | (go_simp; done) | (go_simp; rfl)); intro b3 hg w1 hbox hb; have HB := Aside0.mk hb; have hz3 : w1.cell? ⟨b3, 0, none⟩ = some (.slice A0_0 l0_0.length c0_0) := (blk_cell hbox 0).trans rfl; clear hg hbox hb) | (go_at_call 57; (with_reducible refine (spec_l5Of.calls l0_0 HNP.out A0_0 c0_0 _ (Kd.C_below HP.out HB.out) HM.out).mono ?_); rintro e w2 ⟨hb, hr⟩; rw [HRS.out] at hr; obtain ⟨-, rfl⟩ := hr.resolve_right (by rintro ⟨_, h, _⟩; cases h); have n1_ := Aside0.mk (below_step HB.out hb); clear HB; have HB := n1_; clear n1_ hb hr))
      go_ret2
      exact ⟨by first | rfl | (simp; done), HB.out⟩
    | some t =>
      rw [hrs] at h
      have HX := Aside0.mk (Option.some.inj h)
      have HRS := Aside0.mk hrs
      have HOF := Aside0.mk (ofS_shp hrs)
      try clear h
      clear hrs hok
      go_enter Try.func22, Try.ntmps22
      go_wp2_with (first | ((with_reducible refine gate_dst (N := 2) rfl ?_); refine box_event ?hg (N := 2) ?hd (cs := #[.slice A0_0 l0_0.length c0_0]) (t := 29) ?hr ?_; (case hd => rfl); (case hg => rfl); (case hr => first | (go_simp; done) | (go_simp; rfl)); intro b3 hg w1 hbox hb; have HB := Aside0.mk hb; have hz3 : w1.cell? ⟨b3, 0, none⟩ = some (.slice A0_0 l0_0.length c0_0) := (blk_cell hbox 0).trans rfl; clear hg hbox hb) | (go_at_call 57; (with_reducible refine (spec_l5Of.calls l0_0 HNP.out A0_0 c0_0 _ (Kd.C_below HP.out HB.out) HM.out).mono ?_); rintro e w2 ⟨hb, hr⟩; rw [HRS.out] at hr; obtain ⟨nt, h9, rfl, hs⟩ := hr.resolve_left (by rintro ⟨h, _⟩; cases h); injection h9 with h9; subst h9; have HR2 := Aside0.mk (rd_of hs); have n1_ := Aside0.mk (below_step HB.out hb); clear HB; have HB := n1_; clear n1_ hb hr hs) | (go_at_call 63; (with_reducible refine (spec_get.calls _ nt.erase (Nat.le_refl _) HOF.out a1 r1 r2 HX.out _ ?side1).mono ?_); (case side1 => repeat (first | exact HR2.out | (with_reducible refine Rd.drewN ?_ _) | (with_reducible refine Rd.drew ?_))); rintro e w' ⟨rfl, ⟨nd, rfl⟩⟩))
      go_ret2
      exact ⟨by first | rfl | (simp; done), pw_below_drewN HB.out _⟩
  · rw [if_neg hok] at h
    cases h
def impl_GetKey.f (k : Nat) (l0_0 : List S110) (a1 : ByteArray) : Option (ByteArray × Bool) := if okP l0_0 = true then (rootI k l0_0).bind fun r => (match r with | none => some (⟨#[]⟩, false) | some t => getI k k t a1) else none
theorem impl_GetKey.calls (k : Nat) (A0_0 : Option Addr) (c0_0 : Nat) (l0_0 : List (S110)) (a1 : ByteArray) (r1 : ByteArray) (r2 : Bool) (w : World) (hr0_0 : Kd.C k110 w A0_0 l0_0.length l0_0) (hc0_0 : l0_0.length ≤ c0_0) (h : impl_GetKey.f k l0_0 a1 = some (r1, r2)) :
    Calls Try.prog 23 #[.agg #[.slice A0_0 l0_0.length c0_0], .string a1] w fun e w' => e = .returned (.tuple #[.string r1, .bool r2]) ∧ Below w.heap.size w w' := by
  unfold impl_GetKey.f at h
  have HP := Aside0.mk hr0_0
  clear hr0_0 hc0_0
  by_cases hok : okP l0_0 = true
  · rw [if_pos hok] at h
    have HNP := Aside0.mk (okP_parts hok).1
    have HM := Aside0.mk (okP_parts hok).2
    obtain ⟨o, hrs, h⟩ := Option.bind_eq_some_iff.mp h
    cases o with
    | none =>
      injection h with h
      injection h with e1 e2
      subst e1; subst e2
      have HRS := Aside0.mk hrs
      clear hrs hok
      go_enter Try.func23, Try.ntmps23
      go_wp2_with (first | ((with_reducible refine gate_dst (N := 2) rfl ?_); refine box_event ?hg (N := 2) ?hd (cs := #[.slice A0_0 l0_0.length c0_0]) (t := 29) ?hr ?_; (case hd => rfl); (case hg => rfl); (case hr => first | (go_simp; done) | (go_simp; rfl)); intro b3 hg w1 hbox hb; have HB := Aside0.mk hb; have hz3 : w1.cell? ⟨b3, 0, none⟩ = some (.slice A0_0 l0_0.length c0_0) := (blk_cell hbox 0).trans rfl; clear hg hbox hb) | (go_at_call 59; (with_reducible refine (impl_root.calls k l0_0 HNP.out A0_0 c0_0 _ (Kd.C_below HP.out HB.out) HM.out _ HRS.out).mono ?_); rintro e w2 ⟨hb, hr⟩; obtain ⟨-, rfl⟩ := hr.resolve_right (by rintro ⟨_, h, _⟩; cases h); have n1_ := Aside0.mk (below_step HB.out hb); clear HB; have HB := n1_; clear n1_ hb hr))
      go_ret2
      exact ⟨by first | rfl | (simp; done), HB.out⟩
    | some t =>
      have HX := Aside0.mk h
      have HRS := Aside0.mk hrs
      have HOF := Aside0.mk (rootI_shp hrs)
      try clear h
      clear hrs hok
      go_enter Try.func23, Try.ntmps23
      go_wp2_with (first | ((with_reducible refine gate_dst (N := 2) rfl ?_); refine box_event ?hg (N := 2) ?hd (cs := #[.slice A0_0 l0_0.length c0_0]) (t := 29) ?hr ?_; (case hd => rfl); (case hg => rfl); (case hr => first | (go_simp; done) | (go_simp; rfl)); intro b3 hg w1 hbox hb; have HB := Aside0.mk hb; have hz3 : w1.cell? ⟨b3, 0, none⟩ = some (.slice A0_0 l0_0.length c0_0) := (blk_cell hbox 0).trans rfl; clear hg hbox hb) | (go_at_call 59; (with_reducible refine (impl_root.calls k l0_0 HNP.out A0_0 c0_0 _ (Kd.C_below HP.out HB.out) HM.out _ HRS.out).mono ?_); rintro e w2 ⟨hb, hr⟩; obtain ⟨nt, h9, rfl, hs⟩ := hr.resolve_left (by rintro ⟨h, _⟩; cases h); injection h9 with h9; subst h9; have HR2 := Aside0.mk (rd_of hs); have n1_ := Aside0.mk (below_step HB.out hb); clear HB; have HB := n1_; clear n1_ hb hr hs) | (go_at_call 64; (with_reducible refine (impl_get.calls k k nt.erase a1 r1 r2 HX.out _ ?side1).mono ?_); (case side1 => repeat (first | exact HR2.out | (with_reducible refine Rd.drewN ?_ _) | (with_reducible refine Rd.drew ?_))); rintro e w' ⟨rfl, ⟨nd, rfl⟩⟩))
      go_ret2
      exact ⟨by first | rfl | (simp; done), pw_below_drewN HB.out _⟩
  · rw [if_neg hok] at h
    cases h
theorem impl_GetKey.mono : ∀ a0 a1 k, LeO (impl_GetKey.f k a0 a1) (impl_GetKey.f (k + 1) a0 a1) := fun a0 a1 k => LeO.ite (LeO.bind (rootI_mono _ _) fun r => by cases r with
  | none => exact LeO.refl _
  | some t => exact getI_mono k k t a1) (LeO.refl _)
end Go.Proofs.Ytoddejmlcnbdmaa.Fn
namespace Go.Proofs.Ytoddejmlcnbdmaa.Fn
open Go.Proofs.Ytoddejmlcnbdmaa.Gen Go.Proofs.Ytoddejmlcnbdmaa.Tree
open Go.RowKit Go.Proofs.YtoddejmlcnbdmaaW.PrintWords Go.Proofs.YtoddejmlcnbdmaaW.PrintLast Go.Proofs.YtoddejmlcnbdmaaW.PrintMore
set_option linter.unusedVariables false
set_option linter.unusedSimpArgs false
set_option maxHeartbeats 8000000
set_option maxRecDepth 100000

theorem ofS_len {P : List S110} {t : PT} (h : ofS P = some t) (hN : P.length ≤ 1000000000000) : (allK t).length ≤ 4000000000000 := by
  unfold ofS at h
  cases hrs : readS P 10 0 with
  | none => rw [hrs] at h; cases h
  | some r =>
    rw [hrs] at h
    simp only at h
    obtain ⟨r1, r2⟩ := r
    have hf := (readS_fits 10 0 r1 r2 hrs).2.k
    have hl := (readS_le 10 0 r1 r2 hrs).2
    split at h
    · cases h
    · split at h
      · cases h
      · split at h
        · cases h
        · obtain rfl := Option.some.inj h
          omega
theorem rootI_len {k : Nat} {P : List S110} {t : PT} (h : rootI k P = some (some t)) (hN : P.length ≤ 1000000000000) : (allK t).length ≤ 4000000000000 := by
  unfold rootI at h
  cases hrs : readS P (P.length + 1) 0 with
  | none => rw [hrs] at h; cases h
  | some r =>
    rw [hrs] at h
    simp only at h
    obtain ⟨r1, r2⟩ := r
    have hf := (readS_fits _ 0 r1 r2 hrs).2.k
    have hl := (readS_le _ 0 r1 r2 hrs).2
    split at h
    · cases h
    · split at h
      · cases h
      · obtain ⟨b, _, h⟩ := Option.bind_eq_some_iff.mp h
        cases b with
        | false => cases h
        | true =>
          obtain rfl : r1 = t := by simpa using h
          omega
def atS (t : PT) (i : Int) : ByteArray × ByteArray × Bool := if 0 ≤ i ∧ i < ((allK t).length : Int) then (rdOf ByteArray.empty (allK t) i, rdOf ByteArray.empty (allV t) i, true) else (⟨#[]⟩, ⟨#[]⟩, false)
def spec_AtPlace.f (l0_0 : List S110) (a1 : Int) : Option (ByteArray × ByteArray × Bool) := if okP l0_0 = true then (match ofS l0_0 with | none => some (⟨#[]⟩, ⟨#[]⟩, false) | some t => some (atS t a1)) else none
def impl_AtPlace.f (k : Nat) (l0_0 : List S110) (a1 : Int) : Option (ByteArray × ByteArray × Bool) := if okP l0_0 = true then (rootI k l0_0).bind fun r => (match r with | none => some (⟨#[]⟩, ⟨#[]⟩, false) | some t => some (atS t a1)) else none
theorem impl_AtPlace.mono : ∀ a0 a1 k, LeO (impl_AtPlace.f k a0 a1) (impl_AtPlace.f (k + 1) a0 a1) := fun a0 a1 k => LeO.ite (LeO.bind (rootI_mono _ _) fun _ => LeO.refl _) (LeO.refl _)
theorem spec_AtPlace.calls (A0_0 : Option Addr) (c0_0 : Nat) (l0_0 : List (S110)) (a1 : Int) (r1 : ByteArray) (r2 : ByteArray) (r3 : Bool) (w : World) (hr0_0 : Kd.C k110 w A0_0 l0_0.length l0_0) (hc0_0 : l0_0.length ≤ c0_0) (h : spec_AtPlace.f l0_0 a1 = some (r1, r2, r3)) :
    Calls Try.prog 30 #[.agg #[.slice A0_0 l0_0.length c0_0], .int .i64 a1] w fun e w' => e = .returned (.tuple #[.string r1, .string r2, .bool r3]) ∧ Below w.heap.size w w' := by
  unfold spec_AtPlace.f at h
  have HP := Aside0.mk hr0_0
  clear hr0_0 hc0_0
  by_cases hok : okP l0_0 = true
  · rw [if_pos hok] at h
    have HNP := Aside0.mk (okP_parts hok).1
    have HM := Aside0.mk (okP_parts hok).2
    cases hrs : ofS l0_0 with
    | none =>
      rw [hrs] at h
      injection h with h
      injection h with e1 h
      injection h with e2 e3
      subst e1
      subst e2
      subst e3
      have HRS := Aside0.mk hrs
      clear hrs hok
      go_enter Try.func30, Try.ntmps30
      go_wp2_with (first | ((with_reducible refine gate_dst (N := 2) rfl ?_); refine box_event ?hg (N := 2) ?hd (cs := #[.slice A0_0 l0_0.length c0_0]) (t := 29) ?hr ?_; (case hd => rfl); (case hg => rfl); (case hr => first | (go_simp; done) | (go_simp; rfl)); intro b3 hg w1 hbox hb; have HB := Aside0.mk hb; have hz3 : w1.cell? ⟨b3, 0, none⟩ = some (.slice A0_0 l0_0.length c0_0) := (blk_cell hbox 0).trans rfl; clear hg hbox hb) | (go_at_call 57; (with_reducible refine (spec_l5Of.calls l0_0 HNP.out A0_0 c0_0 _ (Kd.C_below HP.out HB.out) HM.out).mono ?_); rintro e w2 ⟨hb, hr⟩; rw [HRS.out] at hr; obtain ⟨-, rfl⟩ := hr.resolve_right (by rintro ⟨_, h, _⟩; cases h); have n1_ := Aside0.mk (below_step HB.out hb); clear HB; have HB := n1_; clear n1_ hb hr hz3))
      go_ret3
      exact ⟨by first | rfl | (simp; done), HB.out⟩
    | some t =>
      rw [hrs] at h
      have HRS := Aside0.mk hrs
      have HSH := Aside0.mk (ofS_shp hrs)
      have HLN := Aside0.mk (ofS_len hrs HNP.out)
      have HZ1 := Aside0.mk (show (allK t).length ≤ 8796093022208 by have := HLN.out; omega)
      have HZ2 := Aside0.mk (show (allV t).length ≤ 8796093022208 by rw [allV_len HSH.out]; have := HLN.out; omega)
      have hln : (allK t).length ≤ 4000000000000 := HLN.out
      have HVK := Aside0.mk (allV_len HSH.out)
      replace h : some (atS t a1) = some (r1, r2, r3) := h
      unfold atS at h
      clear hrs hok
      by_cases c1 : 0 ≤ a1 ∧ a1 < ((allK t).length : Int)
      · rw [if_pos c1] at h
        injection h with h
        injection h with e1 h
        injection h with e2 e3
        subst e1
        subst e2
        subst e3
        have HI0 := Aside0.mk c1.1
        have HI1 := Aside0.mk c1.2
        have t1 : decide (a1 < 0) = false := decide_eq_false (by omega)
        have t2 : decide (((allK t).length : Int) ≤ a1) = false := decide_eq_false (by omega)
        have p0 : (0 ≤ a1) = True := eq_true c1.1
        clear c1
        go_enter Try.func30, Try.ntmps30
        go_wp2_with (first | ((with_reducible refine gate_dst (N := 2) rfl ?_); refine box_event ?hg (N := 2) ?hd (cs := #[.slice A0_0 l0_0.length c0_0]) (t := 29) ?hr ?_; (case hd => rfl); (case hg => rfl); (case hr => first | (go_simp; done) | (go_simp; rfl)); intro b3 hg w1 hbox hb; have HB := Aside0.mk hb; have hz3 : w1.cell? ⟨b3, 0, none⟩ = some (.slice A0_0 l0_0.length c0_0) := (blk_cell hbox 0).trans rfl; clear hg hbox hb) | (go_at_call 57; (with_reducible refine (spec_l5Of.calls l0_0 HNP.out A0_0 c0_0 _ (Kd.C_below HP.out HB.out) HM.out).mono ?_); rintro e w2 ⟨hb, hr⟩; rw [HRS.out] at hr; obtain ⟨nt, h9, rfl, hs⟩ := hr.resolve_left (by rintro ⟨h, _⟩; cases h); injection h9 with h9; subst h9; have HR2 := Aside0.mk (rd_of hs); have n1_ := Aside0.mk (below_step HB.out hb); clear HB; have HB := n1_; clear n1_ hb hr hs hz3) | (go_at_call 65; (with_reducible refine (spec_all.calls0 nt.erase HSH.out _ ?side1 HZ1.out HZ2.out).mono ?_); (case side1 => repeat (first | exact HR2.out | (with_reducible refine Rd.drewN ?_ _) | (with_reducible refine Rd.drew ?_))); rintro e w5 ⟨u1, u2, rfl, ho1, ho2, hne, hb⟩; have HO1 := Aside0.mk (Kd.R_lower ho1 (show w.heap.size ≤ _ from HB.out.size)); have HO2 := Aside0.mk (Kd.R_lower ho2 (show w.heap.size ≤ _ from HB.out.size)); have HNE := Aside0.mk hne; have n1_ := Aside0.mk (below_step (by repeat (first | (with_reducible exact HB.out) | (with_reducible apply pw_below_drewN) | (with_reducible apply below_drew1))) hb); clear HB; have HB := n1_; clear n1_ hb ho1 ho2 hne; obtain ⟨B1, d1, rfl, hl1, hc1⟩ := Kd.R_reads HO1.out; obtain ⟨B2, d2, rfl, hl2, hc2⟩ := Kd.R_reads HO2.out; have HC1 := Aside0.mk hc1; have HC2 := Aside0.mk hc2; have HD1 := Aside0.mk hl1; have HD2 := Aside0.mk hl2; clear hl1 hl2 hc1 hc2; have q0 : (a1 < ((allK nt.erase).length : Int)) = True := eq_true HI1.out; have q1 : (a1 < ((allV nt.erase).length : Int)) = True := eq_true (by rw [HVK.out]; exact HI1.out); obtain ⟨adk, hA1, hk0⟩ := Kd.at_string HC1.out a1 HI0.out HI1.out; obtain ⟨adv, hA2, hv0⟩ := Kd.at_string HC2.out a1 HI0.out (by rw [HVK.out]; exact HI1.out); subst hA1; subst hA2))
        go_quiet (fail)
        go_wp2
        go_ret3
        exact ⟨by first | rfl | (simp; done), (by repeat (first | (with_reducible exact HB.out) | (with_reducible apply pw_below_drewN) | (with_reducible apply below_drew1)))⟩
      · rw [if_neg c1] at h
        injection h with h
        injection h with e1 h
        injection h with e2 e3
        subst e1
        subst e2
        subst e3
        by_cases c2 : a1 < 0
        · have t1 : decide (a1 < 0) = true := decide_eq_true c2
          clear c1 c2
          go_enter Try.func30, Try.ntmps30
          go_wp2_with (first | ((with_reducible refine gate_dst (N := 2) rfl ?_); refine box_event ?hg (N := 2) ?hd (cs := #[.slice A0_0 l0_0.length c0_0]) (t := 29) ?hr ?_; (case hd => rfl); (case hg => rfl); (case hr => first | (go_simp; done) | (go_simp; rfl)); intro b3 hg w1 hbox hb; have HB := Aside0.mk hb; have hz3 : w1.cell? ⟨b3, 0, none⟩ = some (.slice A0_0 l0_0.length c0_0) := (blk_cell hbox 0).trans rfl; clear hg hbox hb) | (go_at_call 57; (with_reducible refine (spec_l5Of.calls l0_0 HNP.out A0_0 c0_0 _ (Kd.C_below HP.out HB.out) HM.out).mono ?_); rintro e w2 ⟨hb, hr⟩; rw [HRS.out] at hr; obtain ⟨nt, h9, rfl, hs⟩ := hr.resolve_left (by rintro ⟨h, _⟩; cases h); injection h9 with h9; subst h9; have HR2 := Aside0.mk (rd_of hs); have n1_ := Aside0.mk (below_step HB.out hb); clear HB; have HB := n1_; clear n1_ hb hr hs hz3) | (go_at_call 65; (with_reducible refine (spec_all.calls0 nt.erase HSH.out _ ?side1 HZ1.out HZ2.out).mono ?_); (case side1 => repeat (first | exact HR2.out | (with_reducible refine Rd.drewN ?_ _) | (with_reducible refine Rd.drew ?_))); rintro e w5 ⟨u1, u2, rfl, ho1, ho2, hne, hb⟩; have HO1 := Aside0.mk (Kd.R_lower ho1 (show w.heap.size ≤ _ from HB.out.size)); have HO2 := Aside0.mk (Kd.R_lower ho2 (show w.heap.size ≤ _ from HB.out.size)); have HNE := Aside0.mk hne; have n1_ := Aside0.mk (below_step (by repeat (first | (with_reducible exact HB.out) | (with_reducible apply pw_below_drewN) | (with_reducible apply below_drew1))) hb); clear HB; have HB := n1_; clear n1_ hb ho1 ho2 hne; obtain ⟨B1, d1, rfl, hl1, hc1⟩ := Kd.R_reads HO1.out; obtain ⟨B2, d2, rfl, hl2, hc2⟩ := Kd.R_reads HO2.out; have HC1 := Aside0.mk hc1; have HC2 := Aside0.mk hc2; have HD1 := Aside0.mk hl1; have HD2 := Aside0.mk hl2; clear hl1 hl2 hc1 hc2))
          go_ret3
          exact ⟨by first | rfl | (simp; done), (by repeat (first | (with_reducible exact HB.out) | (with_reducible apply pw_below_drewN) | (with_reducible apply below_drew1)))⟩
        · have t1 : decide (a1 < 0) = false := decide_eq_false c2
          have t2 : decide (((allK t).length : Int) ≤ a1) = true := decide_eq_true (by omega)
          clear c1 c2
          go_enter Try.func30, Try.ntmps30
          go_wp2_with (first | ((with_reducible refine gate_dst (N := 2) rfl ?_); refine box_event ?hg (N := 2) ?hd (cs := #[.slice A0_0 l0_0.length c0_0]) (t := 29) ?hr ?_; (case hd => rfl); (case hg => rfl); (case hr => first | (go_simp; done) | (go_simp; rfl)); intro b3 hg w1 hbox hb; have HB := Aside0.mk hb; have hz3 : w1.cell? ⟨b3, 0, none⟩ = some (.slice A0_0 l0_0.length c0_0) := (blk_cell hbox 0).trans rfl; clear hg hbox hb) | (go_at_call 57; (with_reducible refine (spec_l5Of.calls l0_0 HNP.out A0_0 c0_0 _ (Kd.C_below HP.out HB.out) HM.out).mono ?_); rintro e w2 ⟨hb, hr⟩; rw [HRS.out] at hr; obtain ⟨nt, h9, rfl, hs⟩ := hr.resolve_left (by rintro ⟨h, _⟩; cases h); injection h9 with h9; subst h9; have HR2 := Aside0.mk (rd_of hs); have n1_ := Aside0.mk (below_step HB.out hb); clear HB; have HB := n1_; clear n1_ hb hr hs hz3) | (go_at_call 65; (with_reducible refine (spec_all.calls0 nt.erase HSH.out _ ?side1 HZ1.out HZ2.out).mono ?_); (case side1 => repeat (first | exact HR2.out | (with_reducible refine Rd.drewN ?_ _) | (with_reducible refine Rd.drew ?_))); rintro e w5 ⟨u1, u2, rfl, ho1, ho2, hne, hb⟩; have HO1 := Aside0.mk (Kd.R_lower ho1 (show w.heap.size ≤ _ from HB.out.size)); have HO2 := Aside0.mk (Kd.R_lower ho2 (show w.heap.size ≤ _ from HB.out.size)); have HNE := Aside0.mk hne; have n1_ := Aside0.mk (below_step (by repeat (first | (with_reducible exact HB.out) | (with_reducible apply pw_below_drewN) | (with_reducible apply below_drew1))) hb); clear HB; have HB := n1_; clear n1_ hb ho1 ho2 hne; obtain ⟨B1, d1, rfl, hl1, hc1⟩ := Kd.R_reads HO1.out; obtain ⟨B2, d2, rfl, hl2, hc2⟩ := Kd.R_reads HO2.out; have HC1 := Aside0.mk hc1; have HC2 := Aside0.mk hc2; have HD1 := Aside0.mk hl1; have HD2 := Aside0.mk hl2; clear hl1 hl2 hc1 hc2))
          go_ret3
          exact ⟨by first | rfl | (simp; done), (by repeat (first | (with_reducible exact HB.out) | (with_reducible apply pw_below_drewN) | (with_reducible apply below_drew1)))⟩
  · rw [if_neg hok] at h
    cases h
theorem impl_AtPlace.calls (k : Nat) (A0_0 : Option Addr) (c0_0 : Nat) (l0_0 : List (S110)) (a1 : Int) (r1 : ByteArray) (r2 : ByteArray) (r3 : Bool) (w : World) (hr0_0 : Kd.C k110 w A0_0 l0_0.length l0_0) (hc0_0 : l0_0.length ≤ c0_0) (h : impl_AtPlace.f k l0_0 a1 = some (r1, r2, r3)) :
    Calls Try.prog 31 #[.agg #[.slice A0_0 l0_0.length c0_0], .int .i64 a1] w fun e w' => e = .returned (.tuple #[.string r1, .string r2, .bool r3]) ∧ Below w.heap.size w w' := by
  unfold impl_AtPlace.f at h
  have HP := Aside0.mk hr0_0
  clear hr0_0 hc0_0
  by_cases hok : okP l0_0 = true
  · rw [if_pos hok] at h
    have HNP := Aside0.mk (okP_parts hok).1
    have HM := Aside0.mk (okP_parts hok).2
    obtain ⟨o, hrs, h⟩ := Option.bind_eq_some_iff.mp h
    cases o with
    | none =>
      injection h with h
      injection h with e1 h
      injection h with e2 e3
      subst e1
      subst e2
      subst e3
      have HRS := Aside0.mk hrs
      clear hrs hok
      go_enter Try.func31, Try.ntmps31
      go_wp2_with (first | ((with_reducible refine gate_dst (N := 2) rfl ?_); refine box_event ?hg (N := 2) ?hd (cs := #[.slice A0_0 l0_0.length c0_0]) (t := 29) ?hr ?_; (case hd => rfl); (case hg => rfl); (case hr => first | (go_simp; done) | (go_simp; rfl)); intro b3 hg w1 hbox hb; have HB := Aside0.mk hb; have hz3 : w1.cell? ⟨b3, 0, none⟩ = some (.slice A0_0 l0_0.length c0_0) := (blk_cell hbox 0).trans rfl; clear hg hbox hb) | (go_at_call 59; (with_reducible refine (impl_root.calls k l0_0 HNP.out A0_0 c0_0 _ (Kd.C_below HP.out HB.out) HM.out _ HRS.out).mono ?_); rintro e w2 ⟨hb, hr⟩; obtain ⟨-, rfl⟩ := hr.resolve_right (by rintro ⟨_, h, _⟩; cases h); have n1_ := Aside0.mk (below_step HB.out hb); clear HB; have HB := n1_; clear n1_ hb hr hz3))
      go_ret3
      exact ⟨by first | rfl | (simp; done), HB.out⟩
    | some t =>
      have HRS := Aside0.mk hrs
      have HSH := Aside0.mk (rootI_shp hrs)
      have HLN := Aside0.mk (rootI_len hrs HNP.out)
      have HZ1 := Aside0.mk (show (allK t).length ≤ 8796093022208 by have := HLN.out; omega)
      have HZ2 := Aside0.mk (show (allV t).length ≤ 8796093022208 by rw [allV_len HSH.out]; have := HLN.out; omega)
      have hln : (allK t).length ≤ 4000000000000 := HLN.out
      have HVK := Aside0.mk (allV_len HSH.out)
      replace h : some (atS t a1) = some (r1, r2, r3) := h
      unfold atS at h
      clear hrs hok
      obtain ⟨ji, hji⟩ : ∃ j : Int, j = ((allK t).length : Int) - 1 := ⟨_, rfl⟩
      have hjw : IntKind.i64.wrap (((allK t).length : Int) - 1) = ji := by rw [IntWalk.i64_in _ (by omega)]; exact hji.symm
      by_cases c1 : 0 ≤ a1 ∧ a1 < ((allK t).length : Int)
      · rw [if_pos c1] at h
        injection h with h
        injection h with e1 h
        injection h with e2 e3
        subst e1
        subst e2
        subst e3
        have HI0 := Aside0.mk c1.1
        have HI1 := Aside0.mk c1.2
        have HX := Aside0.mk (show impl_within.f a1 0 ji = some true by unfold impl_within.f; rw [if_pos c1.1, decide_eq_true (by omega)])
        have p0 : (0 ≤ a1) = True := eq_true c1.1
        clear c1 hji
        go_enter Try.func31, Try.ntmps31
        go_wp2_with (first | ((with_reducible refine gate_dst (N := 2) rfl ?_); refine box_event ?hg (N := 2) ?hd (cs := #[.slice A0_0 l0_0.length c0_0]) (t := 29) ?hr ?_; (case hd => rfl); (case hg => rfl); (case hr => first | (go_simp; done) | (go_simp; rfl)); intro b3 hg w1 hbox hb; have HB := Aside0.mk hb; have hz3 : w1.cell? ⟨b3, 0, none⟩ = some (.slice A0_0 l0_0.length c0_0) := (blk_cell hbox 0).trans rfl; clear hg hbox hb) | (go_at_call 59; (with_reducible refine (impl_root.calls k l0_0 HNP.out A0_0 c0_0 _ (Kd.C_below HP.out HB.out) HM.out _ HRS.out).mono ?_); rintro e w2 ⟨hb, hr⟩; obtain ⟨nt, h9, rfl, hs⟩ := hr.resolve_left (by rintro ⟨h, _⟩; cases h); injection h9 with h9; subst h9; have HR2 := Aside0.mk (rd_of hs); have n1_ := Aside0.mk (below_step HB.out hb); clear HB; have HB := n1_; clear n1_ hb hr hs hz3) | (go_at_call 66; (with_reducible refine (impl_all.calls0 nt.erase HSH.out _ ?side1 HZ1.out HZ2.out).mono ?_); (case side1 => repeat (first | exact HR2.out | (with_reducible refine Rd.drewN ?_ _) | (with_reducible refine Rd.drew ?_))); rintro e w5 ⟨u1, u2, rfl, ho1, ho2, hne, hb⟩; have HO1 := Aside0.mk (Kd.R_lower ho1 (show w.heap.size ≤ _ from HB.out.size)); have HO2 := Aside0.mk (Kd.R_lower ho2 (show w.heap.size ≤ _ from HB.out.size)); have HNE := Aside0.mk hne; have n1_ := Aside0.mk (below_step (by repeat (first | (with_reducible exact HB.out) | (with_reducible apply pw_below_drewN) | (with_reducible apply below_drew1))) hb); clear HB; have HB := n1_; clear n1_ hb ho1 ho2 hne; obtain ⟨B1, d1, rfl, hl1, hc1⟩ := Kd.R_reads HO1.out; obtain ⟨B2, d2, rfl, hl2, hc2⟩ := Kd.R_reads HO2.out; have HC1 := Aside0.mk hc1; have HC2 := Aside0.mk hc2; have HD1 := Aside0.mk hl1; have HD2 := Aside0.mk hl2; clear hl1 hl2 hc1 hc2; have q0 : (a1 < ((allK nt.erase).length : Int)) = True := eq_true HI1.out; have q1 : (a1 < ((allV nt.erase).length : Int)) = True := eq_true (by rw [HVK.out]; exact HI1.out); obtain ⟨adk, hA1, hk0⟩ := Kd.at_string HC1.out a1 HI0.out HI1.out; obtain ⟨adv, hA2, hv0⟩ := Kd.at_string HC2.out a1 HI0.out (by rw [HVK.out]; exact HI1.out); subst hA1; subst hA2) | (go_at_call 69; (with_reducible refine (impl_within.calls a1 0 ji true _ HX.out).mono ?_); rintro e w' ⟨rfl, ⟨nd, rfl⟩⟩))
        go_quiet (fail)
        go_wp2
        go_ret3
        exact ⟨by first | rfl | (simp; done), (by repeat (first | (with_reducible exact HB.out) | (with_reducible apply pw_below_drewN) | (with_reducible apply below_drew1)))⟩
      · rw [if_neg c1] at h
        injection h with h
        injection h with e1 h
        injection h with e2 e3
        subst e1
        subst e2
        subst e3
        have HX := Aside0.mk (show impl_within.f a1 0 ji = some false by unfold impl_within.f; by_cases c9 : 0 ≤ a1 <;> simp [c9] <;> omega)
        clear c1 hji
        go_enter Try.func31, Try.ntmps31
        go_wp2_with (first | ((with_reducible refine gate_dst (N := 2) rfl ?_); refine box_event ?hg (N := 2) ?hd (cs := #[.slice A0_0 l0_0.length c0_0]) (t := 29) ?hr ?_; (case hd => rfl); (case hg => rfl); (case hr => first | (go_simp; done) | (go_simp; rfl)); intro b3 hg w1 hbox hb; have HB := Aside0.mk hb; have hz3 : w1.cell? ⟨b3, 0, none⟩ = some (.slice A0_0 l0_0.length c0_0) := (blk_cell hbox 0).trans rfl; clear hg hbox hb) | (go_at_call 59; (with_reducible refine (impl_root.calls k l0_0 HNP.out A0_0 c0_0 _ (Kd.C_below HP.out HB.out) HM.out _ HRS.out).mono ?_); rintro e w2 ⟨hb, hr⟩; obtain ⟨nt, h9, rfl, hs⟩ := hr.resolve_left (by rintro ⟨h, _⟩; cases h); injection h9 with h9; subst h9; have HR2 := Aside0.mk (rd_of hs); have n1_ := Aside0.mk (below_step HB.out hb); clear HB; have HB := n1_; clear n1_ hb hr hs hz3) | (go_at_call 66; (with_reducible refine (impl_all.calls0 nt.erase HSH.out _ ?side1 HZ1.out HZ2.out).mono ?_); (case side1 => repeat (first | exact HR2.out | (with_reducible refine Rd.drewN ?_ _) | (with_reducible refine Rd.drew ?_))); rintro e w5 ⟨u1, u2, rfl, ho1, ho2, hne, hb⟩; have HO1 := Aside0.mk (Kd.R_lower ho1 (show w.heap.size ≤ _ from HB.out.size)); have HO2 := Aside0.mk (Kd.R_lower ho2 (show w.heap.size ≤ _ from HB.out.size)); have HNE := Aside0.mk hne; have n1_ := Aside0.mk (below_step (by repeat (first | (with_reducible exact HB.out) | (with_reducible apply pw_below_drewN) | (with_reducible apply below_drew1))) hb); clear HB; have HB := n1_; clear n1_ hb ho1 ho2 hne; obtain ⟨B1, d1, rfl, hl1, hc1⟩ := Kd.R_reads HO1.out; obtain ⟨B2, d2, rfl, hl2, hc2⟩ := Kd.R_reads HO2.out; have HC1 := Aside0.mk hc1; have HC2 := Aside0.mk hc2; have HD1 := Aside0.mk hl1; have HD2 := Aside0.mk hl2; clear hl1 hl2 hc1 hc2) | (go_at_call 69; (with_reducible refine (impl_within.calls a1 0 ji false _ HX.out).mono ?_); rintro e w' ⟨rfl, ⟨nd, rfl⟩⟩))
        go_ret3
        exact ⟨by first | rfl | (simp; done), (by repeat (first | (with_reducible exact HB.out) | (with_reducible apply pw_below_drewN) | (with_reducible apply below_drew1)))⟩
  · rw [if_neg hok] at h
    cases h
def spec_KeysIn.f (l0_0 : List S110) : Option (List ByteArray × Bool) := if okP l0_0 = true then (match ofS l0_0 with | none => some ([], false) | some t => some (allK t, true)) else none
def impl_KeysIn.f (k : Nat) (l0_0 : List S110) : Option (List ByteArray × Bool) := if okP l0_0 = true then (rootI k l0_0).bind fun r => (match r with | none => some ([], false) | some t => some (allK t, true)) else none
theorem impl_KeysIn.mono : ∀ a0 k, LeO (impl_KeysIn.f k a0) (impl_KeysIn.f (k + 1) a0) := fun a0 k => LeO.ite (LeO.bind (rootI_mono _ _) fun _ => LeO.refl _) (LeO.refl _)
theorem spec_KeysIn.calls (A0_0 : Option Addr) (c0_0 : Nat) (l0_0 : List (S110)) (r1 : List ByteArray) (r2 : Bool) (w : World) (hr0_0 : Kd.C k110 w A0_0 l0_0.length l0_0) (hc0_0 : l0_0.length ≤ c0_0) (h : spec_KeysIn.f l0_0 = some (r1, r2)) :
    Calls Try.prog 24 #[.agg #[.slice A0_0 l0_0.length c0_0]] w fun e w' => ∃ v0_ : Value, e = .returned (.tuple #[v0_, .bool r2]) ∧ Kd.R Kd.string 9 w' w.heap.size (fun _ => True) v0_ r1 ∧ Below w.heap.size w w' := by
  unfold spec_KeysIn.f at h
  have HP := Aside0.mk hr0_0
  clear hr0_0 hc0_0
  by_cases hok : okP l0_0 = true
  · rw [if_pos hok] at h
    have HNP := Aside0.mk (okP_parts hok).1
    have HM := Aside0.mk (okP_parts hok).2
    cases hrs : ofS l0_0 with
    | none =>
      rw [hrs] at h
      injection h with h
      injection h with e1 e2
      subst e1
      subst e2
      have HRS := Aside0.mk hrs
      clear hrs hok
      go_enter Try.func24, Try.ntmps24
      go_wp2_with (first | ((with_reducible refine gate_dst (N := 1) rfl ?_); refine box_event ?hg (N := 1) ?hd (cs := #[.slice A0_0 l0_0.length c0_0]) (t := 29) ?hr ?_; (case hd => rfl); (case hg => rfl); (case hr => first | (go_simp; done) | (go_simp; rfl)); intro b3 hg w1 hbox hb; have HB := Aside0.mk hb; have hz3 : w1.cell? ⟨b3, 0, none⟩ = some (.slice A0_0 l0_0.length c0_0) := (blk_cell hbox 0).trans rfl; clear hg hbox hb) | (go_at_call 57; (with_reducible refine (spec_l5Of.calls l0_0 HNP.out A0_0 c0_0 _ (Kd.C_below HP.out HB.out) HM.out).mono ?_); rintro e w2 ⟨hb, hr⟩; rw [HRS.out] at hr; obtain ⟨-, rfl⟩ := hr.resolve_right (by rintro ⟨_, h, _⟩; cases h); have n1_ := Aside0.mk (below_step HB.out hb); clear HB; have HB := n1_; clear n1_ hb hr hz3))
      go_ret2
      exact ⟨_, rfl, Kd.R_nil _ _ _ _ _, HB.out⟩
    | some t =>
      rw [hrs] at h
      have HRS := Aside0.mk hrs
      have HSH := Aside0.mk (ofS_shp hrs)
      have HLN := Aside0.mk (ofS_len hrs HNP.out)
      have HZ1 := Aside0.mk (show (allK t).length ≤ 8796093022208 by have := HLN.out; omega)
      have HZ2 := Aside0.mk (show (allV t).length ≤ 8796093022208 by rw [allV_len HSH.out]; have := HLN.out; omega)
      have hln : (allK t).length ≤ 4000000000000 := HLN.out
      have HVK := Aside0.mk (allV_len HSH.out)
      injection h with h
      injection h with e1 e2
      subst e1
      subst e2
      clear hrs hok
      go_enter Try.func24, Try.ntmps24
      go_wp2_with (first | ((with_reducible refine gate_dst (N := 1) rfl ?_); refine box_event ?hg (N := 1) ?hd (cs := #[.slice A0_0 l0_0.length c0_0]) (t := 29) ?hr ?_; (case hd => rfl); (case hg => rfl); (case hr => first | (go_simp; done) | (go_simp; rfl)); intro b3 hg w1 hbox hb; have HB := Aside0.mk hb; have hz3 : w1.cell? ⟨b3, 0, none⟩ = some (.slice A0_0 l0_0.length c0_0) := (blk_cell hbox 0).trans rfl; clear hg hbox hb) | (go_at_call 57; (with_reducible refine (spec_l5Of.calls l0_0 HNP.out A0_0 c0_0 _ (Kd.C_below HP.out HB.out) HM.out).mono ?_); rintro e w2 ⟨hb, hr⟩; rw [HRS.out] at hr; obtain ⟨nt, h9, rfl, hs⟩ := hr.resolve_left (by rintro ⟨h, _⟩; cases h); injection h9 with h9; subst h9; have HR2 := Aside0.mk (rd_of hs); have n1_ := Aside0.mk (below_step HB.out hb); clear HB; have HB := n1_; clear n1_ hb hr hs hz3) | (go_at_call 65; (with_reducible refine (spec_all.calls0 nt.erase HSH.out _ ?side1 HZ1.out HZ2.out).mono ?_); (case side1 => repeat (first | exact HR2.out | (with_reducible refine Rd.drewN ?_ _) | (with_reducible refine Rd.drew ?_))); rintro e w5 ⟨u1, u2, rfl, ho1, ho2, hne, hb⟩; have HO1 := Aside0.mk (Kd.R_lower ho1 (show w.heap.size ≤ _ from HB.out.size)); have HO2 := Aside0.mk (Kd.R_lower ho2 (show w.heap.size ≤ _ from HB.out.size)); have HNE := Aside0.mk hne; have n1_ := Aside0.mk (below_step (by repeat (first | (with_reducible exact HB.out) | (with_reducible apply pw_below_drewN) | (with_reducible apply below_drew1))) hb); clear HB; have HB := n1_; clear n1_ hb ho1 ho2 hne; obtain ⟨B1, d1, rfl, hl1, hc1⟩ := Kd.R_reads HO1.out; obtain ⟨B2, d2, rfl, hl2, hc2⟩ := Kd.R_reads HO2.out; have HC1 := Aside0.mk hc1; have HC2 := Aside0.mk hc2; have HD1 := Aside0.mk hl1; have HD2 := Aside0.mk hl2; clear hl1 hl2 hc1 hc2))
      go_ret2
      exact ⟨_, rfl, by (with_reducible repeat (first | apply Kd.R_alloc | apply Kd.R_drewN | apply Kd.R_drew)); exact HO1.out, (by repeat (first | (with_reducible exact HB.out) | (with_reducible apply pw_below_drewN) | (with_reducible apply below_drew1)))⟩
  · rw [if_neg hok] at h
    cases h
theorem impl_KeysIn.calls (k : Nat) (A0_0 : Option Addr) (c0_0 : Nat) (l0_0 : List (S110)) (r1 : List ByteArray) (r2 : Bool) (w : World) (hr0_0 : Kd.C k110 w A0_0 l0_0.length l0_0) (hc0_0 : l0_0.length ≤ c0_0) (h : impl_KeysIn.f k l0_0 = some (r1, r2)) :
    Calls Try.prog 25 #[.agg #[.slice A0_0 l0_0.length c0_0]] w fun e w' => ∃ v0_ : Value, e = .returned (.tuple #[v0_, .bool r2]) ∧ Kd.R Kd.string 9 w' w.heap.size (fun _ => True) v0_ r1 ∧ Below w.heap.size w w' := by
  unfold impl_KeysIn.f at h
  have HP := Aside0.mk hr0_0
  clear hr0_0 hc0_0
  by_cases hok : okP l0_0 = true
  · rw [if_pos hok] at h
    have HNP := Aside0.mk (okP_parts hok).1
    have HM := Aside0.mk (okP_parts hok).2
    obtain ⟨o, hrs, h⟩ := Option.bind_eq_some_iff.mp h
    cases o with
    | none =>
      injection h with h
      injection h with e1 e2
      subst e1
      subst e2
      have HRS := Aside0.mk hrs
      clear hrs hok
      go_enter Try.func25, Try.ntmps25
      go_wp2_with (first | ((with_reducible refine gate_dst (N := 1) rfl ?_); refine box_event ?hg (N := 1) ?hd (cs := #[.slice A0_0 l0_0.length c0_0]) (t := 29) ?hr ?_; (case hd => rfl); (case hg => rfl); (case hr => first | (go_simp; done) | (go_simp; rfl)); intro b3 hg w1 hbox hb; have HB := Aside0.mk hb; have hz3 : w1.cell? ⟨b3, 0, none⟩ = some (.slice A0_0 l0_0.length c0_0) := (blk_cell hbox 0).trans rfl; clear hg hbox hb) | (go_at_call 59; (with_reducible refine (impl_root.calls k l0_0 HNP.out A0_0 c0_0 _ (Kd.C_below HP.out HB.out) HM.out _ HRS.out).mono ?_); rintro e w2 ⟨hb, hr⟩; obtain ⟨-, rfl⟩ := hr.resolve_right (by rintro ⟨_, h, _⟩; cases h); have n1_ := Aside0.mk (below_step HB.out hb); clear HB; have HB := n1_; clear n1_ hb hr hz3))
      go_ret2
      exact ⟨_, rfl, Kd.R_nil _ _ _ _ _, HB.out⟩
    | some t =>
      have HRS := Aside0.mk hrs
      have HSH := Aside0.mk (rootI_shp hrs)
      have HLN := Aside0.mk (rootI_len hrs HNP.out)
      have HZ1 := Aside0.mk (show (allK t).length ≤ 8796093022208 by have := HLN.out; omega)
      have HZ2 := Aside0.mk (show (allV t).length ≤ 8796093022208 by rw [allV_len HSH.out]; have := HLN.out; omega)
      have hln : (allK t).length ≤ 4000000000000 := HLN.out
      have HVK := Aside0.mk (allV_len HSH.out)
      injection h with h
      injection h with e1 e2
      subst e1
      subst e2
      clear hrs hok
      go_enter Try.func25, Try.ntmps25
      go_wp2_with (first | ((with_reducible refine gate_dst (N := 1) rfl ?_); refine box_event ?hg (N := 1) ?hd (cs := #[.slice A0_0 l0_0.length c0_0]) (t := 29) ?hr ?_; (case hd => rfl); (case hg => rfl); (case hr => first | (go_simp; done) | (go_simp; rfl)); intro b3 hg w1 hbox hb; have HB := Aside0.mk hb; have hz3 : w1.cell? ⟨b3, 0, none⟩ = some (.slice A0_0 l0_0.length c0_0) := (blk_cell hbox 0).trans rfl; clear hg hbox hb) | (go_at_call 59; (with_reducible refine (impl_root.calls k l0_0 HNP.out A0_0 c0_0 _ (Kd.C_below HP.out HB.out) HM.out _ HRS.out).mono ?_); rintro e w2 ⟨hb, hr⟩; obtain ⟨nt, h9, rfl, hs⟩ := hr.resolve_left (by rintro ⟨h, _⟩; cases h); injection h9 with h9; subst h9; have HR2 := Aside0.mk (rd_of hs); have n1_ := Aside0.mk (below_step HB.out hb); clear HB; have HB := n1_; clear n1_ hb hr hs hz3) | (go_at_call 66; (with_reducible refine (impl_all.calls0 nt.erase HSH.out _ ?side1 HZ1.out HZ2.out).mono ?_); (case side1 => repeat (first | exact HR2.out | (with_reducible refine Rd.drewN ?_ _) | (with_reducible refine Rd.drew ?_))); rintro e w5 ⟨u1, u2, rfl, ho1, ho2, hne, hb⟩; have HO1 := Aside0.mk (Kd.R_lower ho1 (show w.heap.size ≤ _ from HB.out.size)); have HO2 := Aside0.mk (Kd.R_lower ho2 (show w.heap.size ≤ _ from HB.out.size)); have HNE := Aside0.mk hne; have n1_ := Aside0.mk (below_step (by repeat (first | (with_reducible exact HB.out) | (with_reducible apply pw_below_drewN) | (with_reducible apply below_drew1))) hb); clear HB; have HB := n1_; clear n1_ hb ho1 ho2 hne; obtain ⟨B1, d1, rfl, hl1, hc1⟩ := Kd.R_reads HO1.out; obtain ⟨B2, d2, rfl, hl2, hc2⟩ := Kd.R_reads HO2.out; have HC1 := Aside0.mk hc1; have HC2 := Aside0.mk hc2; have HD1 := Aside0.mk hl1; have HD2 := Aside0.mk hl2; clear hl1 hl2 hc1 hc2))
      go_ret2
      exact ⟨_, rfl, by (with_reducible repeat (first | apply Kd.R_alloc | apply Kd.R_drewN | apply Kd.R_drew)); exact HO1.out, (by repeat (first | (with_reducible exact HB.out) | (with_reducible apply pw_below_drewN) | (with_reducible apply below_drew1)))⟩
  · rw [if_neg hok] at h
    cases h
end Go.Proofs.Ytoddejmlcnbdmaa.Fn
namespace Go.Proofs.Ytoddejmlcnbdmaa.Fn
open Go.RowKit Go.Proofs.YtoddejmlcnbdmaaW.PrintWords Go.Proofs.YtoddejmlcnbdmaaW.PrintLast Go.Proofs.YtoddejmlcnbdmaaW.PrintMore
attribute [local go_sem] max2_int min2_int max_two min_two max_three min_three max_four min_four   -- for this text's walks alone
set_option linter.unusedVariables false
set_option linter.unusedSimpArgs false

/-! ### spec_l7Range: function 70 -/
def spec_l7Range.f (a0 : ByteArray) (a1 : ByteArray) : Option (Bool) := (spec_l5Pair.f a0 (⟨#[]⟩ : ByteArray)).bind fun t274 => (if t274 = true then ((spec_l5Pair.f a1 (⟨#[]⟩ : ByteArray)).bind fun t275 => (if t275 = true then (some (Op.bytesLess a0.toList a1.toList)) else (some false))) else (some false))
set_option maxHeartbeats 8000000 in
set_option maxRecDepth 100000 in
theorem spec_l7Range.calls (a0 : ByteArray) (a1 : ByteArray) (r : Bool) (w : World) (h : spec_l7Range.f a0 a1 = some r) :
    Calls Try.prog 70 #[.string a0, .string a1] w fun e w' => e = .returned (.bool r) ∧ Drawn0 w w' := by
  have H : ((spec_l5Pair.f a0 (⟨#[]⟩ : ByteArray)).bind fun t274 => (if t274 = true then ((spec_l5Pair.f a1 (⟨#[]⟩ : ByteArray)).bind fun t275 => (if t275 = true then (some (Op.bytesLess a0.toList a1.toList)) else (some false))) else (some false))) = some r := h
  clear h
  replace H := Option.bind_eq_some_iff.mp H
  obtain ⟨t274, A30, H⟩ := H
  replace H : (if t274 = true then ((spec_l5Pair.f a1 (⟨#[]⟩ : ByteArray)).bind fun t275 => (if t275 = true then (some (Op.bytesLess a0.toList a1.toList)) else (some false))) else (some false)) = some r := H
  have A3 := Aside0.mk A30
  clear A30
  by_cases c4 : t274 = true
  · subst c4
    have H1 : ((spec_l5Pair.f a1 (⟨#[]⟩ : ByteArray)).bind fun t275 => (if t275 = true then (some (Op.bytesLess a0.toList a1.toList)) else (some false))) = some r := by rw [if_pos rfl] at H; exact H
    clear H
    have H := H1
    clear H1
    replace H := Option.bind_eq_some_iff.mp H
    obtain ⟨t275, A50, H⟩ := H
    replace H : (if t275 = true then (some (Op.bytesLess a0.toList a1.toList)) else (some false)) = some r := H
    have A5 := Aside0.mk A50
    clear A50
    by_cases c6 : t275 = true
    · subst c6
      have H1 : (some (Op.bytesLess a0.toList a1.toList)) = some r := by rw [if_pos rfl] at H; exact H
      clear H
      have H := H1
      clear H1
      obtain rfl := Option.some.inj H
      go_enter Try.func70, Try.ntmps70
      go_wp2_with (first | ((with_reducible refine gate_callee (f := 75) rfl ?_); refine goesL_ (some 6) rfl rfl Try.func75 (by kernel_rfl) rfl #[.string a0, .string (⟨#[]⟩ : ByteArray)] rfl (by (try simp only [List.map_toArray, List.map_cons, List.map_nil]); first | done | rfl | (simp only [List.length_drop, List.length_take]; rfl)) ?_; (with_reducible refine (spec_l5Pair.calls a0 (⟨#[]⟩ : ByteArray) true _ A3.out).mono ?_); rintro e w' ⟨rfl, ⟨nd, rfl⟩⟩; refine ⟨_, rfl, ?_⟩) | (go_at_call 75; (with_reducible refine (spec_l5Pair.calls a1 (⟨#[]⟩ : ByteArray) true _ A5.out).mono ?_); rintro e w' ⟨rfl, ⟨nd, rfl⟩⟩))
      go_ret
      exact ⟨by first | rfl | (simp only [Go.Proofs.Ytoddejmlcnbdmaa.Gen.nil_str, Go.Proofs.Ytoddejmlcnbdmaa.Gen.gt_str]; first | done | rfl | (simp; done)) | (simp; done) | (simp [*]; done), by repeat (first | exact Drawn0.refl _ | apply Drawn0.step)⟩
    · replace c6 := Bool.eq_false_iff.mpr c6
      subst c6
      have H1 : (some false) = some r := by rw [if_neg (show ¬ (false = true) by decide)] at H; exact H
      clear H
      have H := H1
      clear H1
      obtain rfl := Option.some.inj H
      go_enter Try.func70, Try.ntmps70
      go_wp2_with (first | ((with_reducible refine gate_callee (f := 75) rfl ?_); refine goesL_ (some 6) rfl rfl Try.func75 (by kernel_rfl) rfl #[.string a0, .string (⟨#[]⟩ : ByteArray)] rfl (by (try simp only [List.map_toArray, List.map_cons, List.map_nil]); first | done | rfl | (simp only [List.length_drop, List.length_take]; rfl)) ?_; (with_reducible refine (spec_l5Pair.calls a0 (⟨#[]⟩ : ByteArray) true _ A3.out).mono ?_); rintro e w' ⟨rfl, ⟨nd, rfl⟩⟩; refine ⟨_, rfl, ?_⟩) | (go_at_call 75; (with_reducible refine (spec_l5Pair.calls a1 (⟨#[]⟩ : ByteArray) false _ A5.out).mono ?_); rintro e w' ⟨rfl, ⟨nd, rfl⟩⟩))
      go_ret
      exact ⟨by first | rfl | (simp only [Go.Proofs.Ytoddejmlcnbdmaa.Gen.nil_str, Go.Proofs.Ytoddejmlcnbdmaa.Gen.gt_str]; first | done | rfl | (simp; done)) | (simp; done) | (simp [*]; done), by repeat (first | exact Drawn0.refl _ | apply Drawn0.step)⟩
  · replace c4 := Bool.eq_false_iff.mpr c4
    subst c4
    have H1 : (some false) = some r := by rw [if_neg (show ¬ (false = true) by decide)] at H; exact H
    clear H
    have H := H1
    clear H1
    obtain rfl := Option.some.inj H
    go_enter Try.func70, Try.ntmps70
    go_wp2_with (first | ((with_reducible refine gate_callee (f := 75) rfl ?_); refine goesL_ (some 6) rfl rfl Try.func75 (by kernel_rfl) rfl #[.string a0, .string (⟨#[]⟩ : ByteArray)] rfl (by (try simp only [List.map_toArray, List.map_cons, List.map_nil]); first | done | rfl | (simp only [List.length_drop, List.length_take]; rfl)) ?_; (with_reducible refine (spec_l5Pair.calls a0 (⟨#[]⟩ : ByteArray) false _ A3.out).mono ?_); rintro e w' ⟨rfl, ⟨nd, rfl⟩⟩; refine ⟨_, rfl, ?_⟩))
    go_ret
    exact ⟨by first | rfl | (simp only [Go.Proofs.Ytoddejmlcnbdmaa.Gen.nil_str, Go.Proofs.Ytoddejmlcnbdmaa.Gen.gt_str]; first | done | rfl | (simp; done)) | (simp; done) | (simp [*]; done), by repeat (first | exact Drawn0.refl _ | apply Drawn0.step)⟩

end Go.Proofs.Ytoddejmlcnbdmaa.Fn
namespace Go.Proofs.Ytoddejmlcnbdmaa.Fn
open Go.RowKit Go.Proofs.YtoddejmlcnbdmaaW.PrintWords Go.Proofs.YtoddejmlcnbdmaaW.PrintLast Go.Proofs.YtoddejmlcnbdmaaW.PrintMore
attribute [local go_sem] max2_int min2_int max_two min_two max_three min_three max_four min_four   -- for this text's walks alone
set_option linter.unusedVariables false
set_option linter.unusedSimpArgs false

/-! ### spec_l7In: function 71 -/
def spec_l7In.f (a0 : ByteArray) (a1 : ByteArray) (a2 : ByteArray) : Option (Bool) := if ((Op.bytesLess a0.toList a1.toList) = true) then (some false) else (some (Op.bytesLess a0.toList a2.toList))
set_option maxHeartbeats 8000000 in
set_option maxRecDepth 100000 in
theorem spec_l7In.calls (a0 : ByteArray) (a1 : ByteArray) (a2 : ByteArray) (r : Bool) (w : World) (h : spec_l7In.f a0 a1 a2 = some r) :
    Calls Try.prog 71 #[.string a0, .string a1, .string a2] w fun e w' => e = .returned (.bool r) ∧ Drawn0 w w' := by
  have H : (if ((Op.bytesLess a0.toList a1.toList) = true) then (some false) else (some (Op.bytesLess a0.toList a2.toList))) = some r := h
  clear h
  by_cases c4 : ((Op.bytesLess a0.toList a1.toList) = true)
  · rw [if_pos c4] at H
    have c4b0 : (Op.bytesLess a0.toList a1.toList) = true := c4
    clear c4
    obtain rfl := Option.some.inj H
    go_enter Try.func71, Try.ntmps71
    go_wp2
    go_ret
    exact ⟨by first | rfl | (simp only [Go.Proofs.Ytoddejmlcnbdmaa.Gen.nil_str, Go.Proofs.Ytoddejmlcnbdmaa.Gen.gt_str]; first | done | rfl | (simp; done)) | (simp; done) | (simp [*]; done), by repeat (first | exact Drawn0.refl _ | apply Drawn0.step)⟩
  · rw [if_neg c4] at H
    have c4b0 : (Op.bytesLess a0.toList a1.toList) = false := by simpa using c4
    clear c4
    obtain rfl := Option.some.inj H
    go_enter Try.func71, Try.ntmps71
    go_wp2
    go_ret
    exact ⟨by first | rfl | (simp only [Go.Proofs.Ytoddejmlcnbdmaa.Gen.nil_str, Go.Proofs.Ytoddejmlcnbdmaa.Gen.gt_str]; first | done | rfl | (simp; done)) | (simp; done) | (simp [*]; done), by repeat (first | exact Drawn0.refl _ | apply Drawn0.step)⟩

end Go.Proofs.Ytoddejmlcnbdmaa.Fn
namespace Go.Proofs.Ytoddejmlcnbdmaa.Fn
open Go.RowKit Go.Proofs.YtoddejmlcnbdmaaW.PrintWords Go.Proofs.YtoddejmlcnbdmaaW.PrintLast Go.Proofs.YtoddejmlcnbdmaaW.PrintMore
attribute [local go_sem] max2_int min2_int max_two min_two max_three min_three max_four min_four   -- for this text's walks alone
set_option linter.unusedVariables false
set_option linter.unusedSimpArgs false

/-! ### impl_isRange: function 72 -/
def impl_isRange.f (a0 : ByteArray) (a1 : ByteArray) : Option (Bool) := (impl_isKey.f a0).bind fun t284 => (if t284 = true then ((impl_isKey.f a1).bind fun t285 => (if t285 = true then (some (Op.bytesLess a0.toList a1.toList)) else (some false))) else (some false))
set_option maxHeartbeats 8000000 in
set_option maxRecDepth 100000 in
theorem impl_isRange.calls (a0 : ByteArray) (a1 : ByteArray) (r : Bool) (w : World) (h : impl_isRange.f a0 a1 = some r) :
    Calls Try.prog 72 #[.string a0, .string a1] w fun e w' => e = .returned (.bool r) ∧ Drawn0 w w' := by
  have H : ((impl_isKey.f a0).bind fun t284 => (if t284 = true then ((impl_isKey.f a1).bind fun t285 => (if t285 = true then (some (Op.bytesLess a0.toList a1.toList)) else (some false))) else (some false))) = some r := h
  clear h
  replace H := Option.bind_eq_some_iff.mp H
  obtain ⟨t284, A30, H⟩ := H
  replace H : (if t284 = true then ((impl_isKey.f a1).bind fun t285 => (if t285 = true then (some (Op.bytesLess a0.toList a1.toList)) else (some false))) else (some false)) = some r := H
  have A3 := Aside0.mk A30
  clear A30
  by_cases c4 : t284 = true
  · subst c4
    have H1 : ((impl_isKey.f a1).bind fun t285 => (if t285 = true then (some (Op.bytesLess a0.toList a1.toList)) else (some false))) = some r := by rw [if_pos rfl] at H; exact H
    clear H
    have H := H1
    clear H1
    replace H := Option.bind_eq_some_iff.mp H
    obtain ⟨t285, A50, H⟩ := H
    replace H : (if t285 = true then (some (Op.bytesLess a0.toList a1.toList)) else (some false)) = some r := H
    have A5 := Aside0.mk A50
    clear A50
    by_cases c6 : t285 = true
    · subst c6
      have H1 : (some (Op.bytesLess a0.toList a1.toList)) = some r := by rw [if_pos rfl] at H; exact H
      clear H
      have H := H1
      clear H1
      obtain rfl := Option.some.inj H
      go_enter Try.func72, Try.ntmps72
      go_wp2_with (first | ((with_reducible refine gate_callee (f := 78) rfl ?_); refine goesL_ (some 6) rfl rfl Try.func78 (by kernel_rfl) rfl #[.string a0] rfl (by (try simp only [List.map_toArray, List.map_cons, List.map_nil]); first | done | rfl | (simp only [List.length_drop, List.length_take]; rfl)) ?_; (with_reducible refine (impl_isKey.calls a0 true _ A3.out).mono ?_); rintro e w' ⟨rfl, ⟨nd, rfl⟩⟩; refine ⟨_, rfl, ?_⟩) | (go_at_call 78; (with_reducible refine (impl_isKey.calls a1 true _ A5.out).mono ?_); rintro e w' ⟨rfl, ⟨nd, rfl⟩⟩))
      go_ret
      exact ⟨by first | rfl | (simp only [Go.Proofs.Ytoddejmlcnbdmaa.Gen.nil_str, Go.Proofs.Ytoddejmlcnbdmaa.Gen.gt_str]; first | done | rfl | (simp; done)) | (simp; done) | (simp [*]; done), by repeat (first | exact Drawn0.refl _ | apply Drawn0.step)⟩
    · replace c6 := Bool.eq_false_iff.mpr c6
      subst c6
      have H1 : (some false) = some r := by rw [if_neg (show ¬ (false = true) by decide)] at H; exact H
      clear H
      have H := H1
      clear H1
      obtain rfl := Option.some.inj H
      go_enter Try.func72, Try.ntmps72
      go_wp2_with (first | ((with_reducible refine gate_callee (f := 78) rfl ?_); refine goesL_ (some 6) rfl rfl Try.func78 (by kernel_rfl) rfl #[.string a0] rfl (by (try simp only [List.map_toArray, List.map_cons, List.map_nil]); first | done | rfl | (simp only [List.length_drop, List.length_take]; rfl)) ?_; (with_reducible refine (impl_isKey.calls a0 true _ A3.out).mono ?_); rintro e w' ⟨rfl, ⟨nd, rfl⟩⟩; refine ⟨_, rfl, ?_⟩) | (go_at_call 78; (with_reducible refine (impl_isKey.calls a1 false _ A5.out).mono ?_); rintro e w' ⟨rfl, ⟨nd, rfl⟩⟩))
      go_ret
      exact ⟨by first | rfl | (simp only [Go.Proofs.Ytoddejmlcnbdmaa.Gen.nil_str, Go.Proofs.Ytoddejmlcnbdmaa.Gen.gt_str]; first | done | rfl | (simp; done)) | (simp; done) | (simp [*]; done), by repeat (first | exact Drawn0.refl _ | apply Drawn0.step)⟩
  · replace c4 := Bool.eq_false_iff.mpr c4
    subst c4
    have H1 : (some false) = some r := by rw [if_neg (show ¬ (false = true) by decide)] at H; exact H
    clear H
    have H := H1
    clear H1
    obtain rfl := Option.some.inj H
    go_enter Try.func72, Try.ntmps72
    go_wp2_with (first | ((with_reducible refine gate_callee (f := 78) rfl ?_); refine goesL_ (some 6) rfl rfl Try.func78 (by kernel_rfl) rfl #[.string a0] rfl (by (try simp only [List.map_toArray, List.map_cons, List.map_nil]); first | done | rfl | (simp only [List.length_drop, List.length_take]; rfl)) ?_; (with_reducible refine (impl_isKey.calls a0 false _ A3.out).mono ?_); rintro e w' ⟨rfl, ⟨nd, rfl⟩⟩; refine ⟨_, rfl, ?_⟩))
    go_ret
    exact ⟨by first | rfl | (simp only [Go.Proofs.Ytoddejmlcnbdmaa.Gen.nil_str, Go.Proofs.Ytoddejmlcnbdmaa.Gen.gt_str]; first | done | rfl | (simp; done)) | (simp; done) | (simp [*]; done), by repeat (first | exact Drawn0.refl _ | apply Drawn0.step)⟩

end Go.Proofs.Ytoddejmlcnbdmaa.Fn
namespace Go.Proofs.Ytoddejmlcnbdmaa.Fn
open Go.Proofs.Ytoddejmlcnbdmaa.Gen Go.Proofs.Ytoddejmlcnbdmaa.Tree
open Go.RowKit Go.Proofs.YtoddejmlcnbdmaaW.PrintWords Go.Proofs.YtoddejmlcnbdmaaW.PrintLast Go.Proofs.YtoddejmlcnbdmaaW.PrintMore
set_option linter.unusedVariables false
set_option linter.unusedSimpArgs false
set_option maxHeartbeats 8000000
set_option maxRecDepth 100000

def inB (a b k : ByteArray) : Bool := !(Op.bytesLess k.toList a.toList) && Op.bytesLess k.toList b.toList
theorem inB_f (a b k : ByteArray) : spec_l7In.f k a b = some (inB a b k) := by
  unfold spec_l7In.f inB
  cases Op.bytesLess k.toList a.toList <;> simp
def rngK (a b : ByteArray) (K : List ByteArray) : List ByteArray := K.filter (inB a b)
def rngV (a b : ByteArray) : List ByteArray → List ByteArray → List ByteArray
  | k :: K, v :: V => if inB a b k = true then v :: rngV a b K V else rngV a b K V
  | _, _ => []
theorem rng_on {a b kx vx : ByteArray} {K V : List ByteArray} {i : Nat} (hk : K[i]? = some kx) (hv : V[i]? = some vx) (h : inB a b kx = true) : rngK a b (K.drop i) = [kx] ++ rngK a b (K.drop (i + 1)) ∧ rngV a b (K.drop i) (V.drop i) = [vx] ++ rngV a b (K.drop (i + 1)) (V.drop (i + 1)) := by
  rw [drop_of hk, drop_of hv]
  constructor
  · unfold rngK
    rw [List.filter_cons_of_pos h]
    rfl
  · rw [rngV, if_pos h]
    rfl
theorem rng_off {a b kx vx : ByteArray} {K V : List ByteArray} {i : Nat} (hk : K[i]? = some kx) (hv : V[i]? = some vx) (h : inB a b kx = false) : rngK a b (K.drop i) = rngK a b (K.drop (i + 1)) ∧ rngV a b (K.drop i) (V.drop i) = rngV a b (K.drop (i + 1)) (V.drop (i + 1)) := by
  rw [drop_of hk, drop_of hv]
  constructor
  · unfold rngK
    rw [List.filter_cons_of_neg (by simp [h])]
  · rw [rngV, if_neg (by simp [h])]
theorem rngV_len (a b : ByteArray) : ∀ K V : List ByteArray, (rngV a b K V).length ≤ K.length
  | [], _ => by simp [rngV]
  | k :: K, [] => by simp [rngV]
  | k :: K, v :: V => by
    have := rngV_len a b K V
    rw [rngV]
    split <;> simp <;> omega
theorem SR.strong {w : World} {base : Nat} {v u : Value} {l : List ByteArray} (h : SR w base v l) (hne : NeRow v u) : Kd.string.R 9 w base (fun k_ => some k_ ≠ (u : Value).ownBlock) v l :=
  Kd.R_mono (Kd.R_tight rfl h) (fun k hk he => hne k hk.symm he.symm)
/-- What is made late is none of the elder. -/
theorem neLate {w7 w8 : World} {base : Nat} {v0 v1 : Value} {l0 l1 : List ByteArray} (h0 : Kd.string.R 9 w7 base (fun _ => True) v0 l0) (h1 : Kd.string.R 9 w8 w7.heap.size (fun _ => True) v1 l1) : NeRow v0 v1 := by
  intro k hk hk1
  have a := SR.lt (SR.ofR h0) hk
  have b := ((Kd.R_bound h1).1 k hk1).2.1
  omega
def spec_RangeOf.f (l0_0 : List S110) (a1 a2 : ByteArray) : Option (List ByteArray × List ByteArray × Bool) := if okP l0_0 = true then (match ofS l0_0 with | none => some ([], [], false) | some t => (spec_l7Range.f a1 a2).bind fun g => if g = true then some (rngK a1 a2 (allK t), rngV a1 a2 (allK t) (allV t), true) else some ([], [], false)) else none
def impl_RangeOf.f (k : Nat) (l0_0 : List S110) (a1 a2 : ByteArray) : Option (List ByteArray × List ByteArray × Bool) := if okP l0_0 = true then (rootI k l0_0).bind fun r => (match r with | none => some ([], [], false) | some t => (impl_isRange.f a1 a2).bind fun g => if g = true then ((impl_less.f k (allK t) a1).bind fun lo => (impl_less.f k (allK t) a2).bind fun x => if 0 ≤ lo ∧ lo ≤ ((allK t).length : Int) ∧ x ≤ ((allK t).length : Int) then some (((allK t).take (if lo < x then x else lo).toNat).drop lo.toNat, ((allV t).take (if lo < x then x else lo).toNat).drop lo.toNat, true) else none) else some ([], [], false)) else none
theorem impl_RangeOf.mono : ∀ a0 a1 a2 k, LeO (impl_RangeOf.f k a0 a1 a2) (impl_RangeOf.f (k + 1) a0 a1 a2) := fun a0 a1 a2 k => LeO.ite (LeO.bind (rootI_mono _ _) fun r => by cases r with
  | none => exact LeO.refl _
  | some t => exact LeO.bind (LeO.refl _) fun g => LeO.ite (LeO.bind (impl_less.mono _ _ _) fun lo => LeO.bind (impl_less.mono _ _ _) fun x => LeO.refl _) (LeO.refl _)) (LeO.refl _)
theorem clone_some {l : List ByteArray} (h : l.length < 8796093022208) : slices_Clone_string_string.f l = some l := by
  unfold slices_Clone_string_string.f
  simp only [Option.bind_some, List.length_nil, Nat.zero_add]
  rw [if_pos h]
  rfl
theorem spec_RangeOf.calls (A0_0 : Option Addr) (c0_0 : Nat) (l0_0 : List (S110)) (a1 a2 : ByteArray) (r1 : List ByteArray) (r2 : List ByteArray) (r3 : Bool) (w : World) (hr0_0 : Kd.C k110 w A0_0 l0_0.length l0_0) (hc0_0 : l0_0.length ≤ c0_0) (h : spec_RangeOf.f l0_0 a1 a2 = some (r1, r2, r3)) :
    Calls Try.prog 34 #[.agg #[.slice A0_0 l0_0.length c0_0], .string a1, .string a2] w fun e w' => ∃ v0_ v1_ : Value, e = .returned (.tuple #[v0_, v1_, .bool r3]) ∧ Kd.R Kd.string 9 w' w.heap.size (fun k_ => some k_ ≠ (v1_ : Value).ownBlock) v0_ r1 ∧ Kd.R Kd.string 9 w' w.heap.size (fun k_ => some k_ ≠ (v0_ : Value).ownBlock) v1_ r2 ∧ Below w.heap.size w w' := by
  unfold spec_RangeOf.f at h
  have HP := Aside0.mk hr0_0
  clear hr0_0 hc0_0
  by_cases hok : okP l0_0 = true
  · rw [if_pos hok] at h
    have HNP := Aside0.mk (okP_parts hok).1
    have HM := Aside0.mk (okP_parts hok).2
    cases hrs : ofS l0_0 with
    | none =>
      rw [hrs] at h
      injection h with h
      injection h with e1 h
      injection h with e2 e3
      subst e1
      subst e2
      subst e3
      have HRS := Aside0.mk hrs
      clear hrs hok
      go_enter Try.func34, Try.ntmps34
      go_wp2_with (first | ((with_reducible refine gate_dst (N := 3) rfl ?_); refine box_event ?hg (N := 3) ?hd (cs := #[.slice A0_0 l0_0.length c0_0]) (t := 29) ?hr ?_; (case hd => rfl); (case hg => rfl); (case hr => first | (go_simp; done) | (go_simp; rfl)); intro b3 hg w1 hbox hb; have HB := Aside0.mk hb; have hz3 : w1.cell? ⟨b3, 0, none⟩ = some (.slice A0_0 l0_0.length c0_0) := (blk_cell hbox 0).trans rfl; clear hg hbox hb) | (go_at_call 57; (with_reducible refine (spec_l5Of.calls l0_0 HNP.out A0_0 c0_0 _ (Kd.C_below HP.out HB.out) HM.out).mono ?_); rintro e w2 ⟨hb, hr⟩; rw [HRS.out] at hr; obtain ⟨-, rfl⟩ := hr.resolve_right (by rintro ⟨_, h, _⟩; cases h); have n1_ := Aside0.mk (below_step HB.out hb); clear HB; have HB := n1_; clear n1_ hb hr hz3))
      go_ret3
      exact ⟨_, _, rfl, Kd.R_nil _ _ _ _ _, Kd.R_nil _ _ _ _ _, (by repeat (first | (with_reducible exact HB.out) | (with_reducible apply pw_below_drewN) | (with_reducible apply below_drew1)))⟩
    | some t =>
      rw [hrs] at h
      have HRS := Aside0.mk hrs
      have HSH := Aside0.mk (ofS_shp hrs)
      have HLN := Aside0.mk (ofS_len hrs HNP.out)
      have HZ1 := Aside0.mk (show (allK t).length ≤ 8796093022208 by have := HLN.out; omega)
      have HZ2 := Aside0.mk (show (allV t).length ≤ 8796093022208 by rw [allV_len HSH.out]; have := HLN.out; omega)
      have hln : (allK t).length ≤ 4000000000000 := HLN.out
      have HVK := Aside0.mk (allV_len HSH.out)
      replace h := Option.bind_eq_some_iff.mp h
      obtain ⟨g, hg0, h⟩ := h
      have HG := Aside0.mk hg0
      clear hrs hok hg0
      cases g with
      | false =>
        rw [if_neg (by decide)] at h
        injection h with h
        injection h with e1 h
        injection h with e2 e3
        subst e1
        subst e2
        subst e3
        go_enter Try.func34, Try.ntmps34
        go_wp2_with (first | ((with_reducible refine gate_dst (N := 3) rfl ?_); refine box_event ?hg (N := 3) ?hd (cs := #[.slice A0_0 l0_0.length c0_0]) (t := 29) ?hr ?_; (case hd => rfl); (case hg => rfl); (case hr => first | (go_simp; done) | (go_simp; rfl)); intro b3 hg w1 hbox hb; have HB := Aside0.mk hb; have hz3 : w1.cell? ⟨b3, 0, none⟩ = some (.slice A0_0 l0_0.length c0_0) := (blk_cell hbox 0).trans rfl; clear hg hbox hb) | (go_at_call 57; (with_reducible refine (spec_l5Of.calls l0_0 HNP.out A0_0 c0_0 _ (Kd.C_below HP.out HB.out) HM.out).mono ?_); rintro e w2 ⟨hb, hr⟩; rw [HRS.out] at hr; obtain ⟨nt, h9, rfl, hs⟩ := hr.resolve_left (by rintro ⟨h, _⟩; cases h); injection h9 with h9; subst h9; have HR2 := Aside0.mk (rd_of hs); have n1_ := Aside0.mk (below_step HB.out hb); clear HB; have HB := n1_; clear n1_ hb hr hs hz3) | (go_at_call 70; (with_reducible refine (spec_l7Range.calls a1 a2 false _ HG.out).mono ?_); rintro e w' ⟨rfl, ⟨nd, rfl⟩⟩))
        go_ret3
        exact ⟨_, _, rfl, Kd.R_nil _ _ _ _ _, Kd.R_nil _ _ _ _ _, (by repeat (first | (with_reducible exact HB.out) | (with_reducible apply pw_below_drewN) | (with_reducible apply below_drew1)))⟩
      | true =>
        rw [if_pos rfl] at h
        injection h with h
        injection h with e1 h
        injection h with e2 e3
        subst e3
        have HE1 := Aside0.mk e1
        have HE2 := Aside0.mk e2
        clear e1 e2
        go_enter Try.func34, Try.ntmps34
        go_upto_region 7 with (first | ((with_reducible refine gate_dst (N := 3) rfl ?_); refine box_event ?hg (N := 3) ?hd (cs := #[.slice A0_0 l0_0.length c0_0]) (t := 29) ?hr ?_; (case hd => rfl); (case hg => rfl); (case hr => first | (go_simp; done) | (go_simp; rfl)); intro b3 hg w1 hbox hb; have HB := Aside0.mk hb; have hz3 : w1.cell? ⟨b3, 0, none⟩ = some (.slice A0_0 l0_0.length c0_0) := (blk_cell hbox 0).trans rfl; clear hg hbox hb) | (go_at_call 57; (with_reducible refine (spec_l5Of.calls l0_0 HNP.out A0_0 c0_0 _ (Kd.C_below HP.out HB.out) HM.out).mono ?_); rintro e w2 ⟨hb, hr⟩; rw [HRS.out] at hr; obtain ⟨nt, h9, rfl, hs⟩ := hr.resolve_left (by rintro ⟨h, _⟩; cases h); injection h9 with h9; subst h9; have HR2 := Aside0.mk (rd_of hs); have n1_ := Aside0.mk (below_step HB.out hb); clear HB; have HB := n1_; clear n1_ hb hr hs hz3) | (go_at_call 70; (with_reducible refine (spec_l7Range.calls a1 a2 true _ HG.out).mono ?_); rintro e w' ⟨rfl, ⟨nd, rfl⟩⟩) | (go_at_call 65; (with_reducible refine (spec_all.calls0 nt.erase HSH.out _ ?side1 HZ1.out HZ2.out).mono ?_); (case side1 => repeat (first | exact HR2.out | (with_reducible refine Rd.drewN ?_ _) | (with_reducible refine Rd.drew ?_))); rintro e w5 ⟨u1, u2, rfl, ho1, ho2, hne, hb⟩; have HO1 := Aside0.mk (Kd.R_lower ho1 (show w.heap.size ≤ _ from HB.out.size)); have HO2 := Aside0.mk (Kd.R_lower ho2 (show w.heap.size ≤ _ from HB.out.size)); have HNE := Aside0.mk hne; have n1_ := Aside0.mk (below_step (by repeat (first | (with_reducible exact HB.out) | (with_reducible apply pw_below_drewN) | (with_reducible apply below_drew1))) hb); clear HB; have HB := n1_; clear n1_ hb ho1 ho2 hne; obtain ⟨B1, d1, rfl, hl1, hc1⟩ := Kd.R_reads HO1.out; obtain ⟨B2, d2, rfl, hl2, hc2⟩ := Kd.R_reads HO2.out; have HC1 := Aside0.mk hc1; have HC2 := Aside0.mk hc2; have HD1 := Aside0.mk hl1; have HD2 := Aside0.mk hl2; clear hl1 hl2 hc1 hc2))
        have hkb : (allK nt.erase).length ≤ 4000000000000 := HLN.out
        have HBA := Aside0.mk HB.out
        clear HB
        have HB := Aside0.mk (Below.refl w5.heap.size w5)
        have HL1 := Aside0.mk (show r1.length ≤ 8796093022208 by have := List.length_filter_le (inB a1 a2) (allK nt.erase); rw [← HE1.out]; unfold rngK; omega)
        have HL2 := Aside0.mk (show r2.length ≤ 8796093022208 by have := rngV_len a1 a2 (allK nt.erase) (allV nt.erase); rw [← HE2.out]; omega)
        have HR1 := Aside0.mk (show [] ++ rngK a1 a2 ((allK nt.erase).drop 0) = r1 from HE1.out)
        have HR2' := Aside0.mk (show [] ++ rngV a1 a2 ((allK nt.erase).drop 0) ((allV nt.erase).drop 0) = r2 from HE2.out)
        have HO1' := Aside0.mk (SR.nil w5 w5.heap.size)
        have HO2' := Aside0.mk (SR.nil w5 w5.heap.size)
        have HNE' := Aside0.mk (neNil (.slice none 0 0))
        clear HE1 HE2 HO1 HO2 HNE HR2
        go_loopg [13, 14, 37] (allK nt.erase).length (fun kq u1 u2 u8 w' => ∃ (i : Nat) (x1 x2 : List ByteArray), u8 = .int .i64 (i : Int) ∧ Aside0 (i ≤ (allK nt.erase).length ∧ kq + i = (allK nt.erase).length) ∧ Aside0 (x1 ++ rngK a1 a2 ((allK nt.erase).drop i) = r1) ∧ Aside0 (x2 ++ rngV a1 a2 ((allK nt.erase).drop i) ((allV nt.erase).drop i) = r2) ∧ Aside0 (SR w' w5.heap.size u1 x1) ∧ Aside0 (SR w' w5.heap.size u2 x2) ∧ Aside0 (NeRow u1 u2) ∧ Aside0 (Below w5.heap.size w5 w'))
        case atStart => exact ⟨0, [], [], by first | rfl | (simp; done), ⟨by omega⟩, HR1, HR2', ⟨by exact rk_ HO1'.out⟩, ⟨by exact rk_ HO2'.out⟩, HNE', ⟨be_ HB.out⟩⟩
        case round =>
          clear HR1 HR2' HO1' HO2' HNE' HB
          obtain ⟨i, x1, x2, rfl, HK, HR1, HR2, HO1, HO2, HNE, HB⟩ := hrel
          have ci : (0 ≤ (i : Int)) = True := eq_true (by omega)
          by_cases hi : i < (allK nt.erase).length
          · have ce : decide ((i : Int) < ((allK nt.erase).length : Int)) = true := decide_eq_true (by omega)
            have cee : ((i : Int) < ((allK nt.erase).length : Int)) = True := eq_true (by omega)
            have ceb : (i < (allK nt.erase).length) = True := eq_true hi
            have hil : i < 4000000000000 := by omega
            have hiv : i < (allV nt.erase).length := by rw [HVK.out]; exact hi
            have cva : ((i : Int) < ((allV nt.erase).length : Int)) = True := eq_true (by omega)
            have cvb : (i < (allV nt.erase).length) = True := eq_true hiv
            have HI := Aside0.mk hi
            obtain ⟨adk, hA1, hk5⟩ := Kd.at_string HC1.out (i : Int) (by omega) (by omega)
            obtain ⟨adv, hA2, hv5⟩ := Kd.at_string HC2.out (i : Int) (by omega) (by omega)
            subst hA1
            subst hA2
            rw [Int.toNat_natCast] at hk5 hv5
            have hks : (allK nt.erase)[i]? = some (rdOf ByteArray.empty (allK nt.erase) (i : Int)) := by unfold rdOf; rw [Int.toNat_natCast, List.getD_eq_getElem?_getD, List.getElem?_eq_getElem hi]; rfl
            have hvs : (allV nt.erase)[i]? = some (rdOf ByteArray.empty (allV nt.erase) (i : Int)) := by unfold rdOf; rw [Int.toNat_natCast, List.getD_eq_getElem?_getD, List.getElem?_eq_getElem hiv]; rfl
            generalize rdOf ByteArray.empty (allK nt.erase) (i : Int) = kx at hk5 hks
            generalize rdOf ByteArray.empty (allV nt.erase) (i : Int) = vx at hv5 hvs
            have HV0 := Aside0.mk hv5
            have hk0 := (HB.out.cell (World.block_lt_of_cell? w5 _ hk5)).trans hk5
            have HKS := Aside0.mk hks
            have HVS := Aside0.mk hvs
            clear hks hvs hi hiv hk5 hv5
            cases hin : inB a1 a2 kx with
            | true =>
              have HIN := Aside0.mk ((inB_f a1 a2 kx).trans (by rw [hin]))
              obtain ⟨e1, e2⟩ := rng_on HKS.out HVS.out hin
              have HE1 := Aside0.mk (app_rest (x := [kx]) HR1.out e1)
              have HE2 := Aside0.mk (app_rest (x := [vx]) HR2.out e2)
              have HZ1 := Aside0.mk (show x1.length + 1 ≤ 8796093022208 from app_len (x := [kx]) HR1.out e1 HL1.out)
              have HZ2 := Aside0.mk (show x2.length + 1 ≤ 8796093022208 from app_len (x := [vx]) HR2.out e2 HL2.out)
              clear hin e1 e2 HR1 HR2
              go_wp2_with (first | (go_at_call 71; (with_reducible refine (spec_l7In.calls kx a1 a2 true _ HIN.out).mono ?_); rintro e w' ⟨rfl, ⟨nd, rfl⟩⟩) | ((with_reducible refine gate_builtin (b := .append) (xs := #[.tmp 46, .tmp 48]) rfl ?_); at_builtin; refine Kd.R_append Kd.string (w0 := w5) w5.heap.size rfl (.tmp 46) (.tmp 48) 38 9 (.string ⟨#[]⟩) 16 rfl Try.underlying38 info9 rfl (by decide) (by omega) u13 x1 kx [.string kx] (fun _ => True) (fun _ => False) rfl rfl ?aP (fun _ hk => hk.elim) ?aF ?aO ?aB ?aS ?aL ?_; (case aP => exact rfl); (case aB => exact be_ HB.out); (case aF => exact fun _ _ => trivial); (case aO => exact rk_ HO1.out); (case aS => exact bw_ HB.out); (case aL => have := HZ1.out; omega); intro u1' w7 ho hb hg hat; have n1_ := Aside0.mk ho; have n2_ := Aside0.mk (SR.far (SR.ofR (rk_ HO2.out)) hg (neSymm HNE.out)); have n3_ := Aside0.mk (SR.ne (SR.ofR (rk_ HO2.out)) hat HNE.out); have n4_ := Aside0.mk hb; have hzv' := (hb.cell (World.block_lt_of_cell? w5 _ HV0.out)).trans HV0.out; clear HO1 HO2 HNE HB; have HO1 := n1_; have HO2 := n2_; have HNE := n3_; have HB := n4_; clear n1_ n2_ n3_ n4_ ho hb hg hat) | ((with_reducible refine gate_builtin (b := .append) (xs := #[.tmp 50, .tmp 55]) rfl ?_); at_builtin; refine Kd.R_append Kd.string (w0 := w5) w5.heap.size rfl (.tmp 50) (.tmp 55) 38 9 (.string ⟨#[]⟩) 16 rfl Try.underlying38 info9 rfl (by decide) (by omega) u14 x2 vx [.string vx] (fun _ => True) (fun _ => False) rfl rfl ?aP (fun _ hk => hk.elim) ?aF ?aO ?aB ?aS ?aL ?_; (case aP => exact rfl); (case aB => exact be_ HB.out); (case aF => exact fun _ _ => trivial); (case aO => exact rk_ HO2.out); (case aS => exact bw_ HB.out); (case aL => have := HZ2.out; omega); intro u2' w8 ho hb hg hat; have n1_ := Aside0.mk ho; have n2_ := Aside0.mk (SR.far (SR.ofR (rk_ HO1.out)) hg HNE.out); have n3_ := Aside0.mk (neSymm (SR.ne (SR.ofR (rk_ HO1.out)) hat (neSymm HNE.out))); have n4_ := Aside0.mk hb; clear HO1 HO2 HNE HB; have HO2 := n1_; have HO1 := n2_; have HNE := n3_; have HB := n4_; clear n1_ n2_ n3_ n4_ ho hb hg hat))
              go_roundg ((allK nt.erase).length - (i + 1))
              case measure => have := HK.out; have := HI.out; omega
              case rel => exact ⟨i + 1, _, _, by first | rfl | go_num | (simp; done), ⟨by have := HK.out; have := HI.out; omega⟩, HE1, HE2, ⟨SR.ofR (rk_ HO1.out)⟩, ⟨SR.ofR (rk_ HO2.out)⟩, HNE, ⟨be_ HB.out⟩⟩
            | false =>
              have HIN := Aside0.mk ((inB_f a1 a2 kx).trans (by rw [hin]))
              obtain ⟨e1, e2⟩ := rng_off HKS.out HVS.out hin
              have HE1 := Aside0.mk (HR1.out); rw [e1] at HE1
              have HE2 := Aside0.mk (HR2.out); rw [e2] at HE2
              clear hin e1 e2 HR1 HR2
              go_wp2_with (first | (go_at_call 71; (with_reducible refine (spec_l7In.calls kx a1 a2 false _ HIN.out).mono ?_); rintro e w' ⟨rfl, ⟨nd, rfl⟩⟩))
              go_roundg ((allK nt.erase).length - (i + 1))
              case measure => have := HK.out; have := HI.out; omega
              case rel => exact ⟨i + 1, _, _, by first | rfl | go_num | (simp; done), ⟨by have := HK.out; have := HI.out; omega⟩, HE1, HE2, ⟨SR.ofR (rk_ HO1.out)⟩, ⟨SR.ofR (rk_ HO2.out)⟩, HNE, ⟨be_ HB.out⟩⟩
          · have ce : decide ((i : Int) < ((allK nt.erase).length : Int)) = false := decide_eq_false (by omega)
            have ceb : (i < (allK nt.erase).length) = False := eq_false hi
            have e1 : x1 = r1 := by rw [← HR1.out, List.drop_eq_nil_of_le (by omega)]; simp [rngK]
            have e2 : x2 = r2 := by rw [← HR2.out, List.drop_eq_nil_of_le (by omega)]; simp [rngV]
            subst e1
            subst e2
            clear hi
            go_wp2
            go_ret3
            exact ⟨_, _, rfl, Kd.R_lower (SR.strong (SR.ofR (rk_ HO1.out)) HNE.out) HBA.out.size, Kd.R_lower (SR.strong (SR.ofR (rk_ HO2.out)) (neSymm HNE.out)) HBA.out.size, below_step HBA.out (be_ HB.out)⟩
  · rw [if_neg hok] at h
    cases h
theorem impl_RangeOf.calls (k : Nat) (A0_0 : Option Addr) (c0_0 : Nat) (l0_0 : List (S110)) (a1 a2 : ByteArray) (r1 : List ByteArray) (r2 : List ByteArray) (r3 : Bool) (w : World) (hr0_0 : Kd.C k110 w A0_0 l0_0.length l0_0) (hc0_0 : l0_0.length ≤ c0_0) (h : impl_RangeOf.f k l0_0 a1 a2 = some (r1, r2, r3)) :
    Calls Try.prog 35 #[.agg #[.slice A0_0 l0_0.length c0_0], .string a1, .string a2] w fun e w' => ∃ v0_ v1_ : Value, e = .returned (.tuple #[v0_, v1_, .bool r3]) ∧ Kd.R Kd.string 9 w' w.heap.size (fun k_ => some k_ ≠ (v1_ : Value).ownBlock) v0_ r1 ∧ Kd.R Kd.string 9 w' w.heap.size (fun k_ => some k_ ≠ (v0_ : Value).ownBlock) v1_ r2 ∧ Below w.heap.size w w' := by
  unfold impl_RangeOf.f at h
  have HP := Aside0.mk hr0_0
  clear hr0_0 hc0_0
  by_cases hok : okP l0_0 = true
  · rw [if_pos hok] at h
    have HNP := Aside0.mk (okP_parts hok).1
    have HM := Aside0.mk (okP_parts hok).2
    obtain ⟨o, hrs, h⟩ := Option.bind_eq_some_iff.mp h
    cases o with
    | none =>
      injection h with h
      injection h with e1 h
      injection h with e2 e3
      subst e1
      subst e2
      subst e3
      have HRS := Aside0.mk hrs
      clear hrs hok
      go_enter Try.func35, Try.ntmps35
      go_wp2_with (first | ((with_reducible refine gate_dst (N := 3) rfl ?_); refine box_event ?hg (N := 3) ?hd (cs := #[.slice A0_0 l0_0.length c0_0]) (t := 29) ?hr ?_; (case hd => rfl); (case hg => rfl); (case hr => first | (go_simp; done) | (go_simp; rfl)); intro b3 hg w1 hbox hb; have HB := Aside0.mk hb; have hz3 : w1.cell? ⟨b3, 0, none⟩ = some (.slice A0_0 l0_0.length c0_0) := (blk_cell hbox 0).trans rfl; clear hg hbox hb) | (go_at_call 59; (with_reducible refine (impl_root.calls k l0_0 HNP.out A0_0 c0_0 _ (Kd.C_below HP.out HB.out) HM.out _ HRS.out).mono ?_); rintro e w2 ⟨hb, hr⟩; obtain ⟨-, rfl⟩ := hr.resolve_right (by rintro ⟨_, h, _⟩; cases h); have n1_ := Aside0.mk (below_step HB.out hb); clear HB; have HB := n1_; clear n1_ hb hr hz3))
      go_ret3
      exact ⟨_, _, rfl, Kd.R_nil _ _ _ _ _, Kd.R_nil _ _ _ _ _, (by repeat (first | (with_reducible exact HB.out) | (with_reducible apply pw_below_drewN) | (with_reducible apply below_drew1)))⟩
    | some t =>
      have HRS := Aside0.mk hrs
      have HSH := Aside0.mk (rootI_shp hrs)
      have HLN := Aside0.mk (rootI_len hrs HNP.out)
      have HZ1 := Aside0.mk (show (allK t).length ≤ 8796093022208 by have := HLN.out; omega)
      have HZ2 := Aside0.mk (show (allV t).length ≤ 8796093022208 by rw [allV_len HSH.out]; have := HLN.out; omega)
      have hln : (allK t).length ≤ 4000000000000 := HLN.out
      have HVK := Aside0.mk (allV_len HSH.out)
      replace h := Option.bind_eq_some_iff.mp h
      obtain ⟨g, hg0, h⟩ := h
      have HG := Aside0.mk hg0
      clear hrs hok hg0
      cases g with
      | false =>
        rw [if_neg (by decide)] at h
        injection h with h
        injection h with e1 h
        injection h with e2 e3
        subst e1
        subst e2
        subst e3
        go_enter Try.func35, Try.ntmps35
        go_wp2_with (first | ((with_reducible refine gate_dst (N := 3) rfl ?_); refine box_event ?hg (N := 3) ?hd (cs := #[.slice A0_0 l0_0.length c0_0]) (t := 29) ?hr ?_; (case hd => rfl); (case hg => rfl); (case hr => first | (go_simp; done) | (go_simp; rfl)); intro b3 hg w1 hbox hb; have HB := Aside0.mk hb; have hz3 : w1.cell? ⟨b3, 0, none⟩ = some (.slice A0_0 l0_0.length c0_0) := (blk_cell hbox 0).trans rfl; clear hg hbox hb) | (go_at_call 59; (with_reducible refine (impl_root.calls k l0_0 HNP.out A0_0 c0_0 _ (Kd.C_below HP.out HB.out) HM.out _ HRS.out).mono ?_); rintro e w2 ⟨hb, hr⟩; obtain ⟨nt, h9, rfl, hs⟩ := hr.resolve_left (by rintro ⟨h, _⟩; cases h); injection h9 with h9; subst h9; have HR2 := Aside0.mk (rd_of hs); have n1_ := Aside0.mk (below_step HB.out hb); clear HB; have HB := n1_; clear n1_ hb hr hs hz3) | (go_at_call 72; (with_reducible refine (impl_isRange.calls a1 a2 false _ HG.out).mono ?_); rintro e w' ⟨rfl, ⟨nd, rfl⟩⟩))
        go_ret3
        exact ⟨_, _, rfl, Kd.R_nil _ _ _ _ _, Kd.R_nil _ _ _ _ _, (by repeat (first | (with_reducible exact HB.out) | (with_reducible apply pw_below_drewN) | (with_reducible apply below_drew1)))⟩
      | true =>
        rw [if_pos rfl] at h
        obtain ⟨lo, hlo, h⟩ := Option.bind_eq_some_iff.mp h
        obtain ⟨x, hx, h⟩ := Option.bind_eq_some_iff.mp h
        have HLO := Aside0.mk hlo
        have HX := Aside0.mk hx
        clear hlo hx
        by_cases cb : 0 ≤ lo ∧ lo ≤ ((allK t).length : Int) ∧ x ≤ ((allK t).length : Int)
        · rw [if_pos cb] at h
          obtain ⟨hi, hhi⟩ : ∃ y : Int, y = (if lo < x then x else lo) := ⟨_, rfl⟩
          rw [← hhi] at h
          have hb1 : lo ≤ hi := by rw [hhi]; split <;> omega
          have hb2 : hi ≤ ((allK t).length : Int) := by rw [hhi]; split <;> omega
          have HHI := Aside0.mk hhi
          have HCB := Aside0.mk cb.1
          have HB1 := Aside0.mk hb1
          have HB2 := Aside0.mk hb2
          injection h with h
          injection h with e1 h
          injection h with e2 e3
          subst e3
          have HE1 := Aside0.mk e1
          have HE2 := Aside0.mk e2
          clear e1 e2
          clear cb hb1 hb2
          by_cases cx : lo < x
          · obtain rfl : hi = x := by rw [hhi, if_pos cx]
            have tx : decide (lo < hi) = true := decide_eq_true cx
            have tx2 : (lo < hi) = True := eq_true cx
            clear hhi cx
            go_enter Try.func35, Try.ntmps35
            go_upto_region 7 with (first | ((with_reducible refine gate_dst (N := 3) rfl ?_); refine box_event ?hg (N := 3) ?hd (cs := #[.slice A0_0 l0_0.length c0_0]) (t := 29) ?hr ?_; (case hd => rfl); (case hg => rfl); (case hr => first | (go_simp; done) | (go_simp; rfl)); intro b3 hg w1 hbox hb; have HB := Aside0.mk hb; have hz3 : w1.cell? ⟨b3, 0, none⟩ = some (.slice A0_0 l0_0.length c0_0) := (blk_cell hbox 0).trans rfl; clear hg hbox hb) | (go_at_call 59; (with_reducible refine (impl_root.calls k l0_0 HNP.out A0_0 c0_0 _ (Kd.C_below HP.out HB.out) HM.out _ HRS.out).mono ?_); rintro e w2 ⟨hb, hr⟩; obtain ⟨nt, h9, rfl, hs⟩ := hr.resolve_left (by rintro ⟨h, _⟩; cases h); injection h9 with h9; subst h9; have HR2 := Aside0.mk (rd_of hs); have n1_ := Aside0.mk (below_step HB.out hb); clear HB; have HB := n1_; clear n1_ hb hr hs hz3) | (go_at_call 72; (with_reducible refine (impl_isRange.calls a1 a2 true _ HG.out).mono ?_); rintro e w' ⟨rfl, ⟨nd, rfl⟩⟩) | (go_at_call 66; (with_reducible refine (impl_all.calls0 nt.erase HSH.out _ ?side1 HZ1.out HZ2.out).mono ?_); (case side1 => repeat (first | exact HR2.out | (with_reducible refine Rd.drewN ?_ _) | (with_reducible refine Rd.drew ?_))); rintro e w5 ⟨u1, u2, rfl, ho1, ho2, hne, hb⟩; have HO1 := Aside0.mk (Kd.R_lower ho1 (show w.heap.size ≤ _ from HB.out.size)); have HO2 := Aside0.mk (Kd.R_lower ho2 (show w.heap.size ≤ _ from HB.out.size)); have HNE := Aside0.mk hne; have n1_ := Aside0.mk (below_step (by repeat (first | (with_reducible exact HB.out) | (with_reducible apply pw_below_drewN) | (with_reducible apply below_drew1))) hb); clear HB; have HB := n1_; clear n1_ hb ho1 ho2 hne; obtain ⟨B1, d1, rfl, hl1, hc1⟩ := Kd.R_reads HO1.out; obtain ⟨B2, d2, rfl, hl2, hc2⟩ := Kd.R_reads HO2.out; have HC1 := Aside0.mk hc1; have HC2 := Aside0.mk hc2; have HD1 := Aside0.mk hl1; have HD2 := Aside0.mk hl2; clear hl1 hl2 hc1 hc2) | (go_at_call 73; (with_reducible refine (impl_less.calls k B1 d1 (allK nt.erase) a1 lo _ ?side1 HD1.out HLO.out).mono ?_); (case side1 => repeat (first | (with_reducible exact HC1.out) | (with_reducible refine Kd.C_drewN ?_ _) | (with_reducible refine Kd.C_drew ?_) | exact HC1.out)); rintro e w' ⟨rfl, ⟨nd, rfl⟩⟩) | (go_at_call 73; (with_reducible refine (impl_less.calls k B1 d1 (allK nt.erase) a2 hi _ ?side1 HD1.out HX.out).mono ?_); (case side1 => repeat (first | (with_reducible exact HC1.out) | (with_reducible refine Kd.C_drewN ?_ _) | (with_reducible refine Kd.C_drew ?_) | exact HC1.out)); rintro e w' ⟨rfl, ⟨nd, rfl⟩⟩))
            generalize hW : World.drewN w5 _ = w6
            have n1_ := Aside0.mk (show Below w.heap.size w w6 by rw [← hW]; exact pw_below_drewN HB.out _)
            have n2_ : Aside0 (Kd.C Kd.string w6 B1 (allK nt.erase).length (allK nt.erase)) := ⟨by rw [← hW]; exact Kd.C_drewN HC1.out _⟩
            have n3_ : Aside0 (Kd.C Kd.string w6 B2 (allV nt.erase).length (allV nt.erase)) := ⟨by rw [← hW]; exact Kd.C_drewN HC2.out _⟩
            clear HB HC1 HC2 HO1 HO2 HNE hW
            have HB := n1_
            obtain ⟨i0, hi0, _, hsz, _⟩ := info_parts info9
            have hcutK := cut_mid (P := Try.prog) 38 9 .i64 .i64 Try.underlying38 hi0 1 hsz B1 (allK nt.erase).length d1 lo hi HCB.out HB1.out HB2.out HD1.out
            have hcutV := cut_mid (P := Try.prog) 38 9 .i64 .i64 Try.underlying38 hi0 1 hsz B2 (allV nt.erase).length d2 lo hi HCB.out HB1.out (by rw [HVK.out]; exact HB2.out) HD2.out
            obtain ⟨A1, hA1⟩ : ∃ A1, A1 = (if d1 = lo.toNat then B1 else B1.map (·.add (lo.toNat * 1))) := ⟨_, rfl⟩
            obtain ⟨A2, hA2⟩ : ∃ A2, A2 = (if d2 = lo.toNat then B2 else B2.map (·.add (lo.toNat * 1))) := ⟨_, rfl⟩
            obtain ⟨c1, hc1⟩ : ∃ c1, c1 = d1 - lo.toNat := ⟨_, rfl⟩
            obtain ⟨c2, hc2⟩ : ∃ c2, c2 = d2 - lo.toNat := ⟨_, rfl⟩
            have hq := HB2.out
            have hv := HVK.out
            have hp := HB1.out
            have hd1 := HD1.out
            have hd2 := HD2.out
            have hy1 : r1.length = hi.toNat - lo.toNat := by rw [← HE1.out, List.length_drop, List.length_take]; omega
            have hy2 : r2.length = hi.toNat - lo.toNat := by rw [← HE2.out, List.length_drop, List.length_take]; omega
            have hr1 : Kd.C Kd.string w6 A1 r1.length r1 := by rw [hA1, ← HE1.out]; exact Kd.C_mid n2_.out (by omega) (by omega) hd1
            have hr2 : Kd.C Kd.string w6 A2 r2.length r2 := by rw [hA2, ← HE2.out]; exact Kd.C_mid n3_.out (by omega) (by omega) hd2
            rw [← hy1, ← hA1, ← hc1] at hcutK
            rw [← hy2, ← hA2, ← hc2] at hcutV
            have HQ1 := Aside0.mk (show r1.length ≤ c1 by omega)
            have HQ2 := Aside0.mk (show r2.length ≤ c2 by omega)
            have HL1 := Aside0.mk (show r1.length < 8796093022208 by omega)
            have HL2 := Aside0.mk (show r2.length < 8796093022208 by omega)
            have HR1 := Aside0.mk hr1
            have HR2' := Aside0.mk hr2
            clear hi0 hsz hA1 hA2 hc1 hc2 hq hv hp hd1 hd2 hy1 hy2 hr1 hr2 n1_ n2_ n3_
            refine start_ (n := 13) (S := fun w' => True) (ds := []) #[false, false, false, false, false, false, false, false, false, false, false, false, false] (by kernel_rfl) rfl rfl trivial (fun hHeld => ?_)
            refine pure_ (i := 0) (N := some 41) (v := ?_) (a' := ?_) #[true, false, false, false, false, false, false, false, false, false, false, false, false] rfl rfl (by kernel_rfl) (fun _ _ _ h => h) (Or.inl ⟨by rfl, ?_⟩) ?_ ?_
            rotate_left
            · intro w'
              go_simp
              with_reducible rfl
            rotate_left
            · simp only [Act.put, List.setIfInBounds_toArray, List.set_cons_zero, List.set_cons_succ, i64_w, i32_w]
              rfl
            refine pure_ (i := 1) (N := some 42) (v := ?_) (a' := ?_) #[true, true, false, false, false, false, false, false, false, false, false, false, false] rfl rfl (by kernel_rfl) (fun _ _ _ h => h) (Or.inl ⟨by rfl, ?_⟩) ?_ ?_
            rotate_left
            · intro w'
              go_simp
              with_reducible rfl
            rotate_left
            · simp only [Act.put, List.setIfInBounds_toArray, List.set_cons_zero, List.set_cons_succ, i64_w, i32_w]
              rfl
            refine pure_ (i := 2) (N := some 43) (v := ?_) (a' := ?_) #[true, true, true, false, false, false, false, false, false, false, false, false, false] rfl rfl (by kernel_rfl) (fun _ _ _ h => h) (Or.inl ⟨by rfl, ?_⟩) ?_ ?_
            rotate_left
            · intro w'
              go_simp
              with_reducible rfl
            rotate_left
            · simp only [Act.put, List.setIfInBounds_toArray, List.set_cons_zero, List.set_cons_succ, i64_w, i32_w]
              rfl
            refine pure_ (i := 3) (N := some 44) (v := ?_) (a' := ?_) #[true, true, true, true, false, false, false, false, false, false, false, false, false] rfl rfl (by kernel_rfl) (fun _ _ _ h => h) (Or.inl ⟨by rfl, ?_⟩) ?_ ?_
            rotate_left
            · intro w'
              go_simp
              with_reducible rfl
            rotate_left
            · simp only [Act.put, List.setIfInBounds_toArray, List.set_cons_zero, List.set_cons_succ, i64_w, i32_w]
              rfl
            refine pure_ (i := 5) (N := some 46) (v := ?_) (a' := ?_) #[true, true, true, true, false, true, false, false, false, false, false, false, false] rfl rfl (by kernel_rfl) (fun _ _ _ h => h) (Or.inl ⟨by rfl, ?_⟩) ?_ ?_
            rotate_left
            · intro w'
              go_simp
              with_reducible rfl
            rotate_left
            · simp only [Act.put, List.setIfInBounds_toArray, List.set_cons_zero, List.set_cons_succ, i64_w, i32_w]
              rfl
            refine pure_ (i := 6) (N := some 47) (v := ?_) (a' := ?_) #[true, true, true, true, false, true, true, false, false, false, false, false, false] rfl rfl (by kernel_rfl) (fun _ _ _ h => h) (Or.inl ⟨by rfl, ?_⟩) ?_ ?_
            rotate_left
            · intro w'
              go_simp
              with_reducible rfl
            rotate_left
            · simp only [Act.put, List.setIfInBounds_toArray, List.set_cons_zero, List.set_cons_succ, i64_w, i32_w]
              rfl
            refine pure_ (i := 7) (N := some 48) (v := ?_) (a' := ?_) #[true, true, true, true, false, true, true, true, false, false, false, false, false] rfl rfl (by kernel_rfl) (fun _ _ _ h => h) (Or.inl ⟨by rfl, ?_⟩) ?_ ?_
            rotate_left
            · intro w'
              go_simp
              with_reducible rfl
            rotate_left
            · simp only [Act.put, List.setIfInBounds_toArray, List.set_cons_zero, List.set_cons_succ, i64_w, i32_w]
              rfl
            refine pure_ (i := 8) (N := some 49) (v := ?_) (a' := ?_) #[true, true, true, true, false, true, true, true, true, false, false, false, false] rfl rfl (by kernel_rfl) (fun _ _ _ h => h) (Or.inl ⟨by rfl, ?_⟩) ?_ ?_
            rotate_left
            · intro w'
              go_simp
              with_reducible rfl
            rotate_left
            · simp only [Act.put, List.setIfInBounds_toArray, List.set_cons_zero, List.set_cons_succ, i64_w, i32_w]
              rfl
            refine one_ (i := 4) (N := some 45) #[true, true, true, true, true, true, true, true, true, false, false, false, false] rfl rfl (by kernel_rfl) (by decide) (fun K hK => ?_)
            refine goes_ Try.func74 (by kernel_rfl) rfl #[.slice A1 r1.length c1] (by rfl) rfl rfl (by simp only [List.map_toArray, List.map_cons, List.map_nil]; rfl) ?_
            with_reducible refine (slices_Clone_string_string.calls A1 c1 r1 r1 _ (Kd.C_drew HR1.out) HQ1.out (clone_some HL1.out)).mono ?_
            rintro e w7 ⟨v0, rfl, ho, hb⟩
            refine ⟨_, rfl, ?_⟩
            obtain ⟨Av0, cv0, rfl⟩ := Kd.R_slice ho
            have HBA := Aside0.mk (show w.heap.size ≤ w6.heap.size from HB.out.size)
            have HBB := Aside0.mk (show w6.heap.size ≤ w7.heap.size from hb.size)
            have HO0 := Aside0.mk ho
            have HR2 := Aside0.mk (Kd.C_below (Kd.C_drew HR2'.out) hb)
            have n1_ := Aside0.mk (below_step (below_drew HB.out) hb)
            clear HB ho hb
            have HB := n1_
            clear n1_
            refine hK.out _ _ trivial (fun hHeld => ?_)
            clear hK K
            refine norm_ (a' := ?_) ?_ ?_
            rotate_left
            · show Act.put _ (some 45) _ = _
              simp only [Act.put, List.setIfInBounds_toArray, List.set_cons_zero, List.set_cons_succ, i64_w, i32_w]
              rfl
            refine one_ (i := 9) (N := some 50) #[true, true, true, true, true, true, true, true, true, true, false, false, false] rfl rfl (by kernel_rfl) (by decide) (fun K hK => ?_)
            refine goes_ Try.func74 (by kernel_rfl) rfl #[.slice A2 r2.length c2] (by rfl) rfl rfl (by simp only [List.map_toArray, List.map_cons, List.map_nil]; rfl) ?_
            with_reducible refine (slices_Clone_string_string.calls A2 c2 r2 r2 _ HR2.out HQ2.out (clone_some HL2.out)).mono ?_
            rintro e w8 ⟨v1, rfl, ho, hb⟩
            refine ⟨_, rfl, ?_⟩
            obtain ⟨Av1, cv1, rfl⟩ := Kd.R_slice ho
            have HNE := Aside0.mk (neLate HO0.out ho)
            have n2_ := Aside0.mk (Kd.R_below HO0.out hb)
            have HO1 := Aside0.mk ho
            have n1_ := Aside0.mk (below_step HB.out hb)
            clear HB HO0 ho hb
            have HB := n1_
            have HO0 := n2_
            clear n1_ n2_
            refine hK.out _ _ trivial (fun hHeld => ?_)
            clear hK K
            refine norm_ (a' := ?_) ?_ ?_
            rotate_left
            · show Act.put _ (some 50) _ = _
              simp only [Act.put, List.setIfInBounds_toArray, List.set_cons_zero, List.set_cons_succ, i64_w, i32_w]
              rfl
            refine pure_ (i := 10) (N := some 6) (v := ?_) (a' := ?_) #[true, true, true, true, true, true, true, true, true, true, true, false, false] rfl rfl (by kernel_rfl) (fun _ _ _ h => h) (Or.inl ⟨by rfl, ?_⟩) ?_ ?_
            rotate_left
            · intro w'
              go_simp
              with_reducible rfl
            rotate_left
            · simp only [Act.put, List.setIfInBounds_toArray, List.set_cons_zero, List.set_cons_succ, i64_w, i32_w]
              rfl
            refine pure_ (i := 11) (N := some 7) (v := ?_) (a' := ?_) #[true, true, true, true, true, true, true, true, true, true, true, true, false] rfl rfl (by kernel_rfl) (fun _ _ _ h => h) (Or.inl ⟨by rfl, ?_⟩) ?_ ?_
            rotate_left
            · intro w'
              go_simp
              with_reducible rfl
            rotate_left
            · simp only [Act.put, List.setIfInBounds_toArray, List.set_cons_zero, List.set_cons_succ, i64_w, i32_w]
              rfl
            refine pure_ (i := 12) (N := some 8) (v := ?_) (a' := ?_) #[true, true, true, true, true, true, true, true, true, true, true, true, true] rfl rfl (by kernel_rfl) (fun _ _ _ h => h) (Or.inl ⟨by rfl, ?_⟩) ?_ ?_
            rotate_left
            · intro w'
              go_simp
              with_reducible rfl
            rotate_left
            · simp only [Act.put, List.setIfInBounds_toArray, List.set_cons_zero, List.set_cons_succ, i64_w, i32_w]
              rfl
            refine done_ (by kernel_rfl) ?_
            go_wp2
            go_ret3
            exact ⟨_, _, rfl, Kd.R_lower (SR.strong (SR.ofR (rk_ HO0.out)) HNE.out) HBA.out, Kd.R_lower (SR.strong (SR.ofR (rk_ HO1.out)) (neSymm HNE.out)) (Nat.le_trans HBA.out HBB.out), be_ HB.out⟩
          · obtain rfl : hi = lo := by rw [hhi, if_neg cx]
            have tx : decide (hi < x) = false := decide_eq_false cx
            have tx2 : (hi < x) = False := eq_false cx
            clear hhi cx
            go_enter Try.func35, Try.ntmps35
            go_upto_region 7 with (first | ((with_reducible refine gate_dst (N := 3) rfl ?_); refine box_event ?hg (N := 3) ?hd (cs := #[.slice A0_0 l0_0.length c0_0]) (t := 29) ?hr ?_; (case hd => rfl); (case hg => rfl); (case hr => first | (go_simp; done) | (go_simp; rfl)); intro b3 hg w1 hbox hb; have HB := Aside0.mk hb; have hz3 : w1.cell? ⟨b3, 0, none⟩ = some (.slice A0_0 l0_0.length c0_0) := (blk_cell hbox 0).trans rfl; clear hg hbox hb) | (go_at_call 59; (with_reducible refine (impl_root.calls k l0_0 HNP.out A0_0 c0_0 _ (Kd.C_below HP.out HB.out) HM.out _ HRS.out).mono ?_); rintro e w2 ⟨hb, hr⟩; obtain ⟨nt, h9, rfl, hs⟩ := hr.resolve_left (by rintro ⟨h, _⟩; cases h); injection h9 with h9; subst h9; have HR2 := Aside0.mk (rd_of hs); have n1_ := Aside0.mk (below_step HB.out hb); clear HB; have HB := n1_; clear n1_ hb hr hs hz3) | (go_at_call 72; (with_reducible refine (impl_isRange.calls a1 a2 true _ HG.out).mono ?_); rintro e w' ⟨rfl, ⟨nd, rfl⟩⟩) | (go_at_call 66; (with_reducible refine (impl_all.calls0 nt.erase HSH.out _ ?side1 HZ1.out HZ2.out).mono ?_); (case side1 => repeat (first | exact HR2.out | (with_reducible refine Rd.drewN ?_ _) | (with_reducible refine Rd.drew ?_))); rintro e w5 ⟨u1, u2, rfl, ho1, ho2, hne, hb⟩; have HO1 := Aside0.mk (Kd.R_lower ho1 (show w.heap.size ≤ _ from HB.out.size)); have HO2 := Aside0.mk (Kd.R_lower ho2 (show w.heap.size ≤ _ from HB.out.size)); have HNE := Aside0.mk hne; have n1_ := Aside0.mk (below_step (by repeat (first | (with_reducible exact HB.out) | (with_reducible apply pw_below_drewN) | (with_reducible apply below_drew1))) hb); clear HB; have HB := n1_; clear n1_ hb ho1 ho2 hne; obtain ⟨B1, d1, rfl, hl1, hc1⟩ := Kd.R_reads HO1.out; obtain ⟨B2, d2, rfl, hl2, hc2⟩ := Kd.R_reads HO2.out; have HC1 := Aside0.mk hc1; have HC2 := Aside0.mk hc2; have HD1 := Aside0.mk hl1; have HD2 := Aside0.mk hl2; clear hl1 hl2 hc1 hc2) | (go_at_call 73; (with_reducible refine (impl_less.calls k B1 d1 (allK nt.erase) a1 hi _ ?side1 HD1.out HLO.out).mono ?_); (case side1 => repeat (first | (with_reducible exact HC1.out) | (with_reducible refine Kd.C_drewN ?_ _) | (with_reducible refine Kd.C_drew ?_) | exact HC1.out)); rintro e w' ⟨rfl, ⟨nd, rfl⟩⟩) | (go_at_call 73; (with_reducible refine (impl_less.calls k B1 d1 (allK nt.erase) a2 x _ ?side1 HD1.out HX.out).mono ?_); (case side1 => repeat (first | (with_reducible exact HC1.out) | (with_reducible refine Kd.C_drewN ?_ _) | (with_reducible refine Kd.C_drew ?_) | exact HC1.out)); rintro e w' ⟨rfl, ⟨nd, rfl⟩⟩))
            generalize hW : World.drewN w5 _ = w6
            have n1_ := Aside0.mk (show Below w.heap.size w w6 by rw [← hW]; exact pw_below_drewN HB.out _)
            have n2_ : Aside0 (Kd.C Kd.string w6 B1 (allK nt.erase).length (allK nt.erase)) := ⟨by rw [← hW]; exact Kd.C_drewN HC1.out _⟩
            have n3_ : Aside0 (Kd.C Kd.string w6 B2 (allV nt.erase).length (allV nt.erase)) := ⟨by rw [← hW]; exact Kd.C_drewN HC2.out _⟩
            clear HB HC1 HC2 HO1 HO2 HNE hW
            have HB := n1_
            obtain ⟨i0, hi0, _, hsz, _⟩ := info_parts info9
            have hcutK := cut_mid (P := Try.prog) 38 9 .i64 .i64 Try.underlying38 hi0 1 hsz B1 (allK nt.erase).length d1 hi hi HCB.out HB1.out HB2.out HD1.out
            have hcutV := cut_mid (P := Try.prog) 38 9 .i64 .i64 Try.underlying38 hi0 1 hsz B2 (allV nt.erase).length d2 hi hi HCB.out HB1.out (by rw [HVK.out]; exact HB2.out) HD2.out
            obtain ⟨A1, hA1⟩ : ∃ A1, A1 = (if d1 = hi.toNat then B1 else B1.map (·.add (hi.toNat * 1))) := ⟨_, rfl⟩
            obtain ⟨A2, hA2⟩ : ∃ A2, A2 = (if d2 = hi.toNat then B2 else B2.map (·.add (hi.toNat * 1))) := ⟨_, rfl⟩
            obtain ⟨c1, hc1⟩ : ∃ c1, c1 = d1 - hi.toNat := ⟨_, rfl⟩
            obtain ⟨c2, hc2⟩ : ∃ c2, c2 = d2 - hi.toNat := ⟨_, rfl⟩
            have hq := HB2.out
            have hv := HVK.out
            have hp := HB1.out
            have hd1 := HD1.out
            have hd2 := HD2.out
            have hy1 : r1.length = hi.toNat - hi.toNat := by rw [← HE1.out, List.length_drop, List.length_take]; omega
            have hy2 : r2.length = hi.toNat - hi.toNat := by rw [← HE2.out, List.length_drop, List.length_take]; omega
            have hr1 : Kd.C Kd.string w6 A1 r1.length r1 := by rw [hA1, ← HE1.out]; exact Kd.C_mid n2_.out (by omega) (by omega) hd1
            have hr2 : Kd.C Kd.string w6 A2 r2.length r2 := by rw [hA2, ← HE2.out]; exact Kd.C_mid n3_.out (by omega) (by omega) hd2
            rw [← hy1, ← hA1, ← hc1] at hcutK
            rw [← hy2, ← hA2, ← hc2] at hcutV
            have HQ1 := Aside0.mk (show r1.length ≤ c1 by omega)
            have HQ2 := Aside0.mk (show r2.length ≤ c2 by omega)
            have HL1 := Aside0.mk (show r1.length < 8796093022208 by omega)
            have HL2 := Aside0.mk (show r2.length < 8796093022208 by omega)
            have HR1 := Aside0.mk hr1
            have HR2' := Aside0.mk hr2
            clear hi0 hsz hA1 hA2 hc1 hc2 hq hv hp hd1 hd2 hy1 hy2 hr1 hr2 n1_ n2_ n3_
            refine start_ (n := 13) (S := fun w' => True) (ds := []) #[false, false, false, false, false, false, false, false, false, false, false, false, false] (by kernel_rfl) rfl rfl trivial (fun hHeld => ?_)
            refine pure_ (i := 0) (N := some 41) (v := ?_) (a' := ?_) #[true, false, false, false, false, false, false, false, false, false, false, false, false] rfl rfl (by kernel_rfl) (fun _ _ _ h => h) (Or.inl ⟨by rfl, ?_⟩) ?_ ?_
            rotate_left
            · intro w'
              go_simp
              with_reducible rfl
            rotate_left
            · simp only [Act.put, List.setIfInBounds_toArray, List.set_cons_zero, List.set_cons_succ, i64_w, i32_w]
              rfl
            refine pure_ (i := 1) (N := some 42) (v := ?_) (a' := ?_) #[true, true, false, false, false, false, false, false, false, false, false, false, false] rfl rfl (by kernel_rfl) (fun _ _ _ h => h) (Or.inl ⟨by rfl, ?_⟩) ?_ ?_
            rotate_left
            · intro w'
              go_simp
              with_reducible rfl
            rotate_left
            · simp only [Act.put, List.setIfInBounds_toArray, List.set_cons_zero, List.set_cons_succ, i64_w, i32_w]
              rfl
            refine pure_ (i := 2) (N := some 43) (v := ?_) (a' := ?_) #[true, true, true, false, false, false, false, false, false, false, false, false, false] rfl rfl (by kernel_rfl) (fun _ _ _ h => h) (Or.inl ⟨by rfl, ?_⟩) ?_ ?_
            rotate_left
            · intro w'
              go_simp
              with_reducible rfl
            rotate_left
            · simp only [Act.put, List.setIfInBounds_toArray, List.set_cons_zero, List.set_cons_succ, i64_w, i32_w]
              rfl
            refine pure_ (i := 3) (N := some 44) (v := ?_) (a' := ?_) #[true, true, true, true, false, false, false, false, false, false, false, false, false] rfl rfl (by kernel_rfl) (fun _ _ _ h => h) (Or.inl ⟨by rfl, ?_⟩) ?_ ?_
            rotate_left
            · intro w'
              go_simp
              with_reducible rfl
            rotate_left
            · simp only [Act.put, List.setIfInBounds_toArray, List.set_cons_zero, List.set_cons_succ, i64_w, i32_w]
              rfl
            refine pure_ (i := 5) (N := some 46) (v := ?_) (a' := ?_) #[true, true, true, true, false, true, false, false, false, false, false, false, false] rfl rfl (by kernel_rfl) (fun _ _ _ h => h) (Or.inl ⟨by rfl, ?_⟩) ?_ ?_
            rotate_left
            · intro w'
              go_simp
              with_reducible rfl
            rotate_left
            · simp only [Act.put, List.setIfInBounds_toArray, List.set_cons_zero, List.set_cons_succ, i64_w, i32_w]
              rfl
            refine pure_ (i := 6) (N := some 47) (v := ?_) (a' := ?_) #[true, true, true, true, false, true, true, false, false, false, false, false, false] rfl rfl (by kernel_rfl) (fun _ _ _ h => h) (Or.inl ⟨by rfl, ?_⟩) ?_ ?_
            rotate_left
            · intro w'
              go_simp
              with_reducible rfl
            rotate_left
            · simp only [Act.put, List.setIfInBounds_toArray, List.set_cons_zero, List.set_cons_succ, i64_w, i32_w]
              rfl
            refine pure_ (i := 7) (N := some 48) (v := ?_) (a' := ?_) #[true, true, true, true, false, true, true, true, false, false, false, false, false] rfl rfl (by kernel_rfl) (fun _ _ _ h => h) (Or.inl ⟨by rfl, ?_⟩) ?_ ?_
            rotate_left
            · intro w'
              go_simp
              with_reducible rfl
            rotate_left
            · simp only [Act.put, List.setIfInBounds_toArray, List.set_cons_zero, List.set_cons_succ, i64_w, i32_w]
              rfl
            refine pure_ (i := 8) (N := some 49) (v := ?_) (a' := ?_) #[true, true, true, true, false, true, true, true, true, false, false, false, false] rfl rfl (by kernel_rfl) (fun _ _ _ h => h) (Or.inl ⟨by rfl, ?_⟩) ?_ ?_
            rotate_left
            · intro w'
              go_simp
              with_reducible rfl
            rotate_left
            · simp only [Act.put, List.setIfInBounds_toArray, List.set_cons_zero, List.set_cons_succ, i64_w, i32_w]
              rfl
            refine one_ (i := 4) (N := some 45) #[true, true, true, true, true, true, true, true, true, false, false, false, false] rfl rfl (by kernel_rfl) (by decide) (fun K hK => ?_)
            refine goes_ Try.func74 (by kernel_rfl) rfl #[.slice A1 r1.length c1] (by rfl) rfl rfl (by simp only [List.map_toArray, List.map_cons, List.map_nil]; rfl) ?_
            with_reducible refine (slices_Clone_string_string.calls A1 c1 r1 r1 _ (Kd.C_drew HR1.out) HQ1.out (clone_some HL1.out)).mono ?_
            rintro e w7 ⟨v0, rfl, ho, hb⟩
            refine ⟨_, rfl, ?_⟩
            obtain ⟨Av0, cv0, rfl⟩ := Kd.R_slice ho
            have HBA := Aside0.mk (show w.heap.size ≤ w6.heap.size from HB.out.size)
            have HBB := Aside0.mk (show w6.heap.size ≤ w7.heap.size from hb.size)
            have HO0 := Aside0.mk ho
            have HR2 := Aside0.mk (Kd.C_below (Kd.C_drew HR2'.out) hb)
            have n1_ := Aside0.mk (below_step (below_drew HB.out) hb)
            clear HB ho hb
            have HB := n1_
            clear n1_
            refine hK.out _ _ trivial (fun hHeld => ?_)
            clear hK K
            refine norm_ (a' := ?_) ?_ ?_
            rotate_left
            · show Act.put _ (some 45) _ = _
              simp only [Act.put, List.setIfInBounds_toArray, List.set_cons_zero, List.set_cons_succ, i64_w, i32_w]
              rfl
            refine one_ (i := 9) (N := some 50) #[true, true, true, true, true, true, true, true, true, true, false, false, false] rfl rfl (by kernel_rfl) (by decide) (fun K hK => ?_)
            refine goes_ Try.func74 (by kernel_rfl) rfl #[.slice A2 r2.length c2] (by rfl) rfl rfl (by simp only [List.map_toArray, List.map_cons, List.map_nil]; rfl) ?_
            with_reducible refine (slices_Clone_string_string.calls A2 c2 r2 r2 _ HR2.out HQ2.out (clone_some HL2.out)).mono ?_
            rintro e w8 ⟨v1, rfl, ho, hb⟩
            refine ⟨_, rfl, ?_⟩
            obtain ⟨Av1, cv1, rfl⟩ := Kd.R_slice ho
            have HNE := Aside0.mk (neLate HO0.out ho)
            have n2_ := Aside0.mk (Kd.R_below HO0.out hb)
            have HO1 := Aside0.mk ho
            have n1_ := Aside0.mk (below_step HB.out hb)
            clear HB HO0 ho hb
            have HB := n1_
            have HO0 := n2_
            clear n1_ n2_
            refine hK.out _ _ trivial (fun hHeld => ?_)
            clear hK K
            refine norm_ (a' := ?_) ?_ ?_
            rotate_left
            · show Act.put _ (some 50) _ = _
              simp only [Act.put, List.setIfInBounds_toArray, List.set_cons_zero, List.set_cons_succ, i64_w, i32_w]
              rfl
            refine pure_ (i := 10) (N := some 6) (v := ?_) (a' := ?_) #[true, true, true, true, true, true, true, true, true, true, true, false, false] rfl rfl (by kernel_rfl) (fun _ _ _ h => h) (Or.inl ⟨by rfl, ?_⟩) ?_ ?_
            rotate_left
            · intro w'
              go_simp
              with_reducible rfl
            rotate_left
            · simp only [Act.put, List.setIfInBounds_toArray, List.set_cons_zero, List.set_cons_succ, i64_w, i32_w]
              rfl
            refine pure_ (i := 11) (N := some 7) (v := ?_) (a' := ?_) #[true, true, true, true, true, true, true, true, true, true, true, true, false] rfl rfl (by kernel_rfl) (fun _ _ _ h => h) (Or.inl ⟨by rfl, ?_⟩) ?_ ?_
            rotate_left
            · intro w'
              go_simp
              with_reducible rfl
            rotate_left
            · simp only [Act.put, List.setIfInBounds_toArray, List.set_cons_zero, List.set_cons_succ, i64_w, i32_w]
              rfl
            refine pure_ (i := 12) (N := some 8) (v := ?_) (a' := ?_) #[true, true, true, true, true, true, true, true, true, true, true, true, true] rfl rfl (by kernel_rfl) (fun _ _ _ h => h) (Or.inl ⟨by rfl, ?_⟩) ?_ ?_
            rotate_left
            · intro w'
              go_simp
              with_reducible rfl
            rotate_left
            · simp only [Act.put, List.setIfInBounds_toArray, List.set_cons_zero, List.set_cons_succ, i64_w, i32_w]
              rfl
            refine done_ (by kernel_rfl) ?_
            go_wp2
            go_ret3
            exact ⟨_, _, rfl, Kd.R_lower (SR.strong (SR.ofR (rk_ HO0.out)) HNE.out) HBA.out, Kd.R_lower (SR.strong (SR.ofR (rk_ HO1.out)) (neSymm HNE.out)) (Nat.le_trans HBA.out HBB.out), be_ HB.out⟩
        · rw [if_neg cb] at h
          cases h
  · rw [if_neg hok] at h
    cases h
end Go.Proofs.Ytoddejmlcnbdmaa.Fn
namespace Go.Proofs.Ytoddejmlcnbdmaa.Fn
open Go.RowKit Go.Proofs.YtoddejmlcnbdmaaW.PrintWords Go.Proofs.YtoddejmlcnbdmaaW.PrintLast Go.Proofs.YtoddejmlcnbdmaaW.PrintMore
attribute [local go_sem] max2_int min2_int max_two min_two max_three min_three max_four min_four   -- for this text's walks alone
set_option linter.unusedVariables false
set_option linter.unusedSimpArgs false

/-! ### laws_szStringS: function 41 -/
def laws_szStringS.l0 : Nat → List ByteArray → Int → Int → Option (Int)
  | 0, _, _, _ => none
  | k + 1, x0, x1, x5 => if x5 < (x0.length : Int) then (if 0 ≤ x5 then (if (wrap64 (x1 - ((rdOf ByteArray.empty x0 x5).size : Int))) < 0 then (some (-1)) else (laws_szStringS.l0 k x0 (wrap64 (x1 - ((rdOf ByteArray.empty x0 x5).size : Int))) (wrap64 (x5 + 1)))) else (none)) else (some x1)
def laws_szStringS.f (k : Nat) (l0 : List ByteArray) (a1 : Int) : Option (Int) := if (wrap64 (a1 - (l0.length : Int))) < 0 then (some (-1)) else (laws_szStringS.l0 k l0 (wrap64 (a1 - (l0.length : Int))) 0)
theorem laws_szStringS.mono_l : ∀ k, (∀ y0 y1 y2, LeO (laws_szStringS.l0 k y0 y1 y2) (laws_szStringS.l0 (k + 1) y0 y1 y2))
  | 0 => fun _ _ _ r h => by simp [laws_szStringS.l0] at h
  | k + 1 => by
    have ih0 := laws_szStringS.mono_l k
    · intro y0 y1 y2
      unfold laws_szStringS.l0
      repeat' first
      | (with_reducible exact ih0 _ _ _)
      | (with_reducible exact LeO.refl _)
      | (with_reducible exact LeO.none _)
      | (with_reducible refine LeO.ite ?_ ?_)
      | (with_reducible refine LeO.bind ?_ (fun _ => ?_))
      | exact ih0 _ _ _
      | exact LeO.none _
      | refine LeO.ite ?_ ?_
      | refine LeO.bind ?_ (fun _ => ?_)
theorem laws_szStringS.mono : ∀ a0 a1 k, LeO (laws_szStringS.f k a0 a1) (laws_szStringS.f (k + 1) a0 a1) := by
  intro a0 a1 k
  have ih0 := laws_szStringS.mono_l k
  unfold laws_szStringS.f
  repeat' first
      | (with_reducible exact ih0 _ _ _)
      | (with_reducible exact LeO.refl _)
      | (with_reducible exact LeO.none _)
      | (with_reducible refine LeO.ite ?_ ?_)
      | (with_reducible refine LeO.bind ?_ (fun _ => ?_))
      | exact ih0 _ _ _
      | exact LeO.none _
      | refine LeO.ite ?_ ?_
      | refine LeO.bind ?_ (fun _ => ?_)
set_option maxHeartbeats 8000000 in
set_option maxRecDepth 100000 in
theorem laws_szStringS.calls (k : Nat) (A0 : Option Addr) (c0 : Nat) (l0 : List ByteArray) (a1 : Int) (r : Int) (w : World) (hr0 : Kd.C Kd.string w A0 l0.length l0) (hc0 : l0.length ≤ c0) (h : laws_szStringS.f k l0 a1 = some r) :
    Calls Try.prog 41 #[.slice A0 l0.length c0, .int .i64 a1] w fun e w' => e = .returned (.int .i64 r) ∧ Drawn0 w w' := by
  have HR0 := Aside0.mk hr0
  have HC0 := Aside0.mk hc0
  clear hr0 hc0
  have H : (if (wrap64 (a1 - (l0.length : Int))) < 0 then (some (-1)) else (laws_szStringS.l0 k l0 (wrap64 (a1 - (l0.length : Int))) 0)) = some r := h
  clear h
  by_cases c3 : (wrap64 (a1 - (l0.length : Int))) < 0
  · rw [if_pos c3] at H
    have c3b0 : decide ((wrap64 (a1 - (l0.length : Int))) < 0) = true := decide_eq_true c3
    clear c3
    obtain rfl := Option.some.inj H
    go_enter Try.func41, Try.ntmps41
    go_wp2
    go_ret
    exact ⟨by first | rfl | (simp; done) | (simp [*]; done), by repeat (first | exact Drawn0.refl _ | apply Drawn0.step)⟩
  · rw [if_neg c3] at H
    have c3b0 : decide ((wrap64 (a1 - (l0.length : Int))) < 0) = false := decide_eq_false c3
    clear c3
    have H' := Aside0.mk H
    clear H
    go_enter Try.func41, Try.ntmps41
    go_wp2
    go_loopg [1, 5] k (fun kq v1 v5 w' => ∃ (x1_1 : Int) (x5_1 : Int), v1 = .int .i64 x1_1 ∧ v5 = .int .i64 x5_1 ∧ Aside0 (laws_szStringS.l0 kq l0 x1_1 x5_1 = some r) ∧ Aside0 (kq ≤ k) ∧ Drawn0 w w')
    case atStart => exact ⟨(wrap64 (a1 - (l0.length : Int))), (0), (by first | rfl | (simp; done) | (simp [*]; done)), (by first | rfl | (simp; done) | (simp [*]; done)), H', ⟨Nat.le_refl _⟩, by repeat (first | exact Drawn0.refl _ | apply Drawn0.step)⟩
    case round =>
      clear H'
      try clear p2
      try clear c3
      try clear c3b0
      obtain ⟨x1_1, x5_1, rfl, rfl, HA, HK1, ⟨m1, rfl⟩⟩ := hrel
      cases gk with
      | zero => exact absurd HA.out (by simp [laws_szStringS.l0])
      | succ k1 =>
        have H := HA.out
        clear HA
        simp only [laws_szStringS.l0] at H
        by_cases c4 : x5_1 < (l0.length : Int)
        · rw [if_pos c4] at H
          have c4b0 : decide (x5_1 < (l0.length : Int)) = true := decide_eq_true c4
          clear c4
          by_cases c5 : 0 ≤ x5_1
          · rw [if_pos c5] at H
            have c5b0 : decide (0 ≤ x5_1) = true := decide_eq_true c5
            clear c5
            by_cases c6 : (wrap64 (x1_1 - ((rdOf ByteArray.empty l0 x5_1).size : Int))) < 0
            · rw [if_pos c6] at H
              have c6b0 : decide ((wrap64 (x1_1 - ((rdOf ByteArray.empty l0 x5_1).size : Int))) < 0) = true := decide_eq_true c6
              clear c6
              obtain rfl := Option.some.inj H
              have p101 : 0 ≤ (x5_1 : Int) := of_decide_eq_true (by first | (with_reducible assumption) | assumption)
              have q101 : x5_1 < (l0.length : Int) := of_decide_eq_true (by first | (with_reducible assumption) | assumption)
              obtain ⟨ad101, e101, hx101_0⟩ := Kd.at_string HR0.out x5_1 p101 q101
              cases e101
              replace p101 := eq_true p101
              replace q101 := eq_true q101
              go_wp2
              go_ret
              exact ⟨by first | rfl | (simp; done) | (simp [*]; done), by repeat (first | exact Drawn0.refl _ | apply Drawn0.step)⟩
            · rw [if_neg c6] at H
              have c6b0 : decide ((wrap64 (x1_1 - ((rdOf ByteArray.empty l0 x5_1).size : Int))) < 0) = false := decide_eq_false c6
              clear c6
              have H' := Aside0.mk H
              clear H
              have p101 : 0 ≤ (x5_1 : Int) := of_decide_eq_true (by first | (with_reducible assumption) | assumption)
              have q101 : x5_1 < (l0.length : Int) := of_decide_eq_true (by first | (with_reducible assumption) | assumption)
              obtain ⟨ad101, e101, hx101_0⟩ := Kd.at_string HR0.out x5_1 p101 q101
              cases e101
              replace p101 := eq_true p101
              replace q101 := eq_true q101
              go_wp2
              go_roundg k1
              case measure => have := HK1.out; omega
              case rel => exact ⟨(wrap64 (x1_1 - ((rdOf ByteArray.empty l0 x5_1).size : Int))), (wrap64 (x5_1 + 1)), (by first | rfl | (simp; done) | (simp [*]; done)), (by first | rfl | (simp; done) | (simp [*]; done)), H', ⟨by have := HK1.out; omega⟩, by repeat (first | exact Drawn0.refl _ | apply Drawn0.step)⟩
          · rw [if_neg c5] at H
            exact absurd H (by simp)
        · rw [if_neg c4] at H
          have c4b0 : decide (x5_1 < (l0.length : Int)) = false := decide_eq_false c4
          clear c4
          obtain rfl := Option.some.inj H
          go_wp2
          go_ret
          exact ⟨by first | rfl | (simp; done) | (simp [*]; done), by repeat (first | exact Drawn0.refl _ | apply Drawn0.step)⟩

end Go.Proofs.Ytoddejmlcnbdmaa.Fn
namespace Go.Proofs.Ytoddejmlcnbdmaa.Fn
open Go.RowKit Go.Proofs.YtoddejmlcnbdmaaW.PrintWords Go.Proofs.YtoddejmlcnbdmaaW.PrintLast Go.Proofs.YtoddejmlcnbdmaaW.PrintMore
attribute [local go_sem] max2_int min2_int max_two min_two max_three min_three max_four min_four   -- for this text's walks alone
set_option linter.unusedVariables false
set_option linter.unusedSimpArgs false

/-! ### laws_szIntS: function 119 -/
def laws_szIntS.f (l0 : List Int) (a1 : Int) : Option (Int) := if (wrap64 (a1 - (l0.length : Int))) < 0 then (some (-1)) else (some (wrap64 (a1 - (l0.length : Int))))
set_option maxHeartbeats 8000000 in
set_option maxRecDepth 100000 in
theorem laws_szIntS.calls (A0 : Option Addr) (c0 : Nat) (l0 : List Int) (a1 : Int) (r : Int) (w : World) (hr0 : Kd.C (Kd.int .i64) w A0 l0.length l0) (hc0 : l0.length ≤ c0) (h : laws_szIntS.f l0 a1 = some r) :
    Calls Try.prog 119 #[.slice A0 l0.length c0, .int .i64 a1] w fun e w' => e = .returned (.int .i64 r) ∧ Drawn0 w w' := by
  have HR0 := Aside0.mk hr0
  have HC0 := Aside0.mk hc0
  clear hr0 hc0
  have H : (if (wrap64 (a1 - (l0.length : Int))) < 0 then (some (-1)) else (some (wrap64 (a1 - (l0.length : Int))))) = some r := h
  clear h
  by_cases c3 : (wrap64 (a1 - (l0.length : Int))) < 0
  · rw [if_pos c3] at H
    have c3b0 : decide ((wrap64 (a1 - (l0.length : Int))) < 0) = true := decide_eq_true c3
    clear c3
    obtain rfl := Option.some.inj H
    go_enter Try.func119, Try.ntmps119
    go_wp2
    go_ret
    exact ⟨by first | rfl | (simp; done) | (simp [*]; done), by repeat (first | exact Drawn0.refl _ | apply Drawn0.step)⟩
  · rw [if_neg c3] at H
    have c3b0 : decide ((wrap64 (a1 - (l0.length : Int))) < 0) = false := decide_eq_false c3
    clear c3
    obtain rfl := Option.some.inj H
    go_enter Try.func119, Try.ntmps119
    go_wp2
    go_ret
    exact ⟨by first | rfl | (simp; done) | (simp [*]; done), by repeat (first | exact Drawn0.refl _ | apply Drawn0.step)⟩

end Go.Proofs.Ytoddejmlcnbdmaa.Fn
namespace Go.Proofs.Ytoddejmlcnbdmaa.Fn
open Go.RowKit Go.Proofs.YtoddejmlcnbdmaaW.PrintWords Go.Proofs.YtoddejmlcnbdmaaW.PrintLast Go.Proofs.YtoddejmlcnbdmaaW.PrintMore
attribute [local go_sem] max2_int min2_int max_two min_two max_three min_three max_four min_four   -- for this text's walks alone
set_option linter.unusedVariables false
set_option linter.unusedSimpArgs false

/-! ### laws_szPage: function 94 -/
def laws_szPage.f (k : Nat) (l0_0 : List ByteArray) (l0_1 : List ByteArray) (l0_2 : List Int) (a1 : Int) : Option (Int) := (laws_szStringS.f k l0_0 a1).bind fun t103 => (if t103 < 0 then (some (-1)) else ((laws_szStringS.f k l0_1 t103).bind fun t104 => (if t104 < 0 then (some (-1)) else ((laws_szIntS.f l0_2 t104).bind fun t105 => (if t105 < 0 then (some (-1)) else (some t105))))))
theorem laws_szPage.mono : ∀ a0 a1 a2 a3 k, LeO (laws_szPage.f k a0 a1 a2 a3) (laws_szPage.f (k + 1) a0 a1 a2 a3) := by
  intro a0 a1 a2 a3 k
  unfold laws_szPage.f
  repeat' first
      | (with_reducible exact laws_szStringS.mono _ _ _)
      | (with_reducible exact LeO.refl _)
      | (with_reducible exact LeO.none _)
      | (with_reducible refine LeO.ite ?_ ?_)
      | (with_reducible refine LeO.bind ?_ (fun _ => ?_))
      | exact laws_szStringS.mono _ _ _
      | exact LeO.none _
      | refine LeO.ite ?_ ?_
      | refine LeO.bind ?_ (fun _ => ?_)
set_option maxHeartbeats 8000000 in
set_option maxRecDepth 100000 in
theorem laws_szPage.calls (k : Nat) (A0_0 : Option Addr) (c0_0 : Nat) (l0_0 : List ByteArray) (A0_1 : Option Addr) (c0_1 : Nat) (l0_1 : List ByteArray) (A0_2 : Option Addr) (c0_2 : Nat) (l0_2 : List Int) (a1 : Int) (r : Int) (w : World) (hr0_0 : Kd.C Kd.string w A0_0 l0_0.length l0_0) (hc0_0 : l0_0.length ≤ c0_0) (hr0_1 : Kd.C Kd.string w A0_1 l0_1.length l0_1) (hc0_1 : l0_1.length ≤ c0_1) (hr0_2 : Kd.C (Kd.int .i64) w A0_2 l0_2.length l0_2) (hc0_2 : l0_2.length ≤ c0_2) (h : laws_szPage.f k l0_0 l0_1 l0_2 a1 = some r) :
    Calls Try.prog 94 #[.agg #[.slice A0_0 l0_0.length c0_0, .slice A0_1 l0_1.length c0_1, .slice A0_2 l0_2.length c0_2], .int .i64 a1] w fun e w' => e = .returned (.int .i64 r) ∧ Below w.heap.size w w' := by
  have hu115 := Try.underlying115
  have HR0_0 := Aside0.mk hr0_0
  have HC0_0 := Aside0.mk hc0_0
  clear hr0_0 hc0_0
  have HR0_1 := Aside0.mk hr0_1
  have HC0_1 := Aside0.mk hc0_1
  clear hr0_1 hc0_1
  have HR0_2 := Aside0.mk hr0_2
  have HC0_2 := Aside0.mk hc0_2
  clear hr0_2 hc0_2
  have HB := Aside0.mk (Below.refl w.heap.size w)
  have H : ((laws_szStringS.f k l0_0 a1).bind fun t103 => (if t103 < 0 then (some (-1)) else ((laws_szStringS.f k l0_1 t103).bind fun t104 => (if t104 < 0 then (some (-1)) else ((laws_szIntS.f l0_2 t104).bind fun t105 => (if t105 < 0 then (some (-1)) else (some t105))))))) = some r := h
  clear h
  replace H := Option.bind_eq_some_iff.mp H
  obtain ⟨t103, A30, H⟩ := H
  replace H : (if t103 < 0 then (some (-1)) else ((laws_szStringS.f k l0_1 t103).bind fun t104 => (if t104 < 0 then (some (-1)) else ((laws_szIntS.f l0_2 t104).bind fun t105 => (if t105 < 0 then (some (-1)) else (some t105)))))) = some r := H
  have A3 := Aside0.mk A30
  clear A30
  by_cases c4 : t103 < 0
  · rw [if_pos c4] at H
    have c4b0 : decide (t103 < 0) = true := decide_eq_true c4
    clear c4
    obtain rfl := Option.some.inj H
    go_enter Try.func94, Try.ntmps94
    go_wp2_with (first | ((with_reducible refine gate_dst (N := 2) rfl ?_); refine box_event ?hg (N := 2) ?hd (cs := #[.slice A0_0 l0_0.length c0_0, .slice A0_1 l0_1.length c0_1, .slice A0_2 l0_2.length c0_2]) (t := 115) ?hr ?_; (case hd => rfl); (case hg => rfl); (case hr => first | (go_simp; done) | (go_simp; rfl)); intro gb102 hg w5 hbox hb; have n0_ := Aside0.mk (below_step (by repeat (first | (with_reducible first | exact HB.out | apply below_alloc | apply pw_below_drewN | apply below_drew1) | exact HB.out)) hb); have n1_ := Aside0.mk (hbox); have n2_ := Aside0.mk ((by rw [hg]; exact (below_size (by repeat (first | (with_reducible first | exact HB.out | apply below_alloc | apply pw_below_drewN | apply below_drew1) | exact HB.out))) : w.heap.size ≤ gb102)); have n3_ := Aside0.mk ((by rw [hg]; exact (below_size (by repeat (first | (with_reducible first | exact HB.out | apply below_alloc | apply pw_below_drewN | apply below_drew1) | exact HB.out))) : w.heap.size ≤ gb102)); clear HB; have HB := n0_; have BK102 := n1_; have GW102 := n2_; have GE102 := n3_; clear n0_ n1_ n2_ n3_; clear hb hbox hg; have hcz6_0 : w5.cell? ⟨gb102, 0, none⟩ = some (.slice A0_0 l0_0.length c0_0) := (blk_cell BK102.out 0).trans rfl; have hcz6_1 : w5.cell? ⟨gb102, 1, none⟩ = some (.slice A0_1 l0_1.length c0_1) := (blk_cell BK102.out 1).trans rfl; have hcz6_2 : w5.cell? ⟨gb102, 2, none⟩ = some (.slice A0_2 l0_2.length c0_2) := (blk_cell BK102.out 2).trans rfl; have hfz6_0 := blk_frozen BK102.out 0; have hfz6_1 := blk_frozen BK102.out 1; have hfz6_2 := blk_frozen BK102.out 2) | ((with_reducible refine gate_callee (f := 41) rfl ?_); refine goesL_ (some 8) rfl rfl Try.func41 (by kernel_rfl) rfl #[.slice A0_0 l0_0.length c0_0, .int .i64 a1] rfl (by (try simp only [List.map_toArray, List.map_cons, List.map_nil]); first | done | rfl | (simp only [List.length_drop, List.length_take]; rfl)) ?_; (with_reducible refine (laws_szStringS.calls k _ _ l0_0 a1 t103 _ ?side1 ?side2 A3.out).mono ?_); (case side1 => repeat (first | exact (Kd.C_below HR0_0.out HB.out) | (with_reducible refine Kd.C_alloc ?_ _) | (with_reducible refine Kd.C_drewN ?_ _) | (with_reducible refine Kd.C_drew ?_))); (case side2 => exact HC0_0.out); rintro e w' ⟨rfl, ⟨nd, rfl⟩⟩; refine ⟨_, rfl, ?_⟩))
    go_ret
    exact ⟨by first | rfl | (simp [errW_none, errW_some] <;> rfl) | (simp [*, errW_none, errW_some] <;> rfl), by repeat (first | (with_reducible first | exact HB.out | apply below_alloc | apply pw_below_drewN | apply below_drew1 | refine below_set ?_ GE102.out) | exact HB.out)⟩
  · rw [if_neg c4] at H
    have c4b0 : decide (t103 < 0) = false := decide_eq_false c4
    clear c4
    replace H := Option.bind_eq_some_iff.mp H
    obtain ⟨t104, A70, H⟩ := H
    replace H : (if t104 < 0 then (some (-1)) else ((laws_szIntS.f l0_2 t104).bind fun t105 => (if t105 < 0 then (some (-1)) else (some t105)))) = some r := H
    have A7 := Aside0.mk A70
    clear A70
    by_cases c8 : t104 < 0
    · rw [if_pos c8] at H
      have c8b0 : decide (t104 < 0) = true := decide_eq_true c8
      clear c8
      obtain rfl := Option.some.inj H
      go_enter Try.func94, Try.ntmps94
      go_wp2_with (first | ((with_reducible refine gate_dst (N := 2) rfl ?_); refine box_event ?hg (N := 2) ?hd (cs := #[.slice A0_0 l0_0.length c0_0, .slice A0_1 l0_1.length c0_1, .slice A0_2 l0_2.length c0_2]) (t := 115) ?hr ?_; (case hd => rfl); (case hg => rfl); (case hr => first | (go_simp; done) | (go_simp; rfl)); intro gb102 hg w9 hbox hb; have n0_ := Aside0.mk (below_step (by repeat (first | (with_reducible first | exact HB.out | apply below_alloc | apply pw_below_drewN | apply below_drew1) | exact HB.out)) hb); have n1_ := Aside0.mk (hbox); have n2_ := Aside0.mk ((by rw [hg]; exact (below_size (by repeat (first | (with_reducible first | exact HB.out | apply below_alloc | apply pw_below_drewN | apply below_drew1) | exact HB.out))) : w.heap.size ≤ gb102)); have n3_ := Aside0.mk ((by rw [hg]; exact (below_size (by repeat (first | (with_reducible first | exact HB.out | apply below_alloc | apply pw_below_drewN | apply below_drew1) | exact HB.out))) : w.heap.size ≤ gb102)); clear HB; have HB := n0_; have BK102 := n1_; have GW102 := n2_; have GE102 := n3_; clear n0_ n1_ n2_ n3_; clear hb hbox hg; have hcz10_0 : w9.cell? ⟨gb102, 0, none⟩ = some (.slice A0_0 l0_0.length c0_0) := (blk_cell BK102.out 0).trans rfl; have hcz10_1 : w9.cell? ⟨gb102, 1, none⟩ = some (.slice A0_1 l0_1.length c0_1) := (blk_cell BK102.out 1).trans rfl; have hcz10_2 : w9.cell? ⟨gb102, 2, none⟩ = some (.slice A0_2 l0_2.length c0_2) := (blk_cell BK102.out 2).trans rfl; have hfz10_0 := blk_frozen BK102.out 0; have hfz10_1 := blk_frozen BK102.out 1; have hfz10_2 := blk_frozen BK102.out 2) | ((with_reducible refine gate_callee (f := 41) rfl ?_); refine goesL_ (some 8) rfl rfl Try.func41 (by kernel_rfl) rfl #[.slice A0_0 l0_0.length c0_0, .int .i64 a1] rfl (by (try simp only [List.map_toArray, List.map_cons, List.map_nil]); first | done | rfl | (simp only [List.length_drop, List.length_take]; rfl)) ?_; (with_reducible refine (laws_szStringS.calls k _ _ l0_0 a1 t103 _ ?side1 ?side2 A3.out).mono ?_); (case side1 => repeat (first | exact (Kd.C_below HR0_0.out HB.out) | (with_reducible refine Kd.C_alloc ?_ _) | (with_reducible refine Kd.C_drewN ?_ _) | (with_reducible refine Kd.C_drew ?_))); (case side2 => exact HC0_0.out); rintro e w' ⟨rfl, ⟨nd, rfl⟩⟩; refine ⟨_, rfl, ?_⟩) | ((with_reducible refine gate_callee (f := 41) rfl ?_); refine goesL_ (some 14) rfl rfl Try.func41 (by kernel_rfl) rfl #[.slice A0_1 l0_1.length c0_1, .int .i64 t103] rfl (by (try simp only [List.map_toArray, List.map_cons, List.map_nil]); first | done | rfl | (simp only [List.length_drop, List.length_take]; rfl)) ?_; (with_reducible refine (laws_szStringS.calls k _ _ l0_1 t103 t104 _ ?side1 ?side2 A7.out).mono ?_); (case side1 => repeat (first | exact (Kd.C_below HR0_1.out (by repeat (first | (with_reducible first | exact HB.out | apply below_alloc | apply pw_below_drewN | apply below_drew1 | refine below_set ?_ GE102.out) | exact HB.out))) | (with_reducible refine Kd.C_alloc ?_ _) | (with_reducible refine Kd.C_drewN ?_ _) | (with_reducible refine Kd.C_drew ?_))); (case side2 => exact HC0_1.out); rintro e w' ⟨rfl, ⟨nd, rfl⟩⟩; refine ⟨_, rfl, ?_⟩))
      go_ret
      exact ⟨by first | rfl | (simp [errW_none, errW_some] <;> rfl) | (simp [*, errW_none, errW_some] <;> rfl), by repeat (first | (with_reducible first | exact HB.out | apply below_alloc | apply pw_below_drewN | apply below_drew1 | refine below_set ?_ GE102.out) | exact HB.out)⟩
    · rw [if_neg c8] at H
      have c8b0 : decide (t104 < 0) = false := decide_eq_false c8
      clear c8
      replace H := Option.bind_eq_some_iff.mp H
      obtain ⟨t105, A110, H⟩ := H
      replace H : (if t105 < 0 then (some (-1)) else (some t105)) = some r := H
      have A11 := Aside0.mk A110
      clear A110
      by_cases c12 : t105 < 0
      · rw [if_pos c12] at H
        have c12b0 : decide (t105 < 0) = true := decide_eq_true c12
        clear c12
        obtain rfl := Option.some.inj H
        go_enter Try.func94, Try.ntmps94
        go_wp2_with (first | ((with_reducible refine gate_dst (N := 2) rfl ?_); refine box_event ?hg (N := 2) ?hd (cs := #[.slice A0_0 l0_0.length c0_0, .slice A0_1 l0_1.length c0_1, .slice A0_2 l0_2.length c0_2]) (t := 115) ?hr ?_; (case hd => rfl); (case hg => rfl); (case hr => first | (go_simp; done) | (go_simp; rfl)); intro gb102 hg w13 hbox hb; have n0_ := Aside0.mk (below_step (by repeat (first | (with_reducible first | exact HB.out | apply below_alloc | apply pw_below_drewN | apply below_drew1) | exact HB.out)) hb); have n1_ := Aside0.mk (hbox); have n2_ := Aside0.mk ((by rw [hg]; exact (below_size (by repeat (first | (with_reducible first | exact HB.out | apply below_alloc | apply pw_below_drewN | apply below_drew1) | exact HB.out))) : w.heap.size ≤ gb102)); have n3_ := Aside0.mk ((by rw [hg]; exact (below_size (by repeat (first | (with_reducible first | exact HB.out | apply below_alloc | apply pw_below_drewN | apply below_drew1) | exact HB.out))) : w.heap.size ≤ gb102)); clear HB; have HB := n0_; have BK102 := n1_; have GW102 := n2_; have GE102 := n3_; clear n0_ n1_ n2_ n3_; clear hb hbox hg; have hcz14_0 : w13.cell? ⟨gb102, 0, none⟩ = some (.slice A0_0 l0_0.length c0_0) := (blk_cell BK102.out 0).trans rfl; have hcz14_1 : w13.cell? ⟨gb102, 1, none⟩ = some (.slice A0_1 l0_1.length c0_1) := (blk_cell BK102.out 1).trans rfl; have hcz14_2 : w13.cell? ⟨gb102, 2, none⟩ = some (.slice A0_2 l0_2.length c0_2) := (blk_cell BK102.out 2).trans rfl; have hfz14_0 := blk_frozen BK102.out 0; have hfz14_1 := blk_frozen BK102.out 1; have hfz14_2 := blk_frozen BK102.out 2) | ((with_reducible refine gate_callee (f := 41) rfl ?_); refine goesL_ (some 8) rfl rfl Try.func41 (by kernel_rfl) rfl #[.slice A0_0 l0_0.length c0_0, .int .i64 a1] rfl (by (try simp only [List.map_toArray, List.map_cons, List.map_nil]); first | done | rfl | (simp only [List.length_drop, List.length_take]; rfl)) ?_; (with_reducible refine (laws_szStringS.calls k _ _ l0_0 a1 t103 _ ?side1 ?side2 A3.out).mono ?_); (case side1 => repeat (first | exact (Kd.C_below HR0_0.out HB.out) | (with_reducible refine Kd.C_alloc ?_ _) | (with_reducible refine Kd.C_drewN ?_ _) | (with_reducible refine Kd.C_drew ?_))); (case side2 => exact HC0_0.out); rintro e w' ⟨rfl, ⟨nd, rfl⟩⟩; refine ⟨_, rfl, ?_⟩) | ((with_reducible refine gate_callee (f := 41) rfl ?_); refine goesL_ (some 14) rfl rfl Try.func41 (by kernel_rfl) rfl #[.slice A0_1 l0_1.length c0_1, .int .i64 t103] rfl (by (try simp only [List.map_toArray, List.map_cons, List.map_nil]); first | done | rfl | (simp only [List.length_drop, List.length_take]; rfl)) ?_; (with_reducible refine (laws_szStringS.calls k _ _ l0_1 t103 t104 _ ?side1 ?side2 A7.out).mono ?_); (case side1 => repeat (first | exact (Kd.C_below HR0_1.out (by repeat (first | (with_reducible first | exact HB.out | apply below_alloc | apply pw_below_drewN | apply below_drew1 | refine below_set ?_ GE102.out) | exact HB.out))) | (with_reducible refine Kd.C_alloc ?_ _) | (with_reducible refine Kd.C_drewN ?_ _) | (with_reducible refine Kd.C_drew ?_))); (case side2 => exact HC0_1.out); rintro e w' ⟨rfl, ⟨nd, rfl⟩⟩; refine ⟨_, rfl, ?_⟩) | ((with_reducible refine gate_callee (f := 119) rfl ?_); refine goesL_ (some 20) rfl rfl Try.func119 (by kernel_rfl) rfl #[.slice A0_2 l0_2.length c0_2, .int .i64 t104] rfl (by (try simp only [List.map_toArray, List.map_cons, List.map_nil]); first | done | rfl | (simp only [List.length_drop, List.length_take]; rfl)) ?_; (with_reducible refine (laws_szIntS.calls _ _ l0_2 t104 t105 _ ?side1 ?side2 A11.out).mono ?_); (case side1 => repeat (first | exact (Kd.C_below HR0_2.out (by repeat (first | (with_reducible first | exact HB.out | apply below_alloc | apply pw_below_drewN | apply below_drew1 | refine below_set ?_ GE102.out) | exact HB.out))) | (with_reducible refine Kd.C_alloc ?_ _) | (with_reducible refine Kd.C_drewN ?_ _) | (with_reducible refine Kd.C_drew ?_))); (case side2 => exact HC0_2.out); rintro e w' ⟨rfl, ⟨nd, rfl⟩⟩; refine ⟨_, rfl, ?_⟩))
        go_ret
        exact ⟨by first | rfl | (simp [errW_none, errW_some] <;> rfl) | (simp [*, errW_none, errW_some] <;> rfl), by repeat (first | (with_reducible first | exact HB.out | apply below_alloc | apply pw_below_drewN | apply below_drew1 | refine below_set ?_ GE102.out) | exact HB.out)⟩
      · rw [if_neg c12] at H
        have c12b0 : decide (t105 < 0) = false := decide_eq_false c12
        clear c12
        obtain rfl := Option.some.inj H
        go_enter Try.func94, Try.ntmps94
        go_wp2_with (first | ((with_reducible refine gate_dst (N := 2) rfl ?_); refine box_event ?hg (N := 2) ?hd (cs := #[.slice A0_0 l0_0.length c0_0, .slice A0_1 l0_1.length c0_1, .slice A0_2 l0_2.length c0_2]) (t := 115) ?hr ?_; (case hd => rfl); (case hg => rfl); (case hr => first | (go_simp; done) | (go_simp; rfl)); intro gb102 hg w15 hbox hb; have n0_ := Aside0.mk (below_step (by repeat (first | (with_reducible first | exact HB.out | apply below_alloc | apply pw_below_drewN | apply below_drew1) | exact HB.out)) hb); have n1_ := Aside0.mk (hbox); have n2_ := Aside0.mk ((by rw [hg]; exact (below_size (by repeat (first | (with_reducible first | exact HB.out | apply below_alloc | apply pw_below_drewN | apply below_drew1) | exact HB.out))) : w.heap.size ≤ gb102)); have n3_ := Aside0.mk ((by rw [hg]; exact (below_size (by repeat (first | (with_reducible first | exact HB.out | apply below_alloc | apply pw_below_drewN | apply below_drew1) | exact HB.out))) : w.heap.size ≤ gb102)); clear HB; have HB := n0_; have BK102 := n1_; have GW102 := n2_; have GE102 := n3_; clear n0_ n1_ n2_ n3_; clear hb hbox hg; have hcz16_0 : w15.cell? ⟨gb102, 0, none⟩ = some (.slice A0_0 l0_0.length c0_0) := (blk_cell BK102.out 0).trans rfl; have hcz16_1 : w15.cell? ⟨gb102, 1, none⟩ = some (.slice A0_1 l0_1.length c0_1) := (blk_cell BK102.out 1).trans rfl; have hcz16_2 : w15.cell? ⟨gb102, 2, none⟩ = some (.slice A0_2 l0_2.length c0_2) := (blk_cell BK102.out 2).trans rfl; have hfz16_0 := blk_frozen BK102.out 0; have hfz16_1 := blk_frozen BK102.out 1; have hfz16_2 := blk_frozen BK102.out 2) | ((with_reducible refine gate_callee (f := 41) rfl ?_); refine goesL_ (some 8) rfl rfl Try.func41 (by kernel_rfl) rfl #[.slice A0_0 l0_0.length c0_0, .int .i64 a1] rfl (by (try simp only [List.map_toArray, List.map_cons, List.map_nil]); first | done | rfl | (simp only [List.length_drop, List.length_take]; rfl)) ?_; (with_reducible refine (laws_szStringS.calls k _ _ l0_0 a1 t103 _ ?side1 ?side2 A3.out).mono ?_); (case side1 => repeat (first | exact (Kd.C_below HR0_0.out HB.out) | (with_reducible refine Kd.C_alloc ?_ _) | (with_reducible refine Kd.C_drewN ?_ _) | (with_reducible refine Kd.C_drew ?_))); (case side2 => exact HC0_0.out); rintro e w' ⟨rfl, ⟨nd, rfl⟩⟩; refine ⟨_, rfl, ?_⟩) | ((with_reducible refine gate_callee (f := 41) rfl ?_); refine goesL_ (some 14) rfl rfl Try.func41 (by kernel_rfl) rfl #[.slice A0_1 l0_1.length c0_1, .int .i64 t103] rfl (by (try simp only [List.map_toArray, List.map_cons, List.map_nil]); first | done | rfl | (simp only [List.length_drop, List.length_take]; rfl)) ?_; (with_reducible refine (laws_szStringS.calls k _ _ l0_1 t103 t104 _ ?side1 ?side2 A7.out).mono ?_); (case side1 => repeat (first | exact (Kd.C_below HR0_1.out (by repeat (first | (with_reducible first | exact HB.out | apply below_alloc | apply pw_below_drewN | apply below_drew1 | refine below_set ?_ GE102.out) | exact HB.out))) | (with_reducible refine Kd.C_alloc ?_ _) | (with_reducible refine Kd.C_drewN ?_ _) | (with_reducible refine Kd.C_drew ?_))); (case side2 => exact HC0_1.out); rintro e w' ⟨rfl, ⟨nd, rfl⟩⟩; refine ⟨_, rfl, ?_⟩) | ((with_reducible refine gate_callee (f := 119) rfl ?_); refine goesL_ (some 20) rfl rfl Try.func119 (by kernel_rfl) rfl #[.slice A0_2 l0_2.length c0_2, .int .i64 t104] rfl (by (try simp only [List.map_toArray, List.map_cons, List.map_nil]); first | done | rfl | (simp only [List.length_drop, List.length_take]; rfl)) ?_; (with_reducible refine (laws_szIntS.calls _ _ l0_2 t104 t105 _ ?side1 ?side2 A11.out).mono ?_); (case side1 => repeat (first | exact (Kd.C_below HR0_2.out (by repeat (first | (with_reducible first | exact HB.out | apply below_alloc | apply pw_below_drewN | apply below_drew1 | refine below_set ?_ GE102.out) | exact HB.out))) | (with_reducible refine Kd.C_alloc ?_ _) | (with_reducible refine Kd.C_drewN ?_ _) | (with_reducible refine Kd.C_drew ?_))); (case side2 => exact HC0_2.out); rintro e w' ⟨rfl, ⟨nd, rfl⟩⟩; refine ⟨_, rfl, ?_⟩))
        go_ret
        exact ⟨by first | rfl | (simp [errW_none, errW_some] <;> rfl) | (simp [*, errW_none, errW_some] <;> rfl), by repeat (first | (with_reducible first | exact HB.out | apply below_alloc | apply pw_below_drewN | apply below_drew1 | refine below_set ?_ GE102.out) | exact HB.out)⟩

end Go.Proofs.Ytoddejmlcnbdmaa.Fn
namespace Go.Proofs.Ytoddejmlcnbdmaa.Fn
open Go.RowKit Go.Proofs.YtoddejmlcnbdmaaW.PrintWords Go.Proofs.YtoddejmlcnbdmaaW.PrintLast Go.Proofs.YtoddejmlcnbdmaaW.PrintMore
attribute [local go_sem] max2_int min2_int max_two min_two max_three min_three max_four min_four   -- for this text's walks alone
set_option linter.unusedVariables false
set_option linter.unusedSimpArgs false

/-! ### laws_szPageS: function 56 -/
def laws_szPageS.l0 : Nat → List (S115) → Int → Int → Option (Int)
  | 0, _, _, _ => none
  | k + 1, x0, x1, x5 => if x5 < (x0.length : Int) then (if 0 ≤ x5 then ((laws_szPage.f k ((rd_T115 x0 x5).f0) ((rd_T115 x0 x5).f1) ((rd_T115 x0 x5).f2) x1).bind fun t107 => (if t107 < 0 then (some (-1)) else (laws_szPageS.l0 k x0 t107 (wrap64 (x5 + 1))))) else (none)) else (some x1)
def laws_szPageS.f (k : Nat) (l0 : List (S115)) (a1 : Int) : Option (Int) := if (wrap64 (a1 - (l0.length : Int))) < 0 then (some (-1)) else (laws_szPageS.l0 k l0 (wrap64 (a1 - (l0.length : Int))) 0)
theorem laws_szPageS.mono_l : ∀ k, (∀ y0 y1 y2, LeO (laws_szPageS.l0 k y0 y1 y2) (laws_szPageS.l0 (k + 1) y0 y1 y2))
  | 0 => fun _ _ _ r h => by simp [laws_szPageS.l0] at h
  | k + 1 => by
    have ih0 := laws_szPageS.mono_l k
    · intro y0 y1 y2
      unfold laws_szPageS.l0
      repeat' first
      | (with_reducible exact ih0 _ _ _)
      | (with_reducible exact laws_szPage.mono _ _ _ _ _)
      | (with_reducible exact LeO.refl _)
      | (with_reducible exact LeO.none _)
      | (with_reducible refine LeO.ite ?_ ?_)
      | (with_reducible refine LeO.bind ?_ (fun _ => ?_))
      | exact ih0 _ _ _
      | exact laws_szPage.mono _ _ _ _ _
      | exact LeO.none _
      | refine LeO.ite ?_ ?_
      | refine LeO.bind ?_ (fun _ => ?_)
theorem laws_szPageS.mono : ∀ a0 a1 k, LeO (laws_szPageS.f k a0 a1) (laws_szPageS.f (k + 1) a0 a1) := by
  intro a0 a1 k
  have ih0 := laws_szPageS.mono_l k
  unfold laws_szPageS.f
  repeat' first
      | (with_reducible exact ih0 _ _ _)
      | (with_reducible exact laws_szPage.mono _ _ _ _ _)
      | (with_reducible exact LeO.refl _)
      | (with_reducible exact LeO.none _)
      | (with_reducible refine LeO.ite ?_ ?_)
      | (with_reducible refine LeO.bind ?_ (fun _ => ?_))
      | exact ih0 _ _ _
      | exact laws_szPage.mono _ _ _ _ _
      | exact LeO.none _
      | refine LeO.ite ?_ ?_
      | refine LeO.bind ?_ (fun _ => ?_)
set_option maxHeartbeats 8000000 in
set_option maxRecDepth 100000 in
theorem laws_szPageS.calls (k : Nat) (A0 : Option Addr) (c0 : Nat) (l0 : List (S115)) (a1 : Int) (r : Int) (w : World) (hr0 : Kd.C k115 w A0 l0.length l0) (hc0 : l0.length ≤ c0) (h : laws_szPageS.f k l0 a1 = some r) :
    Calls Try.prog 56 #[.slice A0 l0.length c0, .int .i64 a1] w fun e w' => e = .returned (.int .i64 r) ∧ Below w.heap.size w w' := by
  have hu115 := Try.underlying115
  have HR0 := Aside0.mk hr0
  have HC0 := Aside0.mk hc0
  clear hr0 hc0
  have HB := Aside0.mk (Below.refl w.heap.size w)
  have H : (if (wrap64 (a1 - (l0.length : Int))) < 0 then (some (-1)) else (laws_szPageS.l0 k l0 (wrap64 (a1 - (l0.length : Int))) 0)) = some r := h
  clear h
  by_cases c3 : (wrap64 (a1 - (l0.length : Int))) < 0
  · rw [if_pos c3] at H
    have c3b0 : decide ((wrap64 (a1 - (l0.length : Int))) < 0) = true := decide_eq_true c3
    clear c3
    obtain rfl := Option.some.inj H
    go_enter Try.func56, Try.ntmps56
    go_wp2
    go_ret
    exact ⟨by first | rfl | (simp [errW_none, errW_some] <;> rfl) | (simp [*, errW_none, errW_some] <;> rfl), by repeat (first | (with_reducible first | exact HB.out | apply below_alloc | apply pw_below_drewN | apply below_drew1) | exact HB.out)⟩
  · rw [if_neg c3] at H
    have c3b0 : decide ((wrap64 (a1 - (l0.length : Int))) < 0) = false := decide_eq_false c3
    clear c3
    have H' := Aside0.mk H
    clear H
    go_enter Try.func56, Try.ntmps56
    go_wp2
    go_loopg [1, 5] k (fun kq v1 v5 w' => ∃ (x1_1 : Int) (x5_1 : Int), v1 = .int .i64 x1_1 ∧ v5 = .int .i64 x5_1 ∧ Aside0 (laws_szPageS.l0 kq l0 x1_1 x5_1 = some r) ∧ Aside0 (kq ≤ k) ∧ Aside0 (Below w.heap.size w w'))
    case atStart => exact ⟨(wrap64 (a1 - (l0.length : Int))), (0), (by first | rfl | (simp; done) | (simp [*]; done)), (by first | rfl | (simp; done) | (simp [*]; done)), H', ⟨Nat.le_refl _⟩, ⟨by repeat (first | (with_reducible first | exact HB.out | apply below_alloc | apply pw_below_drewN | apply below_drew1) | exact HB.out)⟩⟩
    case round =>
      clear H'
      try clear p2
      try clear c3
      try clear c3b0
      obtain ⟨x1_1, x5_1, rfl, rfl, HA, HK1, HB⟩ := hrel
      cases gk with
      | zero => exact absurd HA.out (by simp [laws_szPageS.l0])
      | succ k1 =>
        have H := HA.out
        clear HA
        simp only [laws_szPageS.l0] at H
        by_cases c4 : x5_1 < (l0.length : Int)
        · rw [if_pos c4] at H
          have c4b0 : decide (x5_1 < (l0.length : Int)) = true := decide_eq_true c4
          clear c4
          by_cases c5 : 0 ≤ x5_1
          · rw [if_pos c5] at H
            have c5b0 : decide (0 ≤ x5_1) = true := decide_eq_true c5
            clear c5
            replace H := Option.bind_eq_some_iff.mp H
            obtain ⟨t107, A60, H⟩ := H
            replace H : (if t107 < 0 then (some (-1)) else (laws_szPageS.l0 k1 l0 t107 (wrap64 (x5_1 + 1)))) = some r := H
            have A6 := Aside0.mk A60
            clear A60
            by_cases c7 : t107 < 0
            · rw [if_pos c7] at H
              have c7b0 : decide (t107 < 0) = true := decide_eq_true c7
              clear c7
              obtain rfl := Option.some.inj H
              have p106 : 0 ≤ (x5_1 : Int) := of_decide_eq_true (by first | (with_reducible assumption) | assumption)
              have q106 : x5_1 < (l0.length : Int) := of_decide_eq_true (by first | (with_reducible assumption) | assumption)
              obtain ⟨ad106, A106_0, c106_0, A106_1, c106_1, A106_2, c106_2, e106, hx106_0, hx106_1, hx106_2, hl106_0, hi106_0, hl106_1, hi106_1, hl106_2, hi106_2⟩ := at_T115 HR0.out x5_1 p106 q106
              cases e106
              replace hx106_0 := (HB.out.cell (World.block_lt_of_cell? w _ hx106_0)).trans hx106_0
              replace hx106_1 := (HB.out.cell (World.block_lt_of_cell? w _ hx106_1)).trans hx106_1
              replace hx106_2 := (HB.out.cell (World.block_lt_of_cell? w _ hx106_2)).trans hx106_2
              have HR106_0 := Aside0.mk hi106_0
              have HC106_0 := Aside0.mk hl106_0
              clear hi106_0 hl106_0
              have HR106_1 := Aside0.mk hi106_1
              have HC106_1 := Aside0.mk hl106_1
              clear hi106_1 hl106_1
              have HR106_2 := Aside0.mk hi106_2
              have HC106_2 := Aside0.mk hl106_2
              clear hi106_2 hl106_2
              replace p106 := eq_true p106
              replace q106 := eq_true q106
              go_wp2_with (first | ((with_reducible refine gate_callee (f := 94) rfl ?_); refine goesL_ (some 23) rfl rfl Try.func94 (by kernel_rfl) rfl #[.agg #[.slice A106_0 ((rd_T115 l0 x5_1).f0).length c106_0, .slice A106_1 ((rd_T115 l0 x5_1).f1).length c106_1, .slice A106_2 ((rd_T115 l0 x5_1).f2).length c106_2], .int .i64 x1_1] rfl (by (try simp only [List.map_toArray, List.map_cons, List.map_nil]); first | done | rfl | (simp only [List.length_drop, List.length_take]; rfl)) ?_; (with_reducible refine (laws_szPage.calls k1 _ _ ((rd_T115 l0 x5_1).f0) _ _ ((rd_T115 l0 x5_1).f1) _ _ ((rd_T115 l0 x5_1).f2) x1_1 t107 _ ?side1 ?side2 ?side3 ?side4 ?side5 ?side6 A6.out).mono ?_); (case side1 => repeat (first | exact (Kd.C_below HR106_0.out HB.out) | (with_reducible refine Kd.C_alloc ?_ _) | (with_reducible refine Kd.C_drewN ?_ _) | (with_reducible refine Kd.C_drew ?_))); (case side2 => exact HC106_0.out); (case side3 => repeat (first | exact (Kd.C_below HR106_1.out HB.out) | (with_reducible refine Kd.C_alloc ?_ _) | (with_reducible refine Kd.C_drewN ?_ _) | (with_reducible refine Kd.C_drew ?_))); (case side4 => exact HC106_1.out); (case side5 => repeat (first | exact (Kd.C_below HR106_2.out HB.out) | (with_reducible refine Kd.C_alloc ?_ _) | (with_reducible refine Kd.C_drewN ?_ _) | (with_reducible refine Kd.C_drew ?_))); (case side6 => exact HC106_2.out); rintro e w8 ⟨rfl, hb⟩; refine ⟨_, rfl, ?_⟩; have n0_ := Aside0.mk (below_step (by repeat (first | (with_reducible first | exact HB.out | apply below_alloc | apply pw_below_drewN | apply below_drew1) | exact HB.out)) hb); clear HB; have HB := n0_; clear n0_; (try clear hb); (try clear hb2); (try clear hk); (try clear hi)))
              go_ret
              exact ⟨by first | rfl | (simp [errW_none, errW_some] <;> rfl) | (simp [*, errW_none, errW_some] <;> rfl), by repeat (first | (with_reducible first | exact HB.out | apply below_alloc | apply pw_below_drewN | apply below_drew1) | exact HB.out)⟩
            · rw [if_neg c7] at H
              have c7b0 : decide (t107 < 0) = false := decide_eq_false c7
              clear c7
              have H' := Aside0.mk H
              clear H
              have p106 : 0 ≤ (x5_1 : Int) := of_decide_eq_true (by first | (with_reducible assumption) | assumption)
              have q106 : x5_1 < (l0.length : Int) := of_decide_eq_true (by first | (with_reducible assumption) | assumption)
              obtain ⟨ad106, A106_0, c106_0, A106_1, c106_1, A106_2, c106_2, e106, hx106_0, hx106_1, hx106_2, hl106_0, hi106_0, hl106_1, hi106_1, hl106_2, hi106_2⟩ := at_T115 HR0.out x5_1 p106 q106
              cases e106
              replace hx106_0 := (HB.out.cell (World.block_lt_of_cell? w _ hx106_0)).trans hx106_0
              replace hx106_1 := (HB.out.cell (World.block_lt_of_cell? w _ hx106_1)).trans hx106_1
              replace hx106_2 := (HB.out.cell (World.block_lt_of_cell? w _ hx106_2)).trans hx106_2
              have HR106_0 := Aside0.mk hi106_0
              have HC106_0 := Aside0.mk hl106_0
              clear hi106_0 hl106_0
              have HR106_1 := Aside0.mk hi106_1
              have HC106_1 := Aside0.mk hl106_1
              clear hi106_1 hl106_1
              have HR106_2 := Aside0.mk hi106_2
              have HC106_2 := Aside0.mk hl106_2
              clear hi106_2 hl106_2
              replace p106 := eq_true p106
              replace q106 := eq_true q106
              go_wp2_with (first | ((with_reducible refine gate_callee (f := 94) rfl ?_); refine goesL_ (some 23) rfl rfl Try.func94 (by kernel_rfl) rfl #[.agg #[.slice A106_0 ((rd_T115 l0 x5_1).f0).length c106_0, .slice A106_1 ((rd_T115 l0 x5_1).f1).length c106_1, .slice A106_2 ((rd_T115 l0 x5_1).f2).length c106_2], .int .i64 x1_1] rfl (by (try simp only [List.map_toArray, List.map_cons, List.map_nil]); first | done | rfl | (simp only [List.length_drop, List.length_take]; rfl)) ?_; (with_reducible refine (laws_szPage.calls k1 _ _ ((rd_T115 l0 x5_1).f0) _ _ ((rd_T115 l0 x5_1).f1) _ _ ((rd_T115 l0 x5_1).f2) x1_1 t107 _ ?side1 ?side2 ?side3 ?side4 ?side5 ?side6 A6.out).mono ?_); (case side1 => repeat (first | exact (Kd.C_below HR106_0.out HB.out) | (with_reducible refine Kd.C_alloc ?_ _) | (with_reducible refine Kd.C_drewN ?_ _) | (with_reducible refine Kd.C_drew ?_))); (case side2 => exact HC106_0.out); (case side3 => repeat (first | exact (Kd.C_below HR106_1.out HB.out) | (with_reducible refine Kd.C_alloc ?_ _) | (with_reducible refine Kd.C_drewN ?_ _) | (with_reducible refine Kd.C_drew ?_))); (case side4 => exact HC106_1.out); (case side5 => repeat (first | exact (Kd.C_below HR106_2.out HB.out) | (with_reducible refine Kd.C_alloc ?_ _) | (with_reducible refine Kd.C_drewN ?_ _) | (with_reducible refine Kd.C_drew ?_))); (case side6 => exact HC106_2.out); rintro e w9 ⟨rfl, hb⟩; refine ⟨_, rfl, ?_⟩; have n0_ := Aside0.mk (below_step (by repeat (first | (with_reducible first | exact HB.out | apply below_alloc | apply pw_below_drewN | apply below_drew1) | exact HB.out)) hb); clear HB; have HB := n0_; clear n0_; (try clear hb); (try clear hb2); (try clear hk); (try clear hi)))
              go_roundg k1
              case measure => have := HK1.out; omega
              case rel => exact ⟨(t107), (wrap64 (x5_1 + 1)), (by first | rfl | (simp; done) | (simp [*]; done)), (by first | rfl | (simp; done) | (simp [*]; done)), H', ⟨by have := HK1.out; omega⟩, ⟨by repeat (first | (with_reducible first | exact HB.out | apply below_alloc | apply pw_below_drewN | apply below_drew1) | exact HB.out)⟩⟩
          · rw [if_neg c5] at H
            exact absurd H (by simp)
        · rw [if_neg c4] at H
          have c4b0 : decide (x5_1 < (l0.length : Int)) = false := decide_eq_false c4
          clear c4
          obtain rfl := Option.some.inj H
          go_wp2
          go_ret
          exact ⟨by first | rfl | (simp [errW_none, errW_some] <;> rfl) | (simp [*, errW_none, errW_some] <;> rfl), by repeat (first | (with_reducible first | exact HB.out | apply below_alloc | apply pw_below_drewN | apply below_drew1) | exact HB.out)⟩

end Go.Proofs.Ytoddejmlcnbdmaa.Fn
namespace Go.Proofs.Ytoddejmlcnbdmaa.Fn
open Go.RowKit Go.Proofs.YtoddejmlcnbdmaaW.PrintWords Go.Proofs.YtoddejmlcnbdmaaW.PrintLast Go.Proofs.YtoddejmlcnbdmaaW.PrintMore
attribute [local go_sem] max2_int min2_int max_two min_two max_three min_three max_four min_four   -- for this text's walks alone
set_option linter.unusedVariables false
set_option linter.unusedSimpArgs false

/-! ### laws_szTree: function 15 -/
def laws_szTree.f (k : Nat) (l0_0 : List (S115)) (a1 : Int) : Option (Int) := (laws_szPageS.f k l0_0 a1).bind fun t109 => (if t109 < 0 then (some (-1)) else (some t109))
theorem laws_szTree.mono : ∀ a0 a1 k, LeO (laws_szTree.f k a0 a1) (laws_szTree.f (k + 1) a0 a1) := by
  intro a0 a1 k
  unfold laws_szTree.f
  repeat' first
      | (with_reducible exact laws_szPageS.mono _ _ _)
      | (with_reducible exact LeO.refl _)
      | (with_reducible exact LeO.none _)
      | (with_reducible refine LeO.ite ?_ ?_)
      | (with_reducible refine LeO.bind ?_ (fun _ => ?_))
      | exact laws_szPageS.mono _ _ _
      | exact LeO.none _
      | refine LeO.ite ?_ ?_
      | refine LeO.bind ?_ (fun _ => ?_)
set_option maxHeartbeats 8000000 in
set_option maxRecDepth 100000 in
theorem laws_szTree.calls (k : Nat) (A0_0 : Option Addr) (c0_0 : Nat) (l0_0 : List (S115)) (a1 : Int) (r : Int) (w : World) (hr0_0 : Kd.C k115 w A0_0 l0_0.length l0_0) (hc0_0 : l0_0.length ≤ c0_0) (h : laws_szTree.f k l0_0 a1 = some r) :
    Calls Try.prog 15 #[.agg #[.slice A0_0 l0_0.length c0_0], .int .i64 a1] w fun e w' => e = .returned (.int .i64 r) ∧ Below w.heap.size w w' := by
  have hu24 := Try.underlying24
  have HR0_0 := Aside0.mk hr0_0
  have HC0_0 := Aside0.mk hc0_0
  clear hr0_0 hc0_0
  have HB := Aside0.mk (Below.refl w.heap.size w)
  have H : ((laws_szPageS.f k l0_0 a1).bind fun t109 => (if t109 < 0 then (some (-1)) else (some t109))) = some r := h
  clear h
  replace H := Option.bind_eq_some_iff.mp H
  obtain ⟨t109, A30, H⟩ := H
  replace H : (if t109 < 0 then (some (-1)) else (some t109)) = some r := H
  have A3 := Aside0.mk A30
  clear A30
  by_cases c4 : t109 < 0
  · rw [if_pos c4] at H
    have c4b0 : decide (t109 < 0) = true := decide_eq_true c4
    clear c4
    obtain rfl := Option.some.inj H
    go_enter Try.func15, Try.ntmps15
    go_wp2_with (first | ((with_reducible refine gate_dst (N := 2) rfl ?_); refine box_event ?hg (N := 2) ?hd (cs := #[.slice A0_0 l0_0.length c0_0]) (t := 24) ?hr ?_; (case hd => rfl); (case hg => rfl); (case hr => first | (go_simp; done) | (go_simp; rfl)); intro gb108 hg w5 hbox hb; have n0_ := Aside0.mk (below_step (by repeat (first | (with_reducible first | exact HB.out | apply below_alloc | apply pw_below_drewN | apply below_drew1) | exact HB.out)) hb); have n1_ := Aside0.mk (hbox); have n2_ := Aside0.mk ((by rw [hg]; exact (below_size (by repeat (first | (with_reducible first | exact HB.out | apply below_alloc | apply pw_below_drewN | apply below_drew1) | exact HB.out))) : w.heap.size ≤ gb108)); have n3_ := Aside0.mk ((by rw [hg]; exact (below_size (by repeat (first | (with_reducible first | exact HB.out | apply below_alloc | apply pw_below_drewN | apply below_drew1) | exact HB.out))) : w.heap.size ≤ gb108)); clear HB; have HB := n0_; have BK108 := n1_; have GW108 := n2_; have GE108 := n3_; clear n0_ n1_ n2_ n3_; clear hb hbox hg; have hcz6_0 : w5.cell? ⟨gb108, 0, none⟩ = some (.slice A0_0 l0_0.length c0_0) := (blk_cell BK108.out 0).trans rfl; have hfz6_0 := blk_frozen BK108.out 0) | ((with_reducible refine gate_callee (f := 56) rfl ?_); refine goesL_ (some 8) rfl rfl Try.func56 (by kernel_rfl) rfl #[.slice A0_0 l0_0.length c0_0, .int .i64 a1] rfl (by (try simp only [List.map_toArray, List.map_cons, List.map_nil]); first | done | rfl | (simp only [List.length_drop, List.length_take]; rfl)) ?_; (with_reducible refine (laws_szPageS.calls k _ _ l0_0 a1 t109 _ ?side1 ?side2 A3.out).mono ?_); (case side1 => repeat (first | exact (Kd.C_below HR0_0.out HB.out) | (with_reducible refine Kd.C_alloc ?_ _) | (with_reducible refine Kd.C_drewN ?_ _) | (with_reducible refine Kd.C_drew ?_))); (case side2 => exact HC0_0.out); rintro e w7 ⟨rfl, hb⟩; refine ⟨_, rfl, ?_⟩; have n0_ := Aside0.mk (blk_below (g := gb108) (o := .cells #[.slice A0_0 l0_0.length c0_0] 24 (0, 0)) (by (with_reducible repeat (first | refine blk_drewN ?_ _ | refine blk_drew ?_ | refine blk_alloc ?_ _)); exact BK108.out) hb); have n1_ := Aside0.mk (below_step (by repeat (first | (with_reducible first | exact HB.out | apply below_alloc | apply pw_below_drewN | apply below_drew1 | refine below_set ?_ GE108.out) | exact HB.out)) hb); clear BK108; clear HB; have BK108 := n0_; have HB := n1_; clear n0_ n1_; (try clear hb); (try clear hb2); (try clear hk); (try clear hi)))
    go_ret
    exact ⟨by first | rfl | (simp [errW_none, errW_some] <;> rfl) | (simp [*, errW_none, errW_some] <;> rfl), by repeat (first | (with_reducible first | exact HB.out | apply below_alloc | apply pw_below_drewN | apply below_drew1 | refine below_set ?_ GE108.out) | exact HB.out)⟩
  · rw [if_neg c4] at H
    have c4b0 : decide (t109 < 0) = false := decide_eq_false c4
    clear c4
    obtain rfl := Option.some.inj H
    go_enter Try.func15, Try.ntmps15
    go_wp2_with (first | ((with_reducible refine gate_dst (N := 2) rfl ?_); refine box_event ?hg (N := 2) ?hd (cs := #[.slice A0_0 l0_0.length c0_0]) (t := 24) ?hr ?_; (case hd => rfl); (case hg => rfl); (case hr => first | (go_simp; done) | (go_simp; rfl)); intro gb108 hg w8 hbox hb; have n0_ := Aside0.mk (below_step (by repeat (first | (with_reducible first | exact HB.out | apply below_alloc | apply pw_below_drewN | apply below_drew1) | exact HB.out)) hb); have n1_ := Aside0.mk (hbox); have n2_ := Aside0.mk ((by rw [hg]; exact (below_size (by repeat (first | (with_reducible first | exact HB.out | apply below_alloc | apply pw_below_drewN | apply below_drew1) | exact HB.out))) : w.heap.size ≤ gb108)); have n3_ := Aside0.mk ((by rw [hg]; exact (below_size (by repeat (first | (with_reducible first | exact HB.out | apply below_alloc | apply pw_below_drewN | apply below_drew1) | exact HB.out))) : w.heap.size ≤ gb108)); clear HB; have HB := n0_; have BK108 := n1_; have GW108 := n2_; have GE108 := n3_; clear n0_ n1_ n2_ n3_; clear hb hbox hg; have hcz9_0 : w8.cell? ⟨gb108, 0, none⟩ = some (.slice A0_0 l0_0.length c0_0) := (blk_cell BK108.out 0).trans rfl; have hfz9_0 := blk_frozen BK108.out 0) | ((with_reducible refine gate_callee (f := 56) rfl ?_); refine goesL_ (some 8) rfl rfl Try.func56 (by kernel_rfl) rfl #[.slice A0_0 l0_0.length c0_0, .int .i64 a1] rfl (by (try simp only [List.map_toArray, List.map_cons, List.map_nil]); first | done | rfl | (simp only [List.length_drop, List.length_take]; rfl)) ?_; (with_reducible refine (laws_szPageS.calls k _ _ l0_0 a1 t109 _ ?side1 ?side2 A3.out).mono ?_); (case side1 => repeat (first | exact (Kd.C_below HR0_0.out HB.out) | (with_reducible refine Kd.C_alloc ?_ _) | (with_reducible refine Kd.C_drewN ?_ _) | (with_reducible refine Kd.C_drew ?_))); (case side2 => exact HC0_0.out); rintro e w10 ⟨rfl, hb⟩; refine ⟨_, rfl, ?_⟩; have n0_ := Aside0.mk (blk_below (g := gb108) (o := .cells #[.slice A0_0 l0_0.length c0_0] 24 (0, 0)) (by (with_reducible repeat (first | refine blk_drewN ?_ _ | refine blk_drew ?_ | refine blk_alloc ?_ _)); exact BK108.out) hb); have n1_ := Aside0.mk (below_step (by repeat (first | (with_reducible first | exact HB.out | apply below_alloc | apply pw_below_drewN | apply below_drew1 | refine below_set ?_ GE108.out) | exact HB.out)) hb); clear BK108; clear HB; have BK108 := n0_; have HB := n1_; clear n0_ n1_; (try clear hb); (try clear hb2); (try clear hk); (try clear hi)))
    go_ret
    exact ⟨by first | rfl | (simp [errW_none, errW_some] <;> rfl) | (simp [*, errW_none, errW_some] <;> rfl), by repeat (first | (with_reducible first | exact HB.out | apply below_alloc | apply pw_below_drewN | apply below_drew1 | refine below_set ?_ GE108.out) | exact HB.out)⟩

end Go.Proofs.Ytoddejmlcnbdmaa.Fn
namespace Go.Proofs.Ytoddejmlcnbdmaa.Fn
open Go.RowKit Go.Proofs.YtoddejmlcnbdmaaW.PrintWords Go.Proofs.YtoddejmlcnbdmaaW.PrintLast Go.Proofs.YtoddejmlcnbdmaaW.PrintMore
attribute [local go_sem] max2_int min2_int max_two min_two max_three min_three max_four min_four   -- for this text's walks alone
set_option linter.unusedVariables false
set_option linter.unusedSimpArgs false

/-! ### laws_eqStringS: function 26 -/
def laws_eqStringS.l0 : Nat → List ByteArray → List ByteArray → Int → Option (Bool)
  | 0, _, _, _ => none
  | k + 1, x0, x1, x5 => if x5 < (x0.length : Int) then (if 0 ≤ x5 then (if x5 < (x1.length : Int) then (if (rdOf ByteArray.empty x0 x5).toList = (rdOf ByteArray.empty x1 x5).toList then (laws_eqStringS.l0 k x0 x1 (wrap64 (x5 + 1))) else (some false)) else (none)) else (none)) else (some true)
def laws_eqStringS.f (k : Nat) (l0 : List ByteArray) (l1 : List ByteArray) : Option (Bool) := if (l0.length : Int) = (l1.length : Int) then (laws_eqStringS.l0 k l0 l1 0) else (some false)
theorem laws_eqStringS.mono_l : ∀ k, (∀ y0 y1 y2, LeO (laws_eqStringS.l0 k y0 y1 y2) (laws_eqStringS.l0 (k + 1) y0 y1 y2))
  | 0 => fun _ _ _ r h => by simp [laws_eqStringS.l0] at h
  | k + 1 => by
    have ih0 := laws_eqStringS.mono_l k
    · intro y0 y1 y2
      unfold laws_eqStringS.l0
      repeat' first
      | (with_reducible exact ih0 _ _ _)
      | (with_reducible exact LeO.refl _)
      | (with_reducible exact LeO.none _)
      | (with_reducible refine LeO.ite ?_ ?_)
      | (with_reducible refine LeO.bind ?_ (fun _ => ?_))
      | exact ih0 _ _ _
      | exact LeO.none _
      | refine LeO.ite ?_ ?_
      | refine LeO.bind ?_ (fun _ => ?_)
theorem laws_eqStringS.mono : ∀ a0 a1 k, LeO (laws_eqStringS.f k a0 a1) (laws_eqStringS.f (k + 1) a0 a1) := by
  intro a0 a1 k
  have ih0 := laws_eqStringS.mono_l k
  unfold laws_eqStringS.f
  repeat' first
      | (with_reducible exact ih0 _ _ _)
      | (with_reducible exact LeO.refl _)
      | (with_reducible exact LeO.none _)
      | (with_reducible refine LeO.ite ?_ ?_)
      | (with_reducible refine LeO.bind ?_ (fun _ => ?_))
      | exact ih0 _ _ _
      | exact LeO.none _
      | refine LeO.ite ?_ ?_
      | refine LeO.bind ?_ (fun _ => ?_)
set_option maxHeartbeats 8000000 in
set_option maxRecDepth 100000 in
theorem laws_eqStringS.calls (k : Nat) (A0 : Option Addr) (c0 : Nat) (l0 : List ByteArray) (A1 : Option Addr) (c1 : Nat) (l1 : List ByteArray) (r : Bool) (w : World) (hr0 : Kd.C Kd.string w A0 l0.length l0) (hc0 : l0.length ≤ c0) (hr1 : Kd.C Kd.string w A1 l1.length l1) (hc1 : l1.length ≤ c1) (h : laws_eqStringS.f k l0 l1 = some r) :
    Calls Try.prog 26 #[.slice A0 l0.length c0, .slice A1 l1.length c1] w fun e w' => e = .returned (.bool r) ∧ Drawn0 w w' := by
  have HR0 := Aside0.mk hr0
  have HC0 := Aside0.mk hc0
  clear hr0 hc0
  have HR1 := Aside0.mk hr1
  have HC1 := Aside0.mk hc1
  clear hr1 hc1
  have H : (if (l0.length : Int) = (l1.length : Int) then (laws_eqStringS.l0 k l0 l1 0) else (some false)) = some r := h
  clear h
  by_cases c3 : (l0.length : Int) = (l1.length : Int)
  · rw [if_pos c3] at H
    have c3b0 : ((l0.length : Int) == (l1.length : Int)) = true := beq_iff_eq.mpr c3
    have c3b1 : ((l0.length : Int) != (l1.length : Int)) = false := bne_eq_false_iff_eq.mpr c3
    have c3b2 : (l0.length == l1.length) = true := by first | simpa using c3 | (simp at c3 ⊢; omega)
    clear c3
    have H' := Aside0.mk H
    clear H
    go_enter Try.func26, Try.ntmps26
    go_wp2
    repeat (go_quiet (fail); try go_wp2)
    go_loopg [5] k (fun kq v5 w' => ∃ (x5_1 : Int), v5 = .int .i64 x5_1 ∧ Aside0 (laws_eqStringS.l0 kq l0 l1 x5_1 = some r) ∧ Aside0 (kq ≤ k) ∧ Drawn0 w w')
    case atStart => exact ⟨(0), (by first | rfl | (simp; done) | (simp [*]; done)), H', ⟨Nat.le_refl _⟩, by repeat (first | exact Drawn0.refl _ | apply Drawn0.step)⟩
    case round =>
      clear H'
      try clear c1
      try clear c2
      try clear p2
      try clear c3
      try clear c3b0
      try clear c3b1
      try clear c3b2
      obtain ⟨x5_1, rfl, HA, HK1, ⟨m1, rfl⟩⟩ := hrel
      cases gk with
      | zero => exact absurd HA.out (by simp [laws_eqStringS.l0])
      | succ k1 =>
        have H := HA.out
        clear HA
        simp only [laws_eqStringS.l0] at H
        by_cases c4 : x5_1 < (l0.length : Int)
        · rw [if_pos c4] at H
          have c4b0 : decide (x5_1 < (l0.length : Int)) = true := decide_eq_true c4
          clear c4
          by_cases c5 : 0 ≤ x5_1
          · rw [if_pos c5] at H
            have c5b0 : decide (0 ≤ x5_1) = true := decide_eq_true c5
            clear c5
            by_cases c6 : x5_1 < (l1.length : Int)
            · rw [if_pos c6] at H
              have c6b0 : decide (x5_1 < (l1.length : Int)) = true := decide_eq_true c6
              clear c6
              by_cases c7 : (rdOf ByteArray.empty l0 x5_1).toList = (rdOf ByteArray.empty l1 x5_1).toList
              · rw [if_pos c7] at H
                have c7b0 : ((rdOf ByteArray.empty l0 x5_1).toList == (rdOf ByteArray.empty l1 x5_1).toList) = true := beq_iff_eq.mpr c7
                have c7b1 : ((rdOf ByteArray.empty l0 x5_1).toList != (rdOf ByteArray.empty l1 x5_1).toList) = false := bne_eq_false_iff_eq.mpr c7
                clear c7
                have H' := Aside0.mk H
                clear H
                have p152 : 0 ≤ (x5_1 : Int) := of_decide_eq_true (by first | (with_reducible assumption) | assumption)
                have q152 : x5_1 < (l0.length : Int) := of_decide_eq_true (by first | (with_reducible assumption) | assumption)
                obtain ⟨ad152, e152, hx152_0⟩ := Kd.at_string HR0.out x5_1 p152 q152
                cases e152
                replace p152 := eq_true p152
                replace q152 := eq_true q152
                have p153 : 0 ≤ (x5_1 : Int) := of_decide_eq_true (by first | (with_reducible assumption) | assumption)
                have q153 : x5_1 < (l1.length : Int) := of_decide_eq_true (by first | (with_reducible assumption) | assumption)
                obtain ⟨ad153, e153, hx153_0⟩ := Kd.at_string HR1.out x5_1 p153 q153
                cases e153
                replace p153 := eq_true p153
                replace q153 := eq_true q153
                go_wp2
                repeat (go_quiet (fail); try go_wp2)
                go_roundg k1
                case measure => have := HK1.out; omega
                case rel => exact ⟨(wrap64 (x5_1 + 1)), (by first | rfl | (simp; done) | (simp [*]; done)), H', ⟨by have := HK1.out; omega⟩, by repeat (first | exact Drawn0.refl _ | apply Drawn0.step)⟩
              · rw [if_neg c7] at H
                have c7b0 : ((rdOf ByteArray.empty l0 x5_1).toList == (rdOf ByteArray.empty l1 x5_1).toList) = false := beq_eq_false_iff_ne.mpr c7
                have c7b1 : ((rdOf ByteArray.empty l0 x5_1).toList != (rdOf ByteArray.empty l1 x5_1).toList) = true := bne_iff_ne.mpr c7
                obtain rfl := Option.some.inj H
                have p152 : 0 ≤ (x5_1 : Int) := of_decide_eq_true (by first | (with_reducible assumption) | assumption)
                have q152 : x5_1 < (l0.length : Int) := of_decide_eq_true (by first | (with_reducible assumption) | assumption)
                obtain ⟨ad152, e152, hx152_0⟩ := Kd.at_string HR0.out x5_1 p152 q152
                cases e152
                replace p152 := eq_true p152
                replace q152 := eq_true q152
                have p153 : 0 ≤ (x5_1 : Int) := of_decide_eq_true (by first | (with_reducible assumption) | assumption)
                have q153 : x5_1 < (l1.length : Int) := of_decide_eq_true (by first | (with_reducible assumption) | assumption)
                obtain ⟨ad153, e153, hx153_0⟩ := Kd.at_string HR1.out x5_1 p153 q153
                cases e153
                replace p153 := eq_true p153
                replace q153 := eq_true q153
                go_wp2
                repeat (go_quiet (fail); try go_wp2)
                go_ret
                exact ⟨by first | rfl | (simp; done) | (simp [*]; done), by repeat (first | exact Drawn0.refl _ | apply Drawn0.step)⟩
            · rw [if_neg c6] at H
              exact absurd H (by simp)
          · rw [if_neg c5] at H
            exact absurd H (by simp)
        · rw [if_neg c4] at H
          have c4b0 : decide (x5_1 < (l0.length : Int)) = false := decide_eq_false c4
          clear c4
          obtain rfl := Option.some.inj H
          go_wp2
          repeat (go_quiet (fail); try go_wp2)
          go_ret
          exact ⟨by first | rfl | (simp; done) | (simp [*]; done), by repeat (first | exact Drawn0.refl _ | apply Drawn0.step)⟩
  · rw [if_neg c3] at H
    have c3b0 : ((l0.length : Int) == (l1.length : Int)) = false := beq_eq_false_iff_ne.mpr c3
    have c3b1 : ((l0.length : Int) != (l1.length : Int)) = true := bne_iff_ne.mpr c3
    have c3b2 : (l0.length == l1.length) = false := by first | simpa using c3 | (simp at c3 ⊢; omega)
    obtain rfl := Option.some.inj H
    go_enter Try.func26, Try.ntmps26
    go_wp2
    repeat (go_quiet (fail); try go_wp2)
    go_ret
    exact ⟨by first | rfl | (simp; done) | (simp [*]; done), by repeat (first | exact Drawn0.refl _ | apply Drawn0.step)⟩

end Go.Proofs.Ytoddejmlcnbdmaa.Fn
namespace Go.Proofs.Ytoddejmlcnbdmaa.Fn
open Go.RowKit Go.Proofs.YtoddejmlcnbdmaaW.PrintWords Go.Proofs.YtoddejmlcnbdmaaW.PrintLast Go.Proofs.YtoddejmlcnbdmaaW.PrintMore
attribute [local go_sem] max2_int min2_int max_two min_two max_three min_three max_four min_four   -- for this text's walks alone
set_option linter.unusedVariables false
set_option linter.unusedSimpArgs false

/-! ### laws_eqIntS: function 121 -/
def laws_eqIntS.l0 : Nat → List Int → List Int → Int → Option (Bool)
  | 0, _, _, _ => none
  | k + 1, x0, x1, x5 => if x5 < (x0.length : Int) then (if 0 ≤ x5 then (if x5 < (x1.length : Int) then (if (rd x0 x5) = (rd x1 x5) then (laws_eqIntS.l0 k x0 x1 (wrap64 (x5 + 1))) else (some false)) else (none)) else (none)) else (some true)
def laws_eqIntS.f (k : Nat) (l0 : List Int) (l1 : List Int) : Option (Bool) := if (l0.length : Int) = (l1.length : Int) then (laws_eqIntS.l0 k l0 l1 0) else (some false)
theorem laws_eqIntS.mono_l : ∀ k, (∀ y0 y1 y2, LeO (laws_eqIntS.l0 k y0 y1 y2) (laws_eqIntS.l0 (k + 1) y0 y1 y2))
  | 0 => fun _ _ _ r h => by simp [laws_eqIntS.l0] at h
  | k + 1 => by
    have ih0 := laws_eqIntS.mono_l k
    · intro y0 y1 y2
      unfold laws_eqIntS.l0
      repeat' first
      | (with_reducible exact ih0 _ _ _)
      | (with_reducible exact LeO.refl _)
      | (with_reducible exact LeO.none _)
      | (with_reducible refine LeO.ite ?_ ?_)
      | (with_reducible refine LeO.bind ?_ (fun _ => ?_))
      | exact ih0 _ _ _
      | exact LeO.none _
      | refine LeO.ite ?_ ?_
      | refine LeO.bind ?_ (fun _ => ?_)
theorem laws_eqIntS.mono : ∀ a0 a1 k, LeO (laws_eqIntS.f k a0 a1) (laws_eqIntS.f (k + 1) a0 a1) := by
  intro a0 a1 k
  have ih0 := laws_eqIntS.mono_l k
  unfold laws_eqIntS.f
  repeat' first
      | (with_reducible exact ih0 _ _ _)
      | (with_reducible exact LeO.refl _)
      | (with_reducible exact LeO.none _)
      | (with_reducible refine LeO.ite ?_ ?_)
      | (with_reducible refine LeO.bind ?_ (fun _ => ?_))
      | exact ih0 _ _ _
      | exact LeO.none _
      | refine LeO.ite ?_ ?_
      | refine LeO.bind ?_ (fun _ => ?_)
set_option maxHeartbeats 8000000 in
set_option maxRecDepth 100000 in
theorem laws_eqIntS.calls (k : Nat) (A0 : Option Addr) (c0 : Nat) (l0 : List Int) (A1 : Option Addr) (c1 : Nat) (l1 : List Int) (r : Bool) (w : World) (hr0 : Kd.C (Kd.int .i64) w A0 l0.length l0) (hc0 : l0.length ≤ c0) (hr1 : Kd.C (Kd.int .i64) w A1 l1.length l1) (hc1 : l1.length ≤ c1) (h : laws_eqIntS.f k l0 l1 = some r) :
    Calls Try.prog 121 #[.slice A0 l0.length c0, .slice A1 l1.length c1] w fun e w' => e = .returned (.bool r) ∧ Drawn0 w w' := by
  have HR0 := Aside0.mk hr0
  have HC0 := Aside0.mk hc0
  clear hr0 hc0
  have HR1 := Aside0.mk hr1
  have HC1 := Aside0.mk hc1
  clear hr1 hc1
  have H : (if (l0.length : Int) = (l1.length : Int) then (laws_eqIntS.l0 k l0 l1 0) else (some false)) = some r := h
  clear h
  by_cases c3 : (l0.length : Int) = (l1.length : Int)
  · rw [if_pos c3] at H
    have c3b0 : ((l0.length : Int) == (l1.length : Int)) = true := beq_iff_eq.mpr c3
    have c3b1 : ((l0.length : Int) != (l1.length : Int)) = false := bne_eq_false_iff_eq.mpr c3
    have c3b2 : (l0.length == l1.length) = true := by first | simpa using c3 | (simp at c3 ⊢; omega)
    clear c3
    have H' := Aside0.mk H
    clear H
    go_enter Try.func121, Try.ntmps121
    go_wp2
    repeat (go_quiet (fail); try go_wp2)
    go_loopg [5] k (fun kq v5 w' => ∃ (x5_1 : Int), v5 = .int .i64 x5_1 ∧ Aside0 (laws_eqIntS.l0 kq l0 l1 x5_1 = some r) ∧ Aside0 (kq ≤ k) ∧ Drawn0 w w')
    case atStart => exact ⟨(0), (by first | rfl | (simp; done) | (simp [*]; done)), H', ⟨Nat.le_refl _⟩, by repeat (first | exact Drawn0.refl _ | apply Drawn0.step)⟩
    case round =>
      clear H'
      try clear c1
      try clear p2
      try clear c3
      try clear c3b0
      try clear c3b1
      try clear c3b2
      obtain ⟨x5_1, rfl, HA, HK1, ⟨m1, rfl⟩⟩ := hrel
      cases gk with
      | zero => exact absurd HA.out (by simp [laws_eqIntS.l0])
      | succ k1 =>
        have H := HA.out
        clear HA
        simp only [laws_eqIntS.l0] at H
        by_cases c4 : x5_1 < (l0.length : Int)
        · rw [if_pos c4] at H
          have c4b0 : decide (x5_1 < (l0.length : Int)) = true := decide_eq_true c4
          clear c4
          by_cases c5 : 0 ≤ x5_1
          · rw [if_pos c5] at H
            have c5b0 : decide (0 ≤ x5_1) = true := decide_eq_true c5
            clear c5
            by_cases c6 : x5_1 < (l1.length : Int)
            · rw [if_pos c6] at H
              have c6b0 : decide (x5_1 < (l1.length : Int)) = true := decide_eq_true c6
              clear c6
              by_cases c7 : (rd l0 x5_1) = (rd l1 x5_1)
              · rw [if_pos c7] at H
                have c7b0 : ((rd l0 x5_1) == (rd l1 x5_1)) = true := beq_iff_eq.mpr c7
                have c7b1 : ((rd l0 x5_1) != (rd l1 x5_1)) = false := bne_eq_false_iff_eq.mpr c7
                clear c7
                have H' := Aside0.mk H
                clear H
                have p154 : 0 ≤ (x5_1 : Int) := of_decide_eq_true (by first | (with_reducible assumption) | assumption)
                have q154 : x5_1 < (l0.length : Int) := of_decide_eq_true (by first | (with_reducible assumption) | assumption)
                obtain ⟨ad154, e154, hx154_0⟩ := Kd.at_int HR0.out x5_1 p154 q154
                cases e154
                replace p154 := eq_true p154
                replace q154 := eq_true q154
                have p155 : 0 ≤ (x5_1 : Int) := of_decide_eq_true (by first | (with_reducible assumption) | assumption)
                have q155 : x5_1 < (l1.length : Int) := of_decide_eq_true (by first | (with_reducible assumption) | assumption)
                obtain ⟨ad155, e155, hx155_0⟩ := Kd.at_int HR1.out x5_1 p155 q155
                cases e155
                replace p155 := eq_true p155
                replace q155 := eq_true q155
                go_wp2
                repeat (go_quiet (fail); try go_wp2)
                go_roundg k1
                case measure => have := HK1.out; omega
                case rel => exact ⟨(wrap64 (x5_1 + 1)), (by first | rfl | (simp; done) | (simp [*]; done)), H', ⟨by have := HK1.out; omega⟩, by repeat (first | exact Drawn0.refl _ | apply Drawn0.step)⟩
              · rw [if_neg c7] at H
                have c7b0 : ((rd l0 x5_1) == (rd l1 x5_1)) = false := beq_eq_false_iff_ne.mpr c7
                have c7b1 : ((rd l0 x5_1) != (rd l1 x5_1)) = true := bne_iff_ne.mpr c7
                obtain rfl := Option.some.inj H
                have p154 : 0 ≤ (x5_1 : Int) := of_decide_eq_true (by first | (with_reducible assumption) | assumption)
                have q154 : x5_1 < (l0.length : Int) := of_decide_eq_true (by first | (with_reducible assumption) | assumption)
                obtain ⟨ad154, e154, hx154_0⟩ := Kd.at_int HR0.out x5_1 p154 q154
                cases e154
                replace p154 := eq_true p154
                replace q154 := eq_true q154
                have p155 : 0 ≤ (x5_1 : Int) := of_decide_eq_true (by first | (with_reducible assumption) | assumption)
                have q155 : x5_1 < (l1.length : Int) := of_decide_eq_true (by first | (with_reducible assumption) | assumption)
                obtain ⟨ad155, e155, hx155_0⟩ := Kd.at_int HR1.out x5_1 p155 q155
                cases e155
                replace p155 := eq_true p155
                replace q155 := eq_true q155
                go_wp2
                repeat (go_quiet (fail); try go_wp2)
                go_ret
                exact ⟨by first | rfl | (simp; done) | (simp [*]; done), by repeat (first | exact Drawn0.refl _ | apply Drawn0.step)⟩
            · rw [if_neg c6] at H
              exact absurd H (by simp)
          · rw [if_neg c5] at H
            exact absurd H (by simp)
        · rw [if_neg c4] at H
          have c4b0 : decide (x5_1 < (l0.length : Int)) = false := decide_eq_false c4
          clear c4
          obtain rfl := Option.some.inj H
          go_wp2
          repeat (go_quiet (fail); try go_wp2)
          go_ret
          exact ⟨by first | rfl | (simp; done) | (simp [*]; done), by repeat (first | exact Drawn0.refl _ | apply Drawn0.step)⟩
  · rw [if_neg c3] at H
    have c3b0 : ((l0.length : Int) == (l1.length : Int)) = false := beq_eq_false_iff_ne.mpr c3
    have c3b1 : ((l0.length : Int) != (l1.length : Int)) = true := bne_iff_ne.mpr c3
    have c3b2 : (l0.length == l1.length) = false := by first | simpa using c3 | (simp at c3 ⊢; omega)
    obtain rfl := Option.some.inj H
    go_enter Try.func121, Try.ntmps121
    go_wp2
    repeat (go_quiet (fail); try go_wp2)
    go_ret
    exact ⟨by first | rfl | (simp; done) | (simp [*]; done), by repeat (first | exact Drawn0.refl _ | apply Drawn0.step)⟩

end Go.Proofs.Ytoddejmlcnbdmaa.Fn
