/- The law FnExactReadRow holds of the given program: at every input it answers true and leaves its arguments as they were; no condition. -/
import Derived.Test.YtpfgjjbkcifpfaaWWords
import Derived.Test.YtpfgjjbkcifpfaaWMore
import Derived.OpenShut
import Derived.WideShapes
import Derived.Lib.Strings
import Derived.Laws.BitsLemmas
import Derived.Laws.BytesArg
import Derived.ChangeArms
import Derived.ChangeSame
import Derived.Deep.Slices
import Derived.Deep.Strs
import Derived.Deep.Fields
import Derived.Lib.SmallJoins
import Derived.Test.YtpfgjjbkcifpfaaRows
import Derived.WalkKit
import Derived.ProofKit
import Derived.ShutString
import Derived.ChangeOld
import Derived.Below
import Derived.SizedLaws
import Derived.Carry
import Derived.Test.YtpfgjjbkcifpfaaCXReadRowA
import Derived.Test.YtpfgjjbkcifpfaaCXReadRowB
namespace Go.Proofs.Ytpfgjjbkcifpfaa.Fn
open Go.RowKit Go.Proofs.YtpfgjjbkcifpfaaW.PrintWords Go.Proofs.YtpfgjjbkcifpfaaW.PrintLast Go.Proofs.YtpfgjjbkcifpfaaW.PrintMore
attribute [local go_sem] max2_int min2_int max_two min_two max_three min_three max_four min_four   -- for this text's walks alone
set_option linter.unusedVariables false
set_option linter.unusedSimpArgs false

/-! ### laws_FnExactReadRow: function 4 -/
mutual
def laws_FnExactReadRow.j0 : Nat → ByteArray → List (S23) → Bool → List (S23) → Bool → Option (Bool)
  | 0, _, _, _, _, _ => none
  | k + 1, x0, x3, x4, x5, x32 => if x32 = true then (some false) else ((laws_markValueS.f k x5 1).bind fun bt193 => ((laws_heldValueS.f k bt193.2 1).bind fun t195 => (if t195 < 0 then (some false) else (if t195 = bt193.1 then ((impl_ReadRow.f k x0).bind fun bt196 => ((laws_eqValueS.f k bt196.1 x3).bind fun t200 => (if t200 = true then (laws_FnExactReadRow.j1 k bt193.2 bt193.1 (bt196.2 != x4)) else (laws_FnExactReadRow.j1 k bt193.2 bt193.1 true)))) else (some false)))))
def laws_FnExactReadRow.j1 : Nat → List (S23) → Int → Bool → Option (Bool)
  | 0, _, _, _ => none
  | k + 1, x5, x7, x57 => if x57 = true then (some false) else ((laws_heldValueS.f k x5 1).bind fun t201 => (if t201 < 0 then (some false) else (if t201 = x7 then (some true) else (some false))))
end
def laws_FnExactReadRow.f (k : Nat) (a0 : ByteArray) : Option (Bool) := if (a0.size : Int) > 1048576 then (some true) else ((spec_ReadRow.f k a0).bind fun bt184 => ((impl_ReadRow.f k a0).bind fun bt188 => ((laws_eqValueS.f k bt188.1 bt184.1).bind fun t192 => (if t192 = true then (laws_FnExactReadRow.j0 k a0 bt184.1 bt184.2 bt188.1 (bt188.2 != bt184.2)) else (laws_FnExactReadRow.j0 k a0 bt184.1 bt184.2 bt188.1 true)))))
theorem laws_FnExactReadRow.mono_l : ∀ k, (∀ y0 y1 y2 y3 y4, LeO (laws_FnExactReadRow.j0 k y0 y1 y2 y3 y4) (laws_FnExactReadRow.j0 (k + 1) y0 y1 y2 y3 y4)) ∧ (∀ y0 y1 y2, LeO (laws_FnExactReadRow.j1 k y0 y1 y2) (laws_FnExactReadRow.j1 (k + 1) y0 y1 y2))
  | 0 => ⟨fun _ _ _ _ _ r h => by simp [laws_FnExactReadRow.j0] at h, fun _ _ _ r h => by simp [laws_FnExactReadRow.j1] at h⟩
  | k + 1 => by
    obtain ⟨ih0, ih1⟩ := laws_FnExactReadRow.mono_l k
    refine ⟨?_, ?_⟩
    · intro y0 y1 y2 y3 y4
      unfold laws_FnExactReadRow.j0
      repeat' first
      | (with_reducible exact ih0 _ _ _ _ _)
      | (with_reducible exact ih1 _ _ _)
      | (with_reducible exact impl_ReadRow.mono _ _)
      | (with_reducible exact laws_eqValueS.mono _ _ _)
      | (with_reducible exact laws_heldValueS.mono _ _ _)
      | (with_reducible exact laws_markValueS.mono _ _ _)
      | (with_reducible exact spec_ReadRow.mono _ _)
      | (with_reducible exact LeO.refl _)
      | (with_reducible exact LeO.none _)
      | (with_reducible refine LeO.ite ?_ ?_)
      | (with_reducible refine LeO.bind ?_ (fun _ => ?_))
      | exact ih0 _ _ _ _ _
      | exact ih1 _ _ _
      | exact impl_ReadRow.mono _ _
      | exact laws_eqValueS.mono _ _ _
      | exact laws_heldValueS.mono _ _ _
      | exact laws_markValueS.mono _ _ _
      | exact spec_ReadRow.mono _ _
      | exact LeO.none _
      | refine LeO.ite ?_ ?_
      | refine LeO.bind ?_ (fun _ => ?_)
    · intro y0 y1 y2
      unfold laws_FnExactReadRow.j1
      repeat' first
      | (with_reducible exact ih0 _ _ _ _ _)
      | (with_reducible exact ih1 _ _ _)
      | (with_reducible exact impl_ReadRow.mono _ _)
      | (with_reducible exact laws_eqValueS.mono _ _ _)
      | (with_reducible exact laws_heldValueS.mono _ _ _)
      | (with_reducible exact laws_markValueS.mono _ _ _)
      | (with_reducible exact spec_ReadRow.mono _ _)
      | (with_reducible exact LeO.refl _)
      | (with_reducible exact LeO.none _)
      | (with_reducible refine LeO.ite ?_ ?_)
      | (with_reducible refine LeO.bind ?_ (fun _ => ?_))
      | exact ih0 _ _ _ _ _
      | exact ih1 _ _ _
      | exact impl_ReadRow.mono _ _
      | exact laws_eqValueS.mono _ _ _
      | exact laws_heldValueS.mono _ _ _
      | exact laws_markValueS.mono _ _ _
      | exact spec_ReadRow.mono _ _
      | exact LeO.none _
      | refine LeO.ite ?_ ?_
      | refine LeO.bind ?_ (fun _ => ?_)
theorem laws_FnExactReadRow.mono : ∀ a0 k, LeO (laws_FnExactReadRow.f k a0) (laws_FnExactReadRow.f (k + 1) a0) := by
  intro a0 k
  obtain ⟨ih0, ih1⟩ := laws_FnExactReadRow.mono_l k
  unfold laws_FnExactReadRow.f
  repeat' first
      | (with_reducible exact ih0 _ _ _ _ _)
      | (with_reducible exact ih1 _ _ _)
      | (with_reducible exact impl_ReadRow.mono _ _)
      | (with_reducible exact laws_eqValueS.mono _ _ _)
      | (with_reducible exact laws_heldValueS.mono _ _ _)
      | (with_reducible exact laws_markValueS.mono _ _ _)
      | (with_reducible exact spec_ReadRow.mono _ _)
      | (with_reducible exact LeO.refl _)
      | (with_reducible exact LeO.none _)
      | (with_reducible refine LeO.ite ?_ ?_)
      | (with_reducible refine LeO.bind ?_ (fun _ => ?_))
      | exact ih0 _ _ _ _ _
      | exact ih1 _ _ _
      | exact impl_ReadRow.mono _ _
      | exact laws_eqValueS.mono _ _ _
      | exact laws_heldValueS.mono _ _ _
      | exact laws_markValueS.mono _ _ _
      | exact spec_ReadRow.mono _ _
      | exact LeO.none _
      | refine LeO.ite ?_ ?_
      | refine LeO.bind ?_ (fun _ => ?_)
set_option maxHeartbeats 8000000 in
set_option maxRecDepth 100000 in
theorem laws_FnExactReadRow.calls (k : Nat) (a0 : ByteArray) (r : Bool) (w : World) (h : laws_FnExactReadRow.f k a0 = some r) (ht : r = true) :
    Calls Try.prog 4 #[.string a0] w fun e w' => e = .returned (.bool r) ∧ Below w.heap.size w w' := by
  have HT := Aside0.mk ht
  clear ht
  have HB := Aside0.mk (Below.refl w.heap.size w)
  have H : (if (a0.size : Int) > 1048576 then (some true) else ((spec_ReadRow.f k a0).bind fun bt184 => ((impl_ReadRow.f k a0).bind fun bt188 => ((laws_eqValueS.f k bt188.1 bt184.1).bind fun t192 => (if t192 = true then (laws_FnExactReadRow.j0 k a0 bt184.1 bt184.2 bt188.1 (bt188.2 != bt184.2)) else (laws_FnExactReadRow.j0 k a0 bt184.1 bt184.2 bt188.1 true)))))) = some r := h
  clear h
  by_cases c2 : (a0.size : Int) > 1048576
  · rw [if_pos c2] at H
    have c2b0 : decide (1048576 < (a0.size : Int)) = true := decide_eq_true c2
    have c2b1 : decide (1048576 < a0.size) = true := decide_eq_true (by omega)
    clear c2
    obtain rfl := Option.some.inj H
    go_enter Try.func4, Try.ntmps4
    go_wp2
    go_ret
    exact ⟨by first | rfl | (simp [errW_none, errW_some] <;> rfl) | (simp [*, errW_none, errW_some] <;> rfl), by repeat (first | (with_reducible first | exact HB.out | apply below_alloc | apply pw_below_drewN | apply below_drew1) | exact HB.out)⟩
  · rw [if_neg c2] at H
    have c2b0 : decide (1048576 < (a0.size : Int)) = false := decide_eq_false c2
    have c2b1 : decide (1048576 < a0.size) = false := decide_eq_false (by omega)
    clear c2
    replace H := Option.bind_eq_some_iff.mp H
    obtain ⟨⟨t184, t185⟩, A30, H⟩ := H
    replace H : ((impl_ReadRow.f k a0).bind fun bt188 => ((laws_eqValueS.f k bt188.1 t184).bind fun t192 => (if t192 = true then (laws_FnExactReadRow.j0 k a0 t184 t185 bt188.1 (bt188.2 != t185)) else (laws_FnExactReadRow.j0 k a0 t184 t185 bt188.1 true)))) = some r := H
    have A3 := Aside0.mk A30
    clear A30
    replace H := Option.bind_eq_some_iff.mp H
    obtain ⟨⟨t188, t189⟩, A40, H⟩ := H
    replace H : ((laws_eqValueS.f k t188 t184).bind fun t192 => (if t192 = true then (laws_FnExactReadRow.j0 k a0 t184 t185 t188 (t189 != t185)) else (laws_FnExactReadRow.j0 k a0 t184 t185 t188 true))) = some r := H
    have A4 := Aside0.mk A40
    clear A40
    have HC5 := Aside0.mk H
    clear H
    go_enter Try.func4, Try.ntmps4
    go_upto_region 5 with (first | ((with_reducible refine gate_callee (f := 8) rfl ?_); refine goesL_ (some 16) rfl rfl Try.func8 (by kernel_rfl) rfl #[.string a0] rfl (by (try simp only [List.map_toArray, List.map_cons, List.map_nil]); first | done | rfl | (simp only [List.length_drop, List.length_take]; rfl)) ?_; (with_reducible refine (spec_ReadRow.calls k a0 t184 t185 _ A3.out).mono ?_); rintro e w6 ⟨v186, rfl, ho0, hb⟩; refine ⟨_, rfl, ?_⟩; have n0_ := Aside0.mk (Kd.R_lower ho0 (below_size (by repeat (first | (with_reducible first | exact HB.out | apply below_alloc | apply pw_below_drewN | apply below_drew1) | exact HB.out)))); have n1_ := Aside0.mk (below_step (by repeat (first | (with_reducible first | exact HB.out | apply below_alloc | apply pw_below_drewN | apply below_drew1) | exact HB.out)) hb); clear HB; have HO187 := n0_; have HB := n1_; clear n0_ n1_; (try clear hb); (try clear hb2); (try clear hk); (try clear hi); (try clear ho0)) | ((with_reducible refine gate_callee (f := 9) rfl ?_); refine goesL_ (some 21) rfl rfl Try.func9 (by kernel_rfl) rfl #[.string a0] rfl (by (try simp only [List.map_toArray, List.map_cons, List.map_nil]); first | done | rfl | (simp only [List.length_drop, List.length_take]; rfl)) ?_; (with_reducible refine (impl_ReadRow.calls k a0 t188 t189 _ A4.out).mono ?_); rintro e w7 ⟨v190, rfl, ho0, hb⟩; refine ⟨_, rfl, ?_⟩; have n0_ := Aside0.mk (Kd.R_elder' (by (with_reducible repeat (first | apply Kd.R_alloc | apply Kd.R_drewN | apply Kd.R_drew)); exact HO187.out) (Kd.R_base ho0) hb); have n1_ := Aside0.mk (Kd.R_lower (Kd.R_new' ho0 (Kd.R_lt (by (with_reducible repeat (first | apply Kd.R_alloc | apply Kd.R_drewN | apply Kd.R_drew)); exact HO187.out))) (below_size (by repeat (first | (with_reducible first | exact HB.out | apply below_alloc | apply pw_below_drewN | apply below_drew1) | exact HB.out)))); have n2_ := Aside0.mk (below_step (by repeat (first | (with_reducible first | exact HB.out | apply below_alloc | apply pw_below_drewN | apply below_drew1) | exact HB.out)) hb); clear HO187; clear HB; have HO187 := n0_; have HO191 := n1_; have HB := n2_; clear n0_ n1_ n2_; (try clear hb); (try clear hb2); (try clear hk); (try clear hi); (try clear ho0)))
    (try simp only [Act.put, List.setIfInBounds_toArray, List.set_cons_zero, List.set_cons_succ])
    go_cut [32] (fun v32 wc => ∃ (kq : Nat) (x32_4 : Bool), v32 = .bool x32_4 ∧ Aside0 (laws_FnExactReadRow.j0 kq a0 t184 t185 t188 x32_4 = some r) ∧ Aside0 (kq ≤ k) ∧ Aside0 (Kd.R k23 23 wc w.heap.size (fun k_ => some k_ ≠ (v190 : Value).ownBlock) v186 t184) ∧ Aside0 (Kd.R k23 23 wc w.heap.size (fun k_ => some k_ ≠ (v186 : Value).ownBlock) v190 t188) ∧ Aside0 (Below w.heap.size w wc))
    case first =>
      have H := HC5.out
      clear HC5
      replace H := Option.bind_eq_some_iff.mp H
      obtain ⟨t192, A80, H⟩ := H
      replace H : (if t192 = true then (laws_FnExactReadRow.j0 k a0 t184 t185 t188 (t189 != t185)) else (laws_FnExactReadRow.j0 k a0 t184 t185 t188 true)) = some r := H
      have A8 := Aside0.mk A80
      clear A80
      by_cases c9 : t192 = true
      · subst c9
        have H1 : (laws_FnExactReadRow.j0 k a0 t184 t185 t188 (t189 != t185)) = some r := by rw [if_pos rfl] at H; exact H
        clear H
        have H := H1
        clear H1
        have H' := Aside0.mk H
        clear H
        obtain ⟨Ao10, co10, eo10⟩ := Kd.R_slice HO191.out
        subst eo10
        obtain ⟨Ao11, co11, eo11⟩ := Kd.R_slice HO187.out
        subst eo11
        go_wp2_with (first | ((with_reducible refine gate_callee (f := 10) rfl ?_); refine goesL_ (some 26) rfl rfl Try.func10 (by kernel_rfl) rfl #[.slice Ao10 t188.length co10, .slice Ao11 t184.length co11] rfl (by (try simp only [List.map_toArray, List.map_cons, List.map_nil]); first | done | rfl | (simp only [List.length_drop, List.length_take]; rfl)) ?_; (with_reducible refine (laws_eqValueS.calls k _ _ t188 _ _ t184 true _ ?side1 ?side2 ?side3 ?side4 A8.out).mono ?_); (case side1 => repeat (first | exact (Kd.R_reads' HO191.out).2.2 | (with_reducible refine Kd.C_alloc ?_ _) | (with_reducible refine Kd.C_drewN ?_ _) | (with_reducible refine Kd.C_drew ?_))); (case side2 => exact (Kd.R_reads' HO191.out).2.1); (case side3 => repeat (first | exact (Kd.R_reads' HO187.out).2.2 | (with_reducible refine Kd.C_alloc ?_ _) | (with_reducible refine Kd.C_drewN ?_ _) | (with_reducible refine Kd.C_drew ?_))); (case side4 => exact (Kd.R_reads' HO187.out).2.1); rintro e w12 ⟨rfl, hb⟩; refine ⟨_, rfl, ?_⟩; have n0_ := Aside0.mk (Kd.R_below (by (with_reducible repeat (first | apply Kd.R_alloc | apply Kd.R_drewN | apply Kd.R_drew)); exact HO187.out) hb); have n1_ := Aside0.mk (Kd.R_below (by (with_reducible repeat (first | apply Kd.R_alloc | apply Kd.R_drewN | apply Kd.R_drew)); exact HO191.out) hb); have n2_ := Aside0.mk (below_step (by repeat (first | (with_reducible first | exact HB.out | apply below_alloc | apply pw_below_drewN | apply below_drew1) | exact HB.out)) hb); clear HO187; clear HO191; clear HB; have HO187 := n0_; have HO191 := n1_; have HB := n2_; clear n0_ n1_ n2_; (try clear hb); (try clear hb2); (try clear hk); (try clear hi)))
        go_meet
        case rel => exact ⟨_, ((t189 != t185)), (by first | rfl | (simp; done) | (simp [*]; done)), H', ⟨by first | omega | exact Nat.le_refl _⟩, ⟨by (with_reducible repeat (first | apply Kd.R_alloc | apply Kd.R_drewN | apply Kd.R_drew)); exact Kd.R_mono HO187.out (fun _ hk => hk.2)⟩, ⟨by (with_reducible repeat (first | apply Kd.R_alloc | apply Kd.R_drewN | apply Kd.R_drew)); exact Kd.R_mono HO191.out (fun _ hk => hk.2)⟩, ⟨by repeat (first | (with_reducible first | exact HB.out | apply below_alloc | apply pw_below_drewN | apply below_drew1) | exact HB.out)⟩⟩
      · replace c9 := Bool.eq_false_iff.mpr c9
        subst c9
        have H1 : (laws_FnExactReadRow.j0 k a0 t184 t185 t188 true) = some r := by rw [if_neg (show ¬ (false = true) by decide)] at H; exact H
        clear H
        have H := H1
        clear H1
        exact (Go.Proofs.Ytpfgjjbkcifpfaa.Gen.no_true H (by cases k <;> simp [laws_FnExactReadRow.j0]) HT.out).elim
    case rest =>
      clear HC5
      try clear c1
      try clear c2
      try clear c2b0
      try clear c2b1
      try clear p2
      try clear c4
      try clear c8
      try clear c9
      try clear c10
      obtain ⟨kq, x32_4, rfl, HA, HJ4, HO_3, HO_5, HB⟩ := hcut
      cases kq with
      | zero => exact absurd HA.out (by simp [laws_FnExactReadRow.j0])
      | succ kj4 =>
        have H := HA.out
        clear HA
        simp only [laws_FnExactReadRow.j0] at H
        by_cases c13 : x32_4 = true
        · subst c13
          have H1 : (some false) = some r := by rw [if_pos rfl] at H; exact H
          clear H
          have H := H1
          clear H1
          exact absurd HT.out (by have H9 := Option.some.inj H; rw [← H9]; decide)
        · replace c13 := Bool.eq_false_iff.mpr c13
          subst c13
          have H1 : ((laws_markValueS.f kj4 t188 1).bind fun bt193 => ((laws_heldValueS.f kj4 bt193.2 1).bind fun t195 => (if t195 < 0 then (some false) else (if t195 = bt193.1 then ((impl_ReadRow.f kj4 a0).bind fun bt196 => ((laws_eqValueS.f kj4 bt196.1 t184).bind fun t200 => (if t200 = true then (laws_FnExactReadRow.j1 kj4 bt193.2 bt193.1 (bt196.2 != t185)) else (laws_FnExactReadRow.j1 kj4 bt193.2 bt193.1 true)))) else (some false))))) = some r := by rw [if_neg (show ¬ (false = true) by decide)] at H; exact H
          clear H
          have H := H1
          clear H1
          replace H := Option.bind_eq_some_iff.mp H
          obtain ⟨⟨t193, t194⟩, A140, H⟩ := H
          replace H : ((laws_heldValueS.f kj4 t194 1).bind fun t195 => (if t195 < 0 then (some false) else (if t195 = t193 then ((impl_ReadRow.f kj4 a0).bind fun bt196 => ((laws_eqValueS.f kj4 bt196.1 t184).bind fun t200 => (if t200 = true then (laws_FnExactReadRow.j1 kj4 t194 t193 (bt196.2 != t185)) else (laws_FnExactReadRow.j1 kj4 t194 t193 true)))) else (some false)))) = some r := H
          have A14 := Aside0.mk A140
          clear A140
          replace H := Option.bind_eq_some_iff.mp H
          obtain ⟨t195, A150, H⟩ := H
          replace H : (if t195 < 0 then (some false) else (if t195 = t193 then ((impl_ReadRow.f kj4 a0).bind fun bt196 => ((laws_eqValueS.f kj4 bt196.1 t184).bind fun t200 => (if t200 = true then (laws_FnExactReadRow.j1 kj4 t194 t193 (bt196.2 != t185)) else (laws_FnExactReadRow.j1 kj4 t194 t193 true)))) else (some false))) = some r := H
          have A15 := Aside0.mk A150
          clear A150
          by_cases c16 : t195 < 0
          · rw [if_pos c16] at H
            have c16b0 : decide (t195 < 0) = true := decide_eq_true c16
            clear c16
            exact absurd HT.out (by have H9 := Option.some.inj H; rw [← H9]; decide)
          · rw [if_neg c16] at H
            have c16b0 : decide (t195 < 0) = false := decide_eq_false c16
            clear c16
            by_cases c17 : t195 = t193
            · rw [if_pos c17] at H
              have c17b0 : (t195 == t193) = true := beq_iff_eq.mpr c17
              have c17b1 : (t195 != t193) = false := bne_eq_false_iff_eq.mpr c17
              clear c17
              replace H := Option.bind_eq_some_iff.mp H
              obtain ⟨⟨t196, t197⟩, A180, H⟩ := H
              replace H : ((laws_eqValueS.f kj4 t196 t184).bind fun t200 => (if t200 = true then (laws_FnExactReadRow.j1 kj4 t194 t193 (t197 != t185)) else (laws_FnExactReadRow.j1 kj4 t194 t193 true))) = some r := H
              have A18 := Aside0.mk A180
              clear A180
              have HC19 := Aside0.mk H
              clear H
              obtain ⟨Ao20, co20, eo20⟩ := Kd.R_slice HO_5.out
              subst eo20
              go_upto_region 16 with (first | ((with_reducible refine gate_callee (f := 11) rfl ?_); refine goesL_ (some 35) rfl rfl Try.func11 (by kernel_rfl) rfl #[.slice Ao20 t188.length co20, .int .i64 1] rfl (by (try simp only [List.map_toArray, List.map_cons, List.map_nil]); first | done | rfl | (simp only [List.length_drop, List.length_take]; rfl)) ?_; (with_reducible refine (laws_markValueS.calls kj4 (fun k_ => some k_ = (.slice Ao20 t188.length co20 : Value).ownBlock) (.slice Ao20 t188.length co20) t188 1 t193 t194 w _ ?side1 ?side2 A14.out).mono ?_); (case side1 => repeat (first | (with_reducible first | exact HB.out | apply below_alloc | apply pw_below_drewN | apply below_drew1) | exact HB.out)); (case side2 => exact Kd.R_tight rfl HO_5.out); rintro e w21 ⟨rfl, hy0, hb, hkp⟩; refine ⟨_, rfl, ?_⟩; have n0_ := Aside0.mk (Kd.R_mono (ok' := fun k_ => some k_ ≠ (.slice Ao20 t188.length co20 : Value).ownBlock) (Kd.R_keptB (HO_3.out) hkp (fun k_ hk_ hs_ => (hk_) hs_)) (fun k_ hk_ => hk_.1)); have n1_ := Aside0.mk (Kd.R_reok rfl hy0 (fun k_ e_ => HO_5.out.1 k_ e_)); have n2_ := Aside0.mk (hb); clear HO_3; clear HO_5; clear HB; have HO_3 := n0_; have HO_5 := n1_; have HB := n2_; clear n0_ n1_ n2_; (try clear hb); (try clear hkp); (try clear hy0)) | ((with_reducible refine gate_callee (f := 12) rfl ?_); refine goesL_ (some 38) rfl rfl Try.func12 (by kernel_rfl) rfl #[.slice Ao20 t194.length co20, .int .i64 1] rfl (by (try simp only [List.map_toArray, List.map_cons, List.map_nil]); first | done | (rw [show t194.length = t188.length from (Kd.R_reads' HO_5.out).1.symm] <;> rfl) | rfl | (simp only [List.length_drop, List.length_take]; rfl)) ?_; (with_reducible refine (laws_heldValueS.calls kj4 _ _ t194 1 t195 _ ?side1 ?side2 A15.out).mono ?_); (case side1 => repeat (first | exact (Kd.R_reads' HO_5.out).2.2 | (with_reducible refine Kd.C_alloc ?_ _) | (with_reducible refine Kd.C_drewN ?_ _) | (with_reducible refine Kd.C_drew ?_))); (case side2 => rw [show t194.length = t188.length from (Kd.R_reads' HO_5.out).1.symm]; exact (Kd.R_reads' HO_5.out).2.1); rintro e w22 ⟨rfl, hb⟩; refine ⟨_, rfl, ?_⟩; have n0_ := Aside0.mk (Kd.R_below (by (with_reducible repeat (first | apply Kd.R_alloc | apply Kd.R_drewN | apply Kd.R_drew)); exact HO_3.out) hb); have n1_ := Aside0.mk (Kd.R_below (by (with_reducible repeat (first | apply Kd.R_alloc | apply Kd.R_drewN | apply Kd.R_drew)); exact HO_5.out) hb); have n2_ := Aside0.mk (below_step (by repeat (first | (with_reducible first | exact HB.out | apply below_alloc | apply pw_below_drewN | apply below_drew1) | exact HB.out)) hb); clear HO_3; clear HO_5; clear HB; have HO_3 := n0_; have HO_5 := n1_; have HB := n2_; clear n0_ n1_ n2_; (try clear hb); (try clear hb2); (try clear hk); (try clear hi)) | ((with_reducible refine gate_callee (f := 9) rfl ?_); refine goesL_ (some 46) rfl rfl Try.func9 (by kernel_rfl) rfl #[.string a0] rfl (by (try simp only [List.map_toArray, List.map_cons, List.map_nil]); first | done | rfl | (simp only [List.length_drop, List.length_take]; rfl)) ?_; (with_reducible refine (impl_ReadRow.calls kj4 a0 t196 t197 _ A18.out).mono ?_); rintro e w23 ⟨v198, rfl, ho0, hb⟩; refine ⟨_, rfl, ?_⟩; have n0_ := Aside0.mk (Kd.R_elder' (by (with_reducible repeat (first | apply Kd.R_alloc | apply Kd.R_drewN | apply Kd.R_drew)); exact HO_3.out) (Kd.R_base ho0) hb); have n1_ := Aside0.mk (Kd.R_elder' (by (with_reducible repeat (first | apply Kd.R_alloc | apply Kd.R_drewN | apply Kd.R_drew)); exact HO_5.out) (Kd.R_base ho0) hb); have n2_ := Aside0.mk (Kd.R_lower (Kd.R_new' (Kd.R_new' ho0 (Kd.R_lt (by (with_reducible repeat (first | apply Kd.R_alloc | apply Kd.R_drewN | apply Kd.R_drew)); exact HO_3.out))) (Kd.R_lt (by (with_reducible repeat (first | apply Kd.R_alloc | apply Kd.R_drewN | apply Kd.R_drew)); exact HO_5.out))) (below_size (by repeat (first | (with_reducible first | exact HB.out | apply below_alloc | apply pw_below_drewN | apply below_drew1) | exact HB.out)))); have n3_ := Aside0.mk (below_step (by repeat (first | (with_reducible first | exact HB.out | apply below_alloc | apply pw_below_drewN | apply below_drew1) | exact HB.out)) hb); clear HO_3; clear HO_5; clear HB; have HO_3 := n0_; have HO_5 := n1_; have HO199 := n2_; have HB := n3_; clear n0_ n1_ n2_ n3_; (try clear hb); (try clear hb2); (try clear hk); (try clear hi); (try clear ho0)))
              (try simp only [Act.put, List.setIfInBounds_toArray, List.set_cons_zero, List.set_cons_succ])
              go_cut [57] (fun v57 wc => ∃ (kq : Nat) (x57_18 : Bool), v57 = .bool x57_18 ∧ Aside0 (laws_FnExactReadRow.j1 kq t194 t193 x57_18 = some r) ∧ Aside0 (kq ≤ kj4) ∧ Aside0 (Kd.R k23 23 wc w.heap.size (fun _ => True) (.slice Ao20 t188.length co20) t194) ∧ Aside0 (Below w.heap.size w wc))
              case first =>
                have H := HC19.out
                clear HC19
                replace H := Option.bind_eq_some_iff.mp H
                obtain ⟨t200, A240, H⟩ := H
                replace H : (if t200 = true then (laws_FnExactReadRow.j1 kj4 t194 t193 (t197 != t185)) else (laws_FnExactReadRow.j1 kj4 t194 t193 true)) = some r := H
                have A24 := Aside0.mk A240
                clear A240
                by_cases c25 : t200 = true
                · subst c25
                  have H1 : (laws_FnExactReadRow.j1 kj4 t194 t193 (t197 != t185)) = some r := by rw [if_pos rfl] at H; exact H
                  clear H
                  have H := H1
                  clear H1
                  have H' := Aside0.mk H
                  clear H
                  obtain ⟨Ao26, co26, eo26⟩ := Kd.R_slice HO199.out
                  subst eo26
                  obtain ⟨Ao27, co27, eo27⟩ := Kd.R_slice HO_3.out
                  subst eo27
                  go_wp2_with (first | ((with_reducible refine gate_callee (f := 10) rfl ?_); refine goesL_ (some 51) rfl rfl Try.func10 (by kernel_rfl) rfl #[.slice Ao26 t196.length co26, .slice Ao27 t184.length co27] rfl (by (try simp only [List.map_toArray, List.map_cons, List.map_nil]); first | done | rfl | (simp only [List.length_drop, List.length_take]; rfl)) ?_; (with_reducible refine (laws_eqValueS.calls kj4 _ _ t196 _ _ t184 true _ ?side1 ?side2 ?side3 ?side4 A24.out).mono ?_); (case side1 => repeat (first | exact (Kd.R_reads' HO199.out).2.2 | (with_reducible refine Kd.C_alloc ?_ _) | (with_reducible refine Kd.C_drewN ?_ _) | (with_reducible refine Kd.C_drew ?_))); (case side2 => exact (Kd.R_reads' HO199.out).2.1); (case side3 => repeat (first | exact (Kd.R_reads' HO_3.out).2.2 | (with_reducible refine Kd.C_alloc ?_ _) | (with_reducible refine Kd.C_drewN ?_ _) | (with_reducible refine Kd.C_drew ?_))); (case side4 => exact (Kd.R_reads' HO_3.out).2.1); rintro e w28 ⟨rfl, hb⟩; refine ⟨_, rfl, ?_⟩; have n0_ := Aside0.mk (Kd.R_below (by (with_reducible repeat (first | apply Kd.R_alloc | apply Kd.R_drewN | apply Kd.R_drew)); exact HO_3.out) hb); have n1_ := Aside0.mk (Kd.R_below (by (with_reducible repeat (first | apply Kd.R_alloc | apply Kd.R_drewN | apply Kd.R_drew)); exact HO_5.out) hb); have n2_ := Aside0.mk (Kd.R_below (by (with_reducible repeat (first | apply Kd.R_alloc | apply Kd.R_drewN | apply Kd.R_drew)); exact HO199.out) hb); have n3_ := Aside0.mk (below_step (by repeat (first | (with_reducible first | exact HB.out | apply below_alloc | apply pw_below_drewN | apply below_drew1) | exact HB.out)) hb); clear HO_3; clear HO_5; clear HO199; clear HB; have HO_3 := n0_; have HO_5 := n1_; have HO199 := n2_; have HB := n3_; clear n0_ n1_ n2_ n3_; (try clear hb); (try clear hb2); (try clear hk); (try clear hi)))
                  go_meet
                  case rel => exact ⟨_, ((t197 != t185)), (by first | rfl | (simp; done) | (simp [*]; done)), H', ⟨by have := HJ4.out; first | omega | exact Nat.le_refl _⟩, ⟨by (with_reducible repeat (first | apply Kd.R_alloc | apply Kd.R_drewN | apply Kd.R_drew)); exact Kd.R_mono HO_5.out (fun _ hk => trivial)⟩, ⟨by repeat (first | (with_reducible first | exact HB.out | apply below_alloc | apply pw_below_drewN | apply below_drew1) | exact HB.out)⟩⟩
                · replace c25 := Bool.eq_false_iff.mpr c25
                  subst c25
                  have H1 : (laws_FnExactReadRow.j1 kj4 t194 t193 true) = some r := by rw [if_neg (show ¬ (false = true) by decide)] at H; exact H
                  clear H
                  have H := H1
                  clear H1
                  exact (Go.Proofs.Ytpfgjjbkcifpfaa.Gen.no_true H (by cases kj4 <;> simp [laws_FnExactReadRow.j1]) HT.out).elim
              case rest =>
                clear HC19
                try clear c1
                try clear c2
                try clear c2b0
                try clear c2b1
                try clear p2
                try clear c4
                try clear c8
                try clear c9
                try clear c10
                try clear c11
                try clear c12
                try clear c13
                try clear c16
                try clear c16b0
                try clear c17
                try clear c17b0
                try clear c17b1
                try clear c25
                try clear p2
                obtain ⟨kq, x57_18, rfl, HA, HJ18, HO_5, HB⟩ := hcut
                have hl5_18 := (Kd.R_reads' HO_5.out).1
                rw [hl5_18] at HO_5
                (try simp only [hl5_18])
                cases kq with
                | zero => exact absurd HA.out (by simp [laws_FnExactReadRow.j1])
                | succ kj18 =>
                  have H := HA.out
                  clear HA
                  simp only [laws_FnExactReadRow.j1] at H
                  by_cases c29 : x57_18 = true
                  · subst c29
                    have H1 : (some false) = some r := by rw [if_pos rfl] at H; exact H
                    clear H
                    have H := H1
                    clear H1
                    exact absurd HT.out (by have H9 := Option.some.inj H; rw [← H9]; decide)
                  · replace c29 := Bool.eq_false_iff.mpr c29
                    subst c29
                    have H1 : ((laws_heldValueS.f kj18 t194 1).bind fun t201 => (if t201 < 0 then (some false) else (if t201 = t193 then (some true) else (some false)))) = some r := by rw [if_neg (show ¬ (false = true) by decide)] at H; exact H
                    clear H
                    have H := H1
                    clear H1
                    replace H := Option.bind_eq_some_iff.mp H
                    obtain ⟨t201, A300, H⟩ := H
                    replace H : (if t201 < 0 then (some false) else (if t201 = t193 then (some true) else (some false))) = some r := H
                    have A30 := Aside0.mk A300
                    clear A300
                    by_cases c31 : t201 < 0
                    · rw [if_pos c31] at H
                      have c31b0 : decide (t201 < 0) = true := decide_eq_true c31
                      clear c31
                      exact absurd HT.out (by have H9 := Option.some.inj H; rw [← H9]; decide)
                    · rw [if_neg c31] at H
                      have c31b0 : decide (t201 < 0) = false := decide_eq_false c31
                      clear c31
                      by_cases c32 : t201 = t193
                      · rw [if_pos c32] at H
                        have c32b0 : (t201 == t193) = true := beq_iff_eq.mpr c32
                        have c32b1 : (t201 != t193) = false := bne_eq_false_iff_eq.mpr c32
                        clear c32
                        obtain rfl := Option.some.inj H
                        go_wp2_with (first | ((with_reducible refine gate_callee (f := 12) rfl ?_); refine goesL_ (some 60) rfl rfl Try.func12 (by kernel_rfl) rfl #[.slice Ao20 t194.length co20, .int .i64 1] rfl (by (try simp only [List.map_toArray, List.map_cons, List.map_nil]); first | done | rfl | (simp only [List.length_drop, List.length_take]; rfl)) ?_; (with_reducible refine (laws_heldValueS.calls kj18 _ _ t194 1 t201 _ ?side1 ?side2 A30.out).mono ?_); (case side1 => repeat (first | exact (Kd.R_reads' HO_5.out).2.2 | (with_reducible refine Kd.C_alloc ?_ _) | (with_reducible refine Kd.C_drewN ?_ _) | (with_reducible refine Kd.C_drew ?_))); (case side2 => exact (Kd.R_reads' HO_5.out).2.1); rintro e w33 ⟨rfl, hb⟩; refine ⟨_, rfl, ?_⟩; have n0_ := Aside0.mk (Kd.R_below (by (with_reducible repeat (first | apply Kd.R_alloc | apply Kd.R_drewN | apply Kd.R_drew)); exact HO_5.out) hb); have n1_ := Aside0.mk (below_step (by repeat (first | (with_reducible first | exact HB.out | apply below_alloc | apply pw_below_drewN | apply below_drew1) | exact HB.out)) hb); clear HO_5; clear HB; have HO_5 := n0_; have HB := n1_; clear n0_ n1_; (try clear hb); (try clear hb2); (try clear hk); (try clear hi)))
                        go_ret
                        exact ⟨by first | rfl | (simp [errW_none, errW_some] <;> rfl) | (simp [*, errW_none, errW_some] <;> rfl), by repeat (first | (with_reducible first | exact HB.out | apply below_alloc | apply pw_below_drewN | apply below_drew1) | exact HB.out)⟩
                      · rw [if_neg c32] at H
                        have c32b0 : (t201 == t193) = false := beq_eq_false_iff_ne.mpr c32
                        have c32b1 : (t201 != t193) = true := bne_iff_ne.mpr c32
                        exact absurd HT.out (by have H9 := Option.some.inj H; rw [← H9]; decide)
            · rw [if_neg c17] at H
              have c17b0 : (t195 == t193) = false := beq_eq_false_iff_ne.mpr c17
              have c17b1 : (t195 != t193) = true := bne_iff_ne.mpr c17
              exact absurd HT.out (by have H9 := Option.some.inj H; rw [← H9]; decide)

end Go.Proofs.Ytpfgjjbkcifpfaa.Fn
namespace Go.Proofs.Ytpfgjjbkcifpfaa.Pure
open Go.RowKit Go.Proofs.YtpfgjjbkcifpfaaW.PrintWords Go.Proofs.YtpfgjjbkcifpfaaW.PrintLast Go.Proofs.YtpfgjjbkcifpfaaW.PrintMore

theorem wrap_ok {n : Int} (h0 : -9223372036854775808 ≤ n) (h1 : n ≤ 9223372036854775807) : wrap64 n = n := IntWalk.wrap64_in n ⟨h0, h1⟩
theorem wrap_succ {i : Nat} (h : i ≤ 9223372036854775806) : wrap64 ((i : Int) + 1) = ((i + 1 : Nat) : Int) := by
  rw [wrap_ok (by omega) (by omega)]; omega
theorem nat_nonneg (i : Nat) : (0 : Int) ≤ (i : Int) := by omega
section
variable {α : Type} {l t : List α} {i : Nat} {x z : α}
theorem drop_nil (h : l.drop i = []) : ¬ ((i : Int) < (l.length : Int)) := by
  have := List.drop_eq_nil_iff.1 h
  omega
theorem drop_cons (h : l.drop i = x :: t) : ((i : Int) < (l.length : Int)) ∧ l[i]? = some x ∧ l.drop (i + 1) = t := by
  have hlt : i < l.length := by
    rcases Nat.lt_or_ge i l.length with h1 | h1
    · exact h1
    · rw [List.drop_eq_nil_of_le h1] at h; cases h
  rw [List.drop_eq_getElem_cons hlt] at h
  injection h with h1 h2
  exact ⟨by omega, by rw [List.getElem?_eq_getElem hlt, h1], h2⟩
theorem drop_len (h : l.drop i = t) (hi : i ≤ l.length) : i + t.length = l.length := by
  rw [← h, List.length_drop]; omega
theorem getD_at (h : l[i]? = some x) : l.getD ((i : Nat) : Int).toNat z = x := by
  rw [Int.toNat_natCast, List.getD_eq_getElem?_getD, h]; rfl
theorem take_drop_set {n : Nat} {y : α} (h : l.drop i = x :: t) : (l.take i ++ List.replicate (n + 1) z).set i y = l.take i ++ [y] ++ List.replicate n z := by
  have hlt : i < l.length := by have := (drop_cons h).1; omega
  have h0 : i = (l.take i).length := by rw [List.length_take]; omega
  rw [List.set_append_right _ _ (by omega)]
  have h1 : i - (l.take i).length = 0 := by omega
  rw [h1, List.replicate_succ]
  simp
theorem take_next (h : l.drop i = x :: t) : l.take (i + 1) = l.take i ++ [x] := by
  have hlt : i < l.length := by have := (drop_cons h).1; omega
  rw [List.take_succ_eq_append_getElem hlt]
  have := (drop_cons h).2.1
  rw [List.getElem?_eq_getElem hlt] at this
  injection this with this
  rw [this]
theorem take_all (h : l.drop i = []) : l.take i = l := List.take_of_length_le (List.drop_eq_nil_iff.1 h)
end
theorem rd_at {l : List Int} {i : Nat} {x : Int} (h : l[i]? = some x) : rd l (i : Int) = x := getD_at h
theorem rdOf_at {α : Type} {l : List α} {i : Nat} {x z : α} (h : l[i]? = some x) : rdOf z l (i : Int) = x := getD_at h
theorem toList_inj {a b : ByteArray} (h : a.toList = b.toList) : a = b := by
  have h1 : a.data.toList = b.data.toList := by rw [← Lib.toList_data, ← Lib.toList_data, h]
  exact WideShapes.bytes_inj h1
/-- The numbers from c on, as many as n. -/
def from_ (c : Int) : Nat → List Int
  | 0 => []
  | n + 1 => c :: from_ (c + 1) n
theorem from_length (c : Int) (n : Nat) : (from_ c n).length = n := by induction n generalizing c with
  | zero => rfl
  | succ n ih => simp [from_, ih]
end Go.Proofs.Ytpfgjjbkcifpfaa.Pure
namespace Go.Proofs.Ytpfgjjbkcifpfaa.Pure
open Go.RowKit Go.Proofs.YtpfgjjbkcifpfaaW.PrintWords Go.Proofs.YtpfgjjbkcifpfaaW.PrintLast Go.Proofs.YtpfgjjbkcifpfaaW.PrintMore
/-- From the end down to the begin. -/
theorem ev_down (n : Nat) (P : Nat → Prop) (hn : P n) (hs : ∀ i, i < n → P (i + 1) → P i) : P 0 := by
  have : ∀ d, d ≤ n → P (n - d) := by
    intro d
    induction d with
    | zero => intro _; simpa using hn
    | succ d ih =>
      intro hd
      refine hs _ (by omega) ?_
      have e : n - (d + 1) + 1 = n - d := by omega
      rw [e]
      exact ih (by omega)
  have := this n (Nat.le_refl _)
  simpa using this
theorem Ev.at_ {α : Type} {g : Nat → Option α} {r : α} {K : Nat} (h : ∀ k, K ≤ k → g k = some r) : Ev g r := ⟨K, h⟩
theorem Ev.all {α : Type} {g : Nat → Option α} {r : α} (h : ∀ k, g k = some r) : Ev g r := ⟨0, fun k _ => h k⟩
theorem Ev.next {α : Type} {g f : Nat → Option α} {r : α} {K : Nat} (h : ∀ k, K ≤ k → g (k + 1) = f k) (hf : Ev f r) : Ev g r := by
  obtain ⟨K', hf⟩ := hf
  refine ⟨max K K' + 1, fun k hk => ?_⟩
  obtain ⟨m, rfl⟩ : ∃ m, k = m + 1 := ⟨k - 1, by omega⟩
  rw [h m (by omega)]
  exact hf m (by omega)
theorem Ev.same {α : Type} {g f : Nat → Option α} {r : α} {K : Nat} (h : ∀ k, K ≤ k → g k = f k) (hf : Ev f r) : Ev g r := by
  obtain ⟨K', hf⟩ := hf
  exact ⟨max K K', fun k hk => (h k (by omega)).trans (hf k (by omega))⟩
/-- A copy, element by element, into a row that was made. -/
theorem copy_ev {α β : Type} (L : Nat → List β → Int → Option (List β)) (f : α → β) (z : β) (l : List α)
    (hend : ∀ k x3, L (k + 1) x3 (l.length : Int) = some x3)
    (hstep : ∀ (i : Nat) (x : α), l[i]? = some x → ∃ K, ∀ k (x3 : List β), K ≤ k → x3.length = l.length → L (k + 1) x3 (i : Int) = L k (x3.set i (f x)) ((i + 1 : Nat) : Int)) :
    Ev (fun k => L k (List.replicate l.length z) 0) (l.map f) := by
  have := ev_down l.length (fun i => Ev (fun k => L k ((l.take i).map f ++ List.replicate (l.length - i) z) (i : Int)) (l.map f)) ?_ ?_
  · simpa using this
  · refine ⟨1, fun k hk => ?_⟩
    obtain ⟨m, rfl⟩ : ∃ m, k = m + 1 := ⟨k - 1, by omega⟩
    dsimp only
    rw [hend]
    simp
  · intro i hi ih
    have hx : l[i]? = some l[i] := List.getElem?_eq_getElem hi
    obtain ⟨K, hK⟩ := hstep i _ hx
    refine Ev.next (K := K) (fun k hk => ?_) ih
    rw [hK k _ hk (by simp; omega)]
    congr 1
    have h0 : i = ((l.take i).map f).length := by simp; omega
    rw [List.set_append_right _ _ (by omega)]
    have h1 : i - ((l.take i).map f).length = 0 := by omega
    have h2 : l.length - i = (l.length - (i + 1)) + 1 := by omega
    rw [h1, h2, List.replicate_succ, List.set_cons_zero, List.take_succ_eq_append_getElem hi, List.map_append]
    simp
/-- All elements pass. -/
theorem all_ev {ρ : Type} (L : Nat → Int → Option ρ) (n : Nat) (r : ρ) (hend : ∀ k, L (k + 1) (n : Int) = some r)
    (hstep : ∀ (i : Nat), i < n → ∃ K, ∀ k, K ≤ k → L (k + 1) (i : Int) = L k ((i + 1 : Nat) : Int)) : Ev (fun k => L k 0) r := by
  have := ev_down n (fun i => Ev (fun k => L k (i : Int)) r) ⟨1, fun k hk => by obtain ⟨m, rfl⟩ : ∃ m, k = m + 1 := ⟨k - 1, by omega⟩; exact hend m⟩ (fun i hi ih => by
    obtain ⟨K, hK⟩ := hstep i hi
    exact Ev.next hK ih)
  simpa using this
end Go.Proofs.Ytpfgjjbkcifpfaa.Pure
namespace Go.Proofs.Ytpfgjjbkcifpfaa.Pure
open Go.RowKit Go.Proofs.YtpfgjjbkcifpfaaW.PrintWords Go.Proofs.YtpfgjjbkcifpfaaW.PrintLast Go.Proofs.YtpfgjjbkcifpfaaW.PrintMore
section
variable {α β γ δ : Type}
theorem Ev.up {g : Nat → Option α} {r : α} (h : Ev (fun k => g (k + 1)) r) : Ev g r := Ev.next (K := 0) (fun _ _ => rfl) h
theorem Ev.ifp {c : Prop} {dc : Decidable c} {A B : Nat → Option α} {r : α} (hc : c) (h : Ev A r) : Ev (fun k => if c then A k else B k) r :=
  Ev.same (K := 0) (fun k _ => by rw [if_pos hc]) h
theorem Ev.ifn {c : Prop} {dc : Decidable c} {A B : Nat → Option α} {r : α} (hc : ¬ c) (h : Ev B r) : Ev (fun k => if c then A k else B k) r :=
  Ev.same (K := 0) (fun k _ => by rw [if_neg hc]) h
theorem Ev.val {a r : α} (h : a = r) : Ev (fun _ => some a) r := Ev.all fun _ => by rw [h]
theorem Ev.bindS {a : α} {f : Nat → α → Option β} {r : β} (h : Ev (fun k => f k a) r) : Ev (fun k => (some a).bind (f k)) r := Ev.bind (Ev.val rfl) h
theorem Ev.some {g : Nat → Option α} {r : α} (h : Ev g r) : ∃ k, g k = some r := h.elim fun K h => ⟨K, h K (Nat.le_refl _)⟩
/-- Both come to an end, and R holds between what they answer. -/
def Twin (R : α → β → Prop) (A : Nat → Option α) (B : Nat → Option β) : Prop := ∃ a b, R a b ∧ Ev A a ∧ Ev B b
variable {R : α → β → Prop} {A A1 A2 : Nat → Option α} {B B1 B2 : Nat → Option β}
theorem Twin.of {a : α} {b : β} (h : R a b) (ha : Ev A a) (hb : Ev B b) : Twin R A B := ⟨a, b, h, ha, hb⟩
theorem Twin.val {a : α} {b : β} (h : R a b) : Twin R (fun _ => Option.some a) (fun _ => Option.some b) := ⟨a, b, h, Ev.val rfl, Ev.val rfl⟩
theorem Twin.up (h : Twin R (fun k => A (k + 1)) (fun k => B (k + 1))) : Twin R A B := by
  obtain ⟨a, b, h, ha, hb⟩ := h
  exact ⟨a, b, h, Ev.up ha, Ev.up hb⟩
theorem Twin.upL (h : Twin R (fun k => A (k + 1)) B) : Twin R A B := by
  obtain ⟨a, b, h, ha, hb⟩ := h
  exact ⟨a, b, h, Ev.up ha, hb⟩
theorem Twin.upR (h : Twin R A (fun k => B (k + 1))) : Twin R A B := by
  obtain ⟨a, b, h, ha, hb⟩ := h
  exact ⟨a, b, h, ha, Ev.up hb⟩
theorem Twin.ifpL {c : Prop} {dc : Decidable c} (hc : c) (h : Twin R A1 B) : Twin R (fun k => if c then A1 k else A2 k) B := by
  obtain ⟨a, b, h, ha, hb⟩ := h
  exact ⟨a, b, h, Ev.ifp hc ha, hb⟩
theorem Twin.ifnL {c : Prop} {dc : Decidable c} (hc : ¬ c) (h : Twin R A2 B) : Twin R (fun k => if c then A1 k else A2 k) B := by
  obtain ⟨a, b, h, ha, hb⟩ := h
  exact ⟨a, b, h, Ev.ifn hc ha, hb⟩
theorem Twin.ifpR {c : Prop} {dc : Decidable c} (hc : c) (h : Twin R A B1) : Twin R A (fun k => if c then B1 k else B2 k) := by
  obtain ⟨a, b, h, ha, hb⟩ := h
  exact ⟨a, b, h, ha, Ev.ifp hc hb⟩
theorem Twin.ifnR {c : Prop} {dc : Decidable c} (hc : ¬ c) (h : Twin R A B2) : Twin R A (fun k => if c then B1 k else B2 k) := by
  obtain ⟨a, b, h, ha, hb⟩ := h
  exact ⟨a, b, h, ha, Ev.ifn hc hb⟩
theorem Twin.bindL {g : Nat → Option γ} {a : γ} {f : Nat → γ → Option α} (hg : Ev g a) (h : Twin R (fun k => f k a) B) : Twin R (fun k => (g k).bind (f k)) B := by
  obtain ⟨x, b, h, ha, hb⟩ := h
  exact ⟨x, b, h, Ev.bind hg ha, hb⟩
theorem Twin.bindR {g : Nat → Option γ} {a : γ} {f : Nat → γ → Option β} (hg : Ev g a) (h : Twin R A (fun k => f k a)) : Twin R A (fun k => (g k).bind (f k)) := by
  obtain ⟨x, b, h, ha, hb⟩ := h
  exact ⟨x, b, h, ha, Ev.bind hg hb⟩
theorem Twin.bindSL {a : γ} {f : Nat → γ → Option α} (h : Twin R (fun k => f k a) B) : Twin R (fun k => (Option.some a).bind (f k)) B := Twin.bindL (Ev.val rfl) h
theorem Twin.bindSR {a : γ} {f : Nat → γ → Option β} (h : Twin R A (fun k => f k a)) : Twin R A (fun k => (Option.some a).bind (f k)) := Twin.bindR (Ev.val rfl) h
theorem Twin.bind {S : γ → δ → Prop} {g1 : Nat → Option γ} {g2 : Nat → Option δ} {f1 : Nat → γ → Option α} {f2 : Nat → δ → Option β} (hg : Twin S g1 g2)
    (h : ∀ a b, S a b → Twin R (fun k => f1 k a) (fun k => f2 k b)) : Twin R (fun k => (g1 k).bind (f1 k)) (fun k => (g2 k).bind (f2 k)) := by
  obtain ⟨x, y, hs, h1, h2⟩ := hg
  exact Twin.bindL h1 (Twin.bindR h2 (h x y hs))
theorem Twin.if2 {c c' : Prop} {dc : Decidable c} {dc' : Decidable c'} (e : c ↔ c') (hp : c → Twin R A1 B1) (hn : ¬ c → Twin R A2 B2) :
    Twin R (fun k => if c then A1 k else A2 k) (fun k => if c' then B1 k else B2 k) := by
  by_cases hc : c
  · exact Twin.ifpL hc (Twin.ifpR (e.1 hc) (hp hc))
  · exact Twin.ifnL hc (Twin.ifnR (fun h => hc (e.2 h)) (hn hc))
theorem Twin.same {A : Nat → Option α} {a : α} (h : Ev A a) : Twin Eq A A := ⟨a, a, rfl, h, h⟩
theorem Twin.swap (h : Twin (fun b a => R a b) B A) : Twin R A B := by
  obtain ⟨a, b, h, ha, hb⟩ := h
  exact ⟨b, a, h, hb, ha⟩
theorem Twin.mono {S : α → β → Prop} (h : Twin S A B) (i : ∀ a b, S a b → R a b) : Twin R A B := by
  obtain ⟨a, b, h, ha, hb⟩ := h
  exact ⟨a, b, i a b h, ha, hb⟩
end
theorem decT {p : Prop} [Decidable p] : (decide p = true) = p := decide_eq_true_eq
/-- A loop over an index: what holds at the end, and from each round to the one ahead of it. -/
theorem loop_down (n : Nat) {P : Nat → Prop} (hn : P n) (hs : ∀ i, i < n → P (i + 1) → P i) : ∀ i, i ≤ n → P i := by
  have : ∀ d i, i + d = n → P i := by
    intro d
    induction d with
    | zero => intro i h; have e : i = n := by omega
              rw [e]; exact hn
    | succ d ih => intro i h; exact hs i (by omega) (ih (i + 1) (by omega))
  exact fun i hi => this (n - i) i (by omega)
end Go.Proofs.Ytpfgjjbkcifpfaa.Pure
namespace Go.Proofs.Ytpfgjjbkcifpfaa.Pure
open Go.RowKit Go.Proofs.YtpfgjjbkcifpfaaW.PrintWords Go.Proofs.YtpfgjjbkcifpfaaW.PrintLast Go.Proofs.YtpfgjjbkcifpfaaW.PrintMore

/-- A string's bytes, as numbers. -/
def nm (s : ByteArray) : List Int := s.data.toList.map fun b => (b.toNat : Int)
theorem nm_length (s : ByteArray) : (nm s).length = s.size := by
  rw [nm, List.length_map, Array.length_toList]; rfl
theorem u8_inj {a b : UInt8} (h : (a.toNat : Int) = (b.toNat : Int)) : a = b := UInt8.toNat_inj.1 (by omega)
theorem nm_inj {s t : ByteArray} (h : nm s = nm t) : s = t := by
  have : s.data.toList = t.data.toList := List.map_inj_right (fun a b h => u8_inj h) |>.1 h
  exact WideShapes.bytes_inj this
theorem toList_iff {s t : ByteArray} : s.toList = t.toList ↔ nm s = nm t := by
  rw [Lib.toList_data, Lib.toList_data, nm, nm]
  exact ⟨fun h => by rw [h], fun h => List.map_inj_right (fun a b h => u8_inj h) |>.1 h⟩
theorem toList_nil {s : ByteArray} : s.toList = ([] : List UInt8) ↔ nm s = [] := by
  rw [Lib.toList_data, nm]
  simp
theorem nm_range {s : ByteArray} {x : Int} (h : x ∈ nm s) : 0 ≤ x ∧ x < 256 := by
  obtain ⟨b, _, rfl⟩ := List.mem_map.1 h
  have := UInt8.toNat_lt b
  omega
theorem bt_nm (s : ByteArray) (i : Int) : bt s i = rd (nm s) i := (rd_bytesOf s i).symm
theorem nm_get {s : ByteArray} {i : Nat} {x : Int} (h : (nm s)[i]? = some x) : bt s (i : Int) = x := by rw [bt_nm]; exact rd_at h
theorem nm_extract (s : ByteArray) (a b : Nat) : nm (s.extract a b) = ((nm s).drop a).take (b - a) := by
  rw [nm, ← Lib.toList_data, Lib.extract_toList, List.map_take, List.map_drop]; rfl
theorem nm_tail (s : ByteArray) (a : Nat) : nm (s.extract a s.size) = (nm s).drop a := by
  rw [nm_extract]
  exact List.take_of_length_le (by rw [List.length_drop, nm_length]; omega)
/-- Bytes of a tail. -/
theorem bt_tail (s : ByteArray) (a : Nat) (i : Nat) : bt (s.extract a s.size) (i : Int) = bt s ((a + i : Nat) : Int) := by
  rw [bt_nm, bt_nm, nm_tail]
  have e : ((a + i : Nat) : Int).toNat = a + i := by omega
  simp only [rd, List.getD_eq_getElem?_getD, e, Int.toNat_natCast, List.getElem?_drop]
theorem nm_nums (xs : List Int) (h : ∀ x ∈ xs, 0 ≤ x ∧ x < 256) : nm (strOfNums xs) = xs := by
  rw [nm, strOfNums_data, List.map_map]
  conv => rhs; rw [← List.map_id xs]
  refine List.map_congr_left fun x hx => ?_
  have := h x hx
  simp only [Function.comp, id, UInt8.toNat_ofNat']
  omega
theorem nums_nm (s : ByteArray) : strOfNums (nm s) = s := nm_inj (nm_nums _ fun _ h => nm_range h)
theorem nm_append (s t : ByteArray) : nm (s ++ t) = nm s ++ nm t := by
  simp [nm]
theorem nm_empty : nm (⟨#[]⟩ : ByteArray) = [] := rfl
theorem or64 (i : Nat) (x y : Int) (hx0 : 0 ≤ x) (hx : x % 2 ^ i = 0) (hx1 : x < 2 ^ 62) (hy0 : 0 ≤ y) (hy : y < 2 ^ i) (hy1 : y < 2 ^ 62) : Go.bits .or .i64 x y = x + y :=
  bits_join .i64 62 (by decide) (fun n h0 h1 => by rw [IntKind.wrap_i64]; omega) i x y hx0 hx hx1 hy0 hy hy1
/-- A row is marked, element by element: c is the next mark. -/
theorem mark_ev {α γ : Type} (L : Nat → List α → γ → Int → Option (γ × List α)) (cn : Nat → γ) (e : Nat → α → α) (l : List α)
    (hend : ∀ k x, x.length = l.length → L (k + 1) x (cn l.length) (l.length : Int) = some (cn l.length, x))
    (hstep : ∀ (i : Nat) (y : α), l[i]? = some y → ∃ K, ∀ k (x : List α), K ≤ k → x.length = l.length → x[i]? = some y → L (k + 1) x (cn i) (i : Int) = L k (x.set i (e i y)) (cn (i + 1)) ((i + 1 : Nat) : Int)) :
    Ev (fun k => L k l (cn 0) 0) (cn l.length, l.mapIdx e) := by
  have := ev_down l.length (fun i => Ev (fun k => L k ((l.mapIdx e).take i ++ l.drop i) (cn i) (i : Int)) (cn l.length, l.mapIdx e)) ?_ ?_
  · simpa using this
  · refine ⟨1, fun k hk => ?_⟩
    obtain ⟨m, rfl⟩ : ∃ m, k = m + 1 := ⟨k - 1, by omega⟩
    dsimp only
    rw [hend _ _ (by simp)]
    simp only [List.drop_length, List.append_nil]
    rw [List.take_of_length_le (by simp)]
  · intro i hi ih
    have hx : l[i]? = some l[i] := List.getElem?_eq_getElem hi
    have hm : i = ((l.mapIdx e).take i).length := by simp; omega
    obtain ⟨K, hK⟩ := hstep i _ hx
    refine Ev.next (K := K) (fun k hk => ?_) ih
    have hd : l.drop i = l[i] :: l.drop (i + 1) := List.drop_eq_getElem_cons hi
    have hat : ((l.mapIdx e).take i ++ l.drop i)[i]? = some l[i] := by
      rw [List.getElem?_append_right (by omega), hd]
      have h0 : i - ((l.mapIdx e).take i).length = 0 := by omega
      rw [h0]; rfl
    rw [hK k _ hk (by simp; omega) hat]
    congr 1
    rw [List.set_append_right _ _ (by omega)]
    have h1 : i - ((l.mapIdx e).take i).length = 0 := by omega
    rw [h1, hd, List.set_cons_zero, List.take_succ_eq_append_getElem (by simpa using hi)]
    simp
/-- Two rows of one length, compared element by element. -/
theorem same_ev {α : Type} [DecidableEq α] (L : Nat → Int → Option Bool) (a b : List α) (hlen : a.length = b.length) (hend : ∀ k, L (k + 1) (a.length : Int) = some true)
    (hyes : ∀ k (i : Nat) x, i < a.length → a[i]? = some x → b[i]? = some x → L (k + 1) (i : Int) = L k ((i + 1 : Nat) : Int))
    (hno : ∀ k (i : Nat) x y, i < a.length → a[i]? = some x → b[i]? = some y → x ≠ y → L (k + 1) (i : Int) = some false) : Ev (fun k => L k 0) (decide (a = b)) := by
  have key : ∀ (t u : List α) (i : Nat), a.drop i = t → b.drop i = u → i ≤ a.length → Ev (fun k => L k (i : Int)) (decide (t = u)) := by
    intro t
    induction t with
    | nil =>
      intro u i h1 h2 hi
      have h3 := drop_len h1 hi
      have h4 := drop_len h2 (by omega)
      have e : i = a.length := by simpa using h3
      have hu : u = [] := List.length_eq_zero_iff.1 (by omega)
      subst hu
      refine Ev.up ?_
      rw [e]
      exact Ev.same (K := 0) (fun k _ => hend k) (Ev.val (by simp))
    | cons x t ih =>
      intro u i h1 h2 hi
      have h3 := drop_len h1 hi
      have h4 := drop_len h2 (by omega)
      cases u with
      | nil => simp at h3 h4; omega
      | cons y u =>
        obtain ⟨p1, p2, p3⟩ := drop_cons h1
        obtain ⟨q1, q2, q3⟩ := drop_cons h2
        by_cases hxy : x = y
        · subst hxy
          have := ih u (i + 1) p3 q3 (by omega)
          have e : decide (x :: t = x :: u) = decide (t = u) := by simp
          rw [e]
          exact Ev.up (Ev.same (K := 0) (fun k _ => hyes k i x (by omega) p2 q2) this)
        · exact Ev.up (Ev.same (K := 0) (fun k _ => hno k i x y (by omega) p2 q2 hxy) (Ev.val (by simp [hxy])))
  have h := key a b 0 rfl rfl (by omega)
  exact h
end Go.Proofs.Ytpfgjjbkcifpfaa.Pure
namespace Go.Proofs.Ytpfgjjbkcifpfaa.Pure
open Go.RowKit Go.Proofs.Ytpfgjjbkcifpfaa.Fn Go.Proofs.YtpfgjjbkcifpfaaW.PrintWords Go.Proofs.YtpfgjjbkcifpfaaW.PrintLast Go.Proofs.YtpfgjjbkcifpfaaW.PrintMore
set_option linter.unusedSimpArgs false

theorem within_eq (a b c : Int) : impl_within.f a b c = some (decide (b ≤ a ∧ a ≤ c)) := by
  unfold impl_within.f
  by_cases h : b ≤ a
  · rw [if_pos h]; simp [h]
  · rw [if_neg h]; simp [h]
theorem specIn_eq (a b c : Int) : spec_l1In.f a b c = some (decide (b ≤ a ∧ a ≤ c)) := within_eq a b c
abbrev e0 : ByteArray := ⟨#[]⟩
/-- Is this a good value? -/
def goodV (a b : Int) (c : ByteArray) : Bool :=
  if a = 1 then decide (b = 0 ∧ nm c = []) else if a = 2 then decide ((0 ≤ b ∧ b ≤ 1) ∧ nm c = []) else if a = 3 then decide ((-1000000000 ≤ b ∧ b ≤ 1000000000) ∧ nm c = []) else
    if a = 4 then decide (b = 0 ∧ c.size ≤ 12) else false
theorem isNil (c : ByteArray) : (c.toList == ([] : List UInt8)) = decide (nm c = []) := by
  rw [Bool.eq_iff_iff]
  simp only [beq_iff_eq, decide_eq_true_eq, toList_nil]
theorem implGood_eq (a b : Int) (c : ByteArray) : impl_GoodValue.f a b c = some (goodV a b c) := by
  simp only [impl_GoodValue.f, within_eq, isNil, goodV, Option.bind_some, decT]
  by_cases h1 : a = 1
  · simp only [if_pos h1]
    by_cases hb : b = 0 <;> simp [hb]
  · simp only [if_neg h1]
    by_cases h2 : a = 2
    · simp only [if_pos h2]
      by_cases hb : 0 ≤ b ∧ b ≤ 1
      · simp only [if_pos hb, hb]; simp
      · simp only [if_neg hb, hb]; simp
    · simp only [if_neg h2]
      by_cases h3 : a = 3
      · simp only [if_pos h3]
        by_cases hb : -1000000000 ≤ b ∧ b ≤ 1000000000
        · simp only [if_pos hb, hb]; simp
        · simp only [if_neg hb, hb]; simp
      · simp only [if_neg h3]
        by_cases h4 : a = 4
        · simp only [if_pos h4]
          by_cases hb : b = 0
          · have e : ((c.size : Int) ≤ 12) ↔ c.size ≤ 12 := by omega
            simp [hb, e]
          · simp only [if_neg hb, hb]; simp
        · simp only [if_neg h4]
theorem specGood_eq (a b : Int) (c : ByteArray) : spec_GoodValue.f a b c = some (goodV a b c) := implGood_eq a b c

/-- A text as it is written: a 255 behind each 0. -/
def esc : List Int → List Int
  | [] => []
  | x :: t => if x = 0 then 0 :: 255 :: esc t else x :: esc t
/-- A text as it is read by the one program: what there is, and the bytes taken. -/
def strict : List Int → Option (List Int × Nat)
  | [] => none
  | x :: t => if x = 0 then
      (match t with
      | [] => none
      | y :: u => if y = 0 then some ([], 2) else if y = 255 then (strict u).map (fun p => (0 :: p.1, p.2 + 2)) else none)
    else (strict t).map (fun p => (x :: p.1, p.2 + 1))
/-- As it is read by the other, before the look back. -/
def loose : List Int → List Int
  | [] => []
  | x :: t => match t with
    | [] => []
    | y :: u => if x = 0 then (if y = 0 then [] else 0 :: loose u) else x :: loose (y :: u)
theorem strict_loose (T : List Int) : (∀ p, strict T = some p → loose T = p.1 ∧ p.2 = (esc p.1).length + 2 ∧ T.take p.2 = esc p.1 ++ [0, 0]) ∧
    (strict T = none → ∀ n, T.take n ≠ esc (loose T) ++ [0, 0]) := by
  induction T using strict.induct with
  | case1 => simp [strict, loose, esc]
  | case2 =>
    refine ⟨by simp [strict], fun _ n => ?_⟩
    simp only [loose, esc, List.nil_append]
    intro h
    have := congrArg List.length h
    simp only [List.length_take, List.length_cons, List.length_nil] at this
    omega
  | case3 t => simp [strict, loose, esc]
  | case4 t _ ih =>
    obtain ⟨h1, h2⟩ := ih
    have el : loose (0 :: 255 :: t) = 0 :: loose t := by simp [loose]
    have es : strict (0 :: 255 :: t) = (strict t).map (fun p => (0 :: p.1, p.2 + 2)) := by simp [strict]
    rw [el, es]
    refine ⟨fun p h => ?_, fun h n => ?_⟩
    · obtain ⟨q, hq, rfl⟩ := Option.map_eq_some_iff.1 h
      obtain ⟨a, b, c⟩ := h1 q hq
      refine ⟨by rw [a], by simp [esc, b], ?_⟩
      simp [esc, List.take_succ_cons, c]
    · have h := h2 (Option.map_eq_none_iff.1 h)
      match n with
      | 0 => simp [esc]
      | 1 => simp [esc]
      | n + 2 =>
        have := h n
        simp [esc, List.take_succ_cons, this]
  | case5 x t hx hy =>
    have el : loose (0 :: x :: t) = 0 :: loose t := by simp [loose, hx]
    have es : strict (0 :: x :: t) = none := by simp [strict, hx, hy]
    rw [el, es]
    refine ⟨by simp, fun h n => ?_⟩
    match n with
    | 0 => simp [esc]
    | 1 => simp [esc]
    | n + 2 => simp [esc, List.take_succ_cons, hy]
  | case6 x t hx ih =>
    have es : strict (x :: t) = (strict t).map (fun p => (x :: p.1, p.2 + 1)) := by
      rw [strict.eq_def]
      simp only [if_neg hx]
    cases t with
    | nil =>
      refine ⟨by rw [es]; simp [strict], fun _ n => ?_⟩
      simp only [loose, esc, List.nil_append]
      intro h
      have := congrArg List.length h
      simp only [List.length_take, List.length_cons, List.length_nil] at this
      omega
    | cons y u =>
      obtain ⟨h1, h2⟩ := ih
      have el : loose (x :: y :: u) = x :: loose (y :: u) := by simp [loose, hx]
      rw [el, es]
      refine ⟨fun p h => ?_, fun h n => ?_⟩
      · obtain ⟨q, hq, rfl⟩ := Option.map_eq_some_iff.1 h
        obtain ⟨a, b, c⟩ := h1 q hq
        refine ⟨by rw [a], by simp [esc, b, hx], ?_⟩
        simp [esc, List.take_succ_cons, c, hx]
      · have h := h2 (Option.map_eq_none_iff.1 h)
        match n with
        | 0 => simp [esc, hx]
        | n + 1 =>
          have := h n
          simp [esc, List.take_succ_cons, this, hx]
end Go.Proofs.Ytpfgjjbkcifpfaa.Pure
namespace Go.Proofs.Ytpfgjjbkcifpfaa.Pure
open Go.RowKit Go.Proofs.Ytpfgjjbkcifpfaa.Fn Go.Proofs.YtpfgjjbkcifpfaaW.PrintWords Go.Proofs.YtpfgjjbkcifpfaaW.PrintLast Go.Proofs.YtpfgjjbkcifpfaaW.PrintMore
set_option linter.unusedSimpArgs false
set_option linter.unusedVariables false

def textEnd (acc : List Int) (i : Nat) : Option (List Int × Nat) → ByteArray × Int × Bool
  | none => (e0, 0, false)
  | some p => (strOfNums (acc ++ p.1), ((i + p.2 : Nat) : Int), true)
theorem drop_cons2 {α : Type} {l : List α} {i : Nat} {x y : α} {t : List α} (h : l.drop i = x :: y :: t) : l[i]? = some x ∧ l[i + 1]? = some y ∧ l.drop (i + 2) = t ∧ i + 1 < l.length := by
  obtain ⟨_, h2, h3⟩ := drop_cons h
  obtain ⟨h4, h5, h6⟩ := drop_cons h3
  exact ⟨h2, h5, h6, by omega⟩
theorem readText_ev (s : ByteArray) (hs : s.size ≤ 1048576) (T : List Int) : ∀ (i : Nat) (acc : List Int), (nm s).drop i = T → i ≤ s.size → acc.length ≤ i →
    Ev (fun k => impl_readText.l0 k s acc i) (textEnd acc i (strict T)) := by
  induction T using strict.induct with
  | case1 =>
    intro i acc h hi ha
    have := drop_nil h
    rw [nm_length] at this
    (refine Ev.up ?_; simp only [impl_readText.l0, decT])
    (repeat (first | with_reducible refine Ev.bindS ?_ | (with_reducible refine Ev.ifp ?_ ?_; (· first | omega | assumption | rfl | (simp only [List.length_map, List.length_replicate, List.length_take, List.length_drop, List.length_append, List.length_cons, List.length_nil, List.length_set]; omega) | (simp; done))) | (with_reducible refine Ev.ifn ?_ ?_; (· first | omega | assumption | rfl | (simp only [List.length_map, List.length_replicate, List.length_take, List.length_drop, List.length_append, List.length_cons, List.length_nil, List.length_set]; omega) | (simp; done)))))
    exact Ev.val rfl
  | case2 =>
    intro i acc h hi ha
    obtain ⟨h1, h2, h3⟩ := drop_cons h
    have h3 := drop_nil h3
    rw [nm_length] at h1 h3
    (refine Ev.up ?_; simp only [impl_readText.l0, decT])
    rw [nm_get h2, wrap_succ (by omega)]
    (repeat (first | with_reducible refine Ev.bindS ?_ | (with_reducible refine Ev.ifp ?_ ?_; (· first | omega | assumption | rfl | (simp only [List.length_map, List.length_replicate, List.length_take, List.length_drop, List.length_append, List.length_cons, List.length_nil, List.length_set]; omega) | (simp; done))) | (with_reducible refine Ev.ifn ?_ ?_; (· first | omega | assumption | rfl | (simp only [List.length_map, List.length_replicate, List.length_take, List.length_drop, List.length_append, List.length_cons, List.length_nil, List.length_set]; omega) | (simp; done)))))
    (refine Ev.up ?_; simp only [impl_readText.j1, decT])
    (repeat (first | with_reducible refine Ev.bindS ?_ | (with_reducible refine Ev.ifp ?_ ?_; (· first | omega | assumption | rfl | (simp only [List.length_map, List.length_replicate, List.length_take, List.length_drop, List.length_append, List.length_cons, List.length_nil, List.length_set]; omega) | (simp; done))) | (with_reducible refine Ev.ifn ?_ ?_; (· first | omega | assumption | rfl | (simp only [List.length_map, List.length_replicate, List.length_take, List.length_drop, List.length_append, List.length_cons, List.length_nil, List.length_set]; omega) | (simp; done)))))
    exact Ev.val (by simp [strict, textEnd])
  | case3 t =>
    intro i acc h hi ha
    obtain ⟨h1, h2, h3, h4⟩ := drop_cons2 h
    rw [nm_length] at h4
    (refine Ev.up ?_; simp only [impl_readText.l0, decT])
    rw [nm_get h1, wrap_succ (by omega), nm_get h2]
    (repeat (first | with_reducible refine Ev.bindS ?_ | (with_reducible refine Ev.ifp ?_ ?_; (· first | omega | assumption | rfl | (simp only [List.length_map, List.length_replicate, List.length_take, List.length_drop, List.length_append, List.length_cons, List.length_nil, List.length_set]; omega) | (simp; done))) | (with_reducible refine Ev.ifn ?_ ?_; (· first | omega | assumption | rfl | (simp only [List.length_map, List.length_replicate, List.length_take, List.length_drop, List.length_append, List.length_cons, List.length_nil, List.length_set]; omega) | (simp; done)))))
    (refine Ev.up ?_; simp only [impl_readText.j1, decT])
    rw [wrap_succ (by omega)]
    (repeat (first | with_reducible refine Ev.bindS ?_ | (with_reducible refine Ev.ifp ?_ ?_; (· first | omega | assumption | rfl | (simp only [List.length_map, List.length_replicate, List.length_take, List.length_drop, List.length_append, List.length_cons, List.length_nil, List.length_set]; omega) | (simp; done))) | (with_reducible refine Ev.ifn ?_ ?_; (· first | omega | assumption | rfl | (simp only [List.length_map, List.length_replicate, List.length_take, List.length_drop, List.length_append, List.length_cons, List.length_nil, List.length_set]; omega) | (simp; done)))))
    exact Ev.val (by simp [strict, textEnd]; omega)
  | case4 t _ ih =>
    intro i acc h hi ha
    obtain ⟨h1, h2, h3, h4⟩ := drop_cons2 h
    rw [nm_length] at h4
    have ih := ih (i + 2) (acc ++ [0]) h3 (by omega) (by simp; omega)
    (refine Ev.up ?_; simp only [impl_readText.l0, decT])
    rw [nm_get h1, wrap_succ (by omega), nm_get h2]
    (repeat (first | with_reducible refine Ev.bindS ?_ | (with_reducible refine Ev.ifp ?_ ?_; (· first | omega | assumption | rfl | (simp only [List.length_map, List.length_replicate, List.length_take, List.length_drop, List.length_append, List.length_cons, List.length_nil, List.length_set]; omega) | (simp; done))) | (with_reducible refine Ev.ifn ?_ ?_; (· first | omega | assumption | rfl | (simp only [List.length_map, List.length_replicate, List.length_take, List.length_drop, List.length_append, List.length_cons, List.length_nil, List.length_set]; omega) | (simp; done)))))
    (refine Ev.up ?_; simp only [impl_readText.j1, decT])
    rw [wrap_succ (by omega), nm_get h2]
    (repeat (first | with_reducible refine Ev.bindS ?_ | (with_reducible refine Ev.ifp ?_ ?_; (· first | omega | assumption | rfl | (simp only [List.length_map, List.length_replicate, List.length_take, List.length_drop, List.length_append, List.length_cons, List.length_nil, List.length_set]; omega) | (simp; done))) | (with_reducible refine Ev.ifn ?_ ?_; (· first | omega | assumption | rfl | (simp only [List.length_map, List.length_replicate, List.length_take, List.length_drop, List.length_append, List.length_cons, List.length_nil, List.length_set]; omega) | (simp; done)))))
    have e : strict (0 :: 255 :: t) = (strict t).map (fun p => (0 :: p.1, p.2 + 2)) := by simp [strict]
    rw [e]
    cases hst : strict t with
    | none => rw [hst] at ih; exact ih
    | some p =>
      rw [hst] at ih
      have e2 : textEnd acc i (some (0 :: p.1, p.2 + 2)) = textEnd (acc ++ [0]) (i + 2) (some p) := by
        simp only [textEnd, List.append_assoc, List.singleton_append]
        congr 2
        omega
      rw [Option.map_some, e2]
      exact ih
  | case5 x t hx hy =>
    intro i acc h hi ha
    obtain ⟨h1, h2, h3, h4⟩ := drop_cons2 h
    rw [nm_length] at h4
    (refine Ev.up ?_; simp only [impl_readText.l0, decT])
    rw [nm_get h1, wrap_succ (by omega), nm_get h2]
    (repeat (first | with_reducible refine Ev.bindS ?_ | (with_reducible refine Ev.ifp ?_ ?_; (· first | omega | assumption | rfl | (simp only [List.length_map, List.length_replicate, List.length_take, List.length_drop, List.length_append, List.length_cons, List.length_nil, List.length_set]; omega) | (simp; done))) | (with_reducible refine Ev.ifn ?_ ?_; (· first | omega | assumption | rfl | (simp only [List.length_map, List.length_replicate, List.length_take, List.length_drop, List.length_append, List.length_cons, List.length_nil, List.length_set]; omega) | (simp; done)))))
    have e : (x == 0) = false := by simpa using hx
    rw [e]
    (refine Ev.up ?_; simp only [impl_readText.j1, decT])
    rw [nm_get h2]
    (repeat (first | with_reducible refine Ev.bindS ?_ | (with_reducible refine Ev.ifp ?_ ?_; (· first | omega | assumption | rfl | (simp only [List.length_map, List.length_replicate, List.length_take, List.length_drop, List.length_append, List.length_cons, List.length_nil, List.length_set]; omega) | (simp; done))) | (with_reducible refine Ev.ifn ?_ ?_; (· first | omega | assumption | rfl | (simp only [List.length_map, List.length_replicate, List.length_take, List.length_drop, List.length_append, List.length_cons, List.length_nil, List.length_set]; omega) | (simp; done)))))
    have e : strict (0 :: x :: t) = none := by simp [strict, hx, hy]
    exact Ev.val (by rw [e]; rfl)
  | case6 x t hx ih =>
    intro i acc h hi ha
    obtain ⟨h1, h2, h3⟩ := drop_cons h
    rw [nm_length] at h1
    have ih := ih (i + 1) (acc ++ [x]) h3 (by omega) (by simp; omega)
    (refine Ev.up ?_; simp only [impl_readText.l0, decT])
    rw [nm_get h2, wrap_succ (by omega)]
    (repeat (first | with_reducible refine Ev.bindS ?_ | (with_reducible refine Ev.ifp ?_ ?_; (· first | omega | assumption | rfl | (simp only [List.length_map, List.length_replicate, List.length_take, List.length_drop, List.length_append, List.length_cons, List.length_nil, List.length_set]; omega) | (simp; done))) | (with_reducible refine Ev.ifn ?_ ?_; (· first | omega | assumption | rfl | (simp only [List.length_map, List.length_replicate, List.length_take, List.length_drop, List.length_append, List.length_cons, List.length_nil, List.length_set]; omega) | (simp; done)))))
    have es : strict (x :: t) = (strict t).map (fun p => (x :: p.1, p.2 + 1)) := by
      rw [strict.eq_def]
      simp only [if_neg hx]
    rw [es]
    cases hst : strict t with
    | none => rw [hst] at ih; exact ih
    | some p =>
      rw [hst] at ih
      have e2 : textEnd acc i (some (x :: p.1, p.2 + 1)) = textEnd (acc ++ [x]) (i + 1) (some p) := by
        simp only [textEnd, List.append_assoc, List.singleton_append]
        congr 2
        omega
      rw [Option.map_some, e2]
      exact ih
/-- The other program's loop. -/
theorem loose_ev (x0 : ByteArray) (x1 : Int) (a b : Int) (c : ByteArray) (s : ByteArray) (hs : s.size ≤ 1048576) (r : Int × Int × ByteArray × Int) (T : List Int) : ∀ (i : Nat) (acc : List Int), (nm s).drop i = T → i ≤ s.size → acc.length ≤ i →
    Ev (fun k => spec_l4Read.j4 k x0 x1 a b (strOfNums (acc ++ loose T))) r → Ev (fun k => spec_l4Read.l0 k x0 x1 s acc i a b c) r := by
  induction T using loose.induct with
  | case1 =>
    intro i acc h hi ha hr
    have := drop_nil h
    rw [nm_length] at this
    (refine Ev.up ?_; simp only [spec_l4Read.l0, decT])
    rw [wrap_succ (by omega)]
    (repeat (first | with_reducible refine Ev.bindS ?_ | (with_reducible refine Ev.ifp ?_ ?_; (· first | omega | assumption | rfl | (simp only [List.length_map, List.length_replicate, List.length_take, List.length_drop, List.length_append, List.length_cons, List.length_nil, List.length_set]; omega) | (simp; done))) | (with_reducible refine Ev.ifn ?_ ?_; (· first | omega | assumption | rfl | (simp only [List.length_map, List.length_replicate, List.length_take, List.length_drop, List.length_append, List.length_cons, List.length_nil, List.length_set]; omega) | (simp; done)))))
    (refine Ev.up ?_; simp only [spec_l4Read.j3, decT])
    (repeat (first | with_reducible refine Ev.bindS ?_ | (with_reducible refine Ev.ifp ?_ ?_; (· first | omega | assumption | rfl | (simp only [List.length_map, List.length_replicate, List.length_take, List.length_drop, List.length_append, List.length_cons, List.length_nil, List.length_set]; omega) | (simp; done))) | (with_reducible refine Ev.ifn ?_ ?_; (· first | omega | assumption | rfl | (simp only [List.length_map, List.length_replicate, List.length_take, List.length_drop, List.length_append, List.length_cons, List.length_nil, List.length_set]; omega) | (simp; done)))))
    simpa [loose] using hr
  | case2 x =>
    intro i acc h hi ha hr
    obtain ⟨h1, h2, h3⟩ := drop_cons h
    have h3 := drop_nil h3
    rw [nm_length] at h1 h3
    (refine Ev.up ?_; simp only [spec_l4Read.l0, decT])
    rw [wrap_succ (by omega)]
    (repeat (first | with_reducible refine Ev.bindS ?_ | (with_reducible refine Ev.ifp ?_ ?_; (· first | omega | assumption | rfl | (simp only [List.length_map, List.length_replicate, List.length_take, List.length_drop, List.length_append, List.length_cons, List.length_nil, List.length_set]; omega) | (simp; done))) | (with_reducible refine Ev.ifn ?_ ?_; (· first | omega | assumption | rfl | (simp only [List.length_map, List.length_replicate, List.length_take, List.length_drop, List.length_append, List.length_cons, List.length_nil, List.length_set]; omega) | (simp; done)))))
    (refine Ev.up ?_; simp only [spec_l4Read.j3, decT])
    (repeat (first | with_reducible refine Ev.bindS ?_ | (with_reducible refine Ev.ifp ?_ ?_; (· first | omega | assumption | rfl | (simp only [List.length_map, List.length_replicate, List.length_take, List.length_drop, List.length_append, List.length_cons, List.length_nil, List.length_set]; omega) | (simp; done))) | (with_reducible refine Ev.ifn ?_ ?_; (· first | omega | assumption | rfl | (simp only [List.length_map, List.length_replicate, List.length_take, List.length_drop, List.length_append, List.length_cons, List.length_nil, List.length_set]; omega) | (simp; done)))))
    simpa [loose] using hr
  | case3 t =>
    intro i acc h hi ha hr
    obtain ⟨h1, h2, h3, h4⟩ := drop_cons2 h
    rw [nm_length] at h4
    (refine Ev.up ?_; simp only [spec_l4Read.l0, decT])
    rw [wrap_succ (by omega), nm_get h1, nm_get h2]
    (repeat (first | with_reducible refine Ev.bindS ?_ | (with_reducible refine Ev.ifp ?_ ?_; (· first | omega | assumption | rfl | (simp only [List.length_map, List.length_replicate, List.length_take, List.length_drop, List.length_append, List.length_cons, List.length_nil, List.length_set]; omega) | (simp; done))) | (with_reducible refine Ev.ifn ?_ ?_; (· first | omega | assumption | rfl | (simp only [List.length_map, List.length_replicate, List.length_take, List.length_drop, List.length_append, List.length_cons, List.length_nil, List.length_set]; omega) | (simp; done)))))
    (refine Ev.up ?_; simp only [spec_l4Read.j3, decT])
    (repeat (first | with_reducible refine Ev.bindS ?_ | (with_reducible refine Ev.ifp ?_ ?_; (· first | omega | assumption | rfl | (simp only [List.length_map, List.length_replicate, List.length_take, List.length_drop, List.length_append, List.length_cons, List.length_nil, List.length_set]; omega) | (simp; done))) | (with_reducible refine Ev.ifn ?_ ?_; (· first | omega | assumption | rfl | (simp only [List.length_map, List.length_replicate, List.length_take, List.length_drop, List.length_append, List.length_cons, List.length_nil, List.length_set]; omega) | (simp; done)))))
    simpa [loose] using hr
  | case4 y t hy ih =>
    intro i acc h hi ha hr
    obtain ⟨h1, h2, h3, h4⟩ := drop_cons2 h
    rw [nm_length] at h4
    have ih := ih (i + 2) (acc ++ [0]) h3 (by omega) (by simp; omega) (by simpa [loose, hy] using hr)
    (refine Ev.up ?_; simp only [spec_l4Read.l0, decT])
    rw [wrap_succ (by omega), nm_get h1, nm_get h2]
    have e : (!(y == 0)) = true := by simpa using hy
    rw [e]
    (repeat (first | with_reducible refine Ev.bindS ?_ | (with_reducible refine Ev.ifp ?_ ?_; (· first | omega | assumption | rfl | (simp only [List.length_map, List.length_replicate, List.length_take, List.length_drop, List.length_append, List.length_cons, List.length_nil, List.length_set]; omega) | (simp; done))) | (with_reducible refine Ev.ifn ?_ ?_; (· first | omega | assumption | rfl | (simp only [List.length_map, List.length_replicate, List.length_take, List.length_drop, List.length_append, List.length_cons, List.length_nil, List.length_set]; omega) | (simp; done)))))
    (refine Ev.up ?_; simp only [spec_l4Read.j3, decT])
    rw [nm_get h1, wrap_succ (i := i) (by omega), wrap_succ (by omega)]
    (repeat (first | with_reducible refine Ev.bindS ?_ | (with_reducible refine Ev.ifp ?_ ?_; (· first | omega | assumption | rfl | (simp only [List.length_map, List.length_replicate, List.length_take, List.length_drop, List.length_append, List.length_cons, List.length_nil, List.length_set]; omega) | (simp; done))) | (with_reducible refine Ev.ifn ?_ ?_; (· first | omega | assumption | rfl | (simp only [List.length_map, List.length_replicate, List.length_take, List.length_drop, List.length_append, List.length_cons, List.length_nil, List.length_set]; omega) | (simp; done)))))
    exact ih
  | case5 x y t hx ih =>
    intro i acc h hi ha hr
    obtain ⟨h1, h2, h3, h4⟩ := drop_cons2 h
    have h5 := (drop_cons h).2.2
    rw [nm_length] at h4
    have ih := ih (i + 1) (acc ++ [x]) h5 (by omega) (by simp; omega) (by simpa [loose, hx] using hr)
    (refine Ev.up ?_; simp only [spec_l4Read.l0, decT])
    rw [wrap_succ (by omega), nm_get h1]
    (repeat (first | with_reducible refine Ev.bindS ?_ | (with_reducible refine Ev.ifp ?_ ?_; (· first | omega | assumption | rfl | (simp only [List.length_map, List.length_replicate, List.length_take, List.length_drop, List.length_append, List.length_cons, List.length_nil, List.length_set]; omega) | (simp; done))) | (with_reducible refine Ev.ifn ?_ ?_; (· first | omega | assumption | rfl | (simp only [List.length_map, List.length_replicate, List.length_take, List.length_drop, List.length_append, List.length_cons, List.length_nil, List.length_set]; omega) | (simp; done)))))
    (refine Ev.up ?_; simp only [spec_l4Read.j3, decT])
    rw [nm_get h1, wrap_succ (i := i) (by omega)]
    (repeat (first | with_reducible refine Ev.bindS ?_ | (with_reducible refine Ev.ifp ?_ ?_; (· first | omega | assumption | rfl | (simp only [List.length_map, List.length_replicate, List.length_take, List.length_drop, List.length_append, List.length_cons, List.length_nil, List.length_set]; omega) | (simp; done))) | (with_reducible refine Ev.ifn ?_ ?_; (· first | omega | assumption | rfl | (simp only [List.length_map, List.length_replicate, List.length_take, List.length_drop, List.length_append, List.length_cons, List.length_nil, List.length_set]; omega) | (simp; done)))))
    exact ih
/-- What a value is written as. -/
def vb (a b : Int) (c : ByteArray) : List Int :=
  if a = 2 then [a, b] else if a = 3 then [a, (b + 1000000000) / 16777216, (b + 1000000000) / 65536 % 256, (b + 1000000000) / 256 % 256, (b + 1000000000) % 256] else if a = 4 then a :: (esc (nm c) ++ [0, 0]) else [a]
theorem esc_ev (a b : Int) (c : ByteArray) (hc : c.size ≤ 1048576) (T : List Int) : ∀ (i : Nat) (acc : List Int), (nm c).drop i = T → i ≤ c.size → acc.length ≤ 1 + 2 * i →
    Ev (fun k => spec_l4Bytes.l0 k acc i a b c) (strOfNums (acc ++ (esc T ++ [0, 0]))) := by
  induction T with
  | nil =>
    intro i acc h hi ha
    have := drop_nil h
    rw [nm_length] at this
    (refine Ev.up ?_; simp only [spec_l4Bytes.l0, decT])
    (repeat (first | with_reducible refine Ev.bindS ?_ | (with_reducible refine Ev.ifp ?_ ?_; (· first | omega | assumption | rfl | (simp only [List.length_map, List.length_replicate, List.length_take, List.length_drop, List.length_append, List.length_cons, List.length_nil, List.length_set]; omega) | (simp; done))) | (with_reducible refine Ev.ifn ?_ ?_; (· first | omega | assumption | rfl | (simp only [List.length_map, List.length_replicate, List.length_take, List.length_drop, List.length_append, List.length_cons, List.length_nil, List.length_set]; omega) | (simp; done)))))
    exact Ev.val rfl
  | cons x t ih =>
    intro i acc h hi ha
    obtain ⟨h1, h2, h3⟩ := drop_cons h
    rw [nm_length] at h1
    by_cases hx : x = 0
    · have ih := ih (i + 1) (acc ++ [x] ++ [255]) h3 (by omega) (by simp; omega)
      (refine Ev.up ?_; simp only [spec_l4Bytes.l0, decT])
      rw [nm_get h2, wrap_succ (by omega)]
      (repeat (first | with_reducible refine Ev.bindS ?_ | (with_reducible refine Ev.ifp ?_ ?_; (· first | omega | assumption | rfl | (simp only [List.length_map, List.length_replicate, List.length_take, List.length_drop, List.length_append, List.length_cons, List.length_nil, List.length_set]; omega) | (simp; done))) | (with_reducible refine Ev.ifn ?_ ?_; (· first | omega | assumption | rfl | (simp only [List.length_map, List.length_replicate, List.length_take, List.length_drop, List.length_append, List.length_cons, List.length_nil, List.length_set]; omega) | (simp; done)))))
      simpa [esc, hx] using ih
    · have ih := ih (i + 1) (acc ++ [x]) h3 (by omega) (by simp; omega)
      (refine Ev.up ?_; simp only [spec_l4Bytes.l0, decT])
      rw [nm_get h2, wrap_succ (by omega)]
      (repeat (first | with_reducible refine Ev.bindS ?_ | (with_reducible refine Ev.ifp ?_ ?_; (· first | omega | assumption | rfl | (simp only [List.length_map, List.length_replicate, List.length_take, List.length_drop, List.length_append, List.length_cons, List.length_nil, List.length_set]; omega) | (simp; done))) | (with_reducible refine Ev.ifn ?_ ?_; (· first | omega | assumption | rfl | (simp only [List.length_map, List.length_replicate, List.length_take, List.length_drop, List.length_append, List.length_cons, List.length_nil, List.length_set]; omega) | (simp; done)))))
      simpa [esc, hx] using ih
theorem good_kind {a b : Int} {c : ByteArray} (h : goodV a b c = true) : (a = 1 ∧ b = 0 ∧ nm c = []) ∨ (a = 2 ∧ 0 ≤ b ∧ b ≤ 1 ∧ nm c = []) ∨ (a = 3 ∧ -1000000000 ≤ b ∧ b ≤ 1000000000 ∧ nm c = []) ∨ (a = 4 ∧ b = 0 ∧ c.size ≤ 12) := by
  unfold goodV at h
  split at h
  · simp at h; simp_all
  · split at h
    · simp at h; simp_all
    · split at h
      · simp at h; simp_all
      · split at h
        · simp at h; simp_all
        · simp at h
theorem bytes_ev (a b : Int) (c : ByteArray) (h : goodV a b c = true) : Ev (fun k => spec_l4Bytes.f k a b c) (strOfNums (vb a b c)) := by
  rcases good_kind h with ⟨rfl, _⟩ | ⟨rfl, h0, h1, _⟩ | ⟨rfl, h0, h1, _⟩ | ⟨rfl, _, hc⟩
  · simp only [spec_l4Bytes.f, vb]
    (repeat (first | with_reducible refine Ev.bindS ?_ | (with_reducible refine Ev.ifp ?_ ?_; (· first | omega | assumption | rfl | (simp only [List.length_map, List.length_replicate, List.length_take, List.length_drop, List.length_append, List.length_cons, List.length_nil, List.length_set]; omega) | (simp; done))) | (with_reducible refine Ev.ifn ?_ ?_; (· first | omega | assumption | rfl | (simp only [List.length_map, List.length_replicate, List.length_take, List.length_drop, List.length_append, List.length_cons, List.length_nil, List.length_set]; omega) | (simp; done)))))
    exact Ev.val rfl
  · simp only [spec_l4Bytes.f, vb]
    (repeat (first | with_reducible refine Ev.bindS ?_ | (with_reducible refine Ev.ifp ?_ ?_; (· first | omega | assumption | rfl | (simp only [List.length_map, List.length_replicate, List.length_take, List.length_drop, List.length_append, List.length_cons, List.length_nil, List.length_set]; omega) | (simp; done))) | (with_reducible refine Ev.ifn ?_ ?_; (· first | omega | assumption | rfl | (simp only [List.length_map, List.length_replicate, List.length_take, List.length_drop, List.length_append, List.length_cons, List.length_nil, List.length_set]; omega) | (simp; done)))))
    have e : b % 256 = b := by omega
    exact Ev.val (by rw [e]; rfl)
  · simp only [spec_l4Bytes.f, vb]
    have e : wrap64 (b + 1000000000) = b + 1000000000 := wrap_ok (by omega) (by omega)
    rw [e]
    (repeat (first | with_reducible refine Ev.bindS ?_ | (with_reducible refine Ev.ifp ?_ ?_; (· first | omega | assumption | rfl | (simp only [List.length_map, List.length_replicate, List.length_take, List.length_drop, List.length_append, List.length_cons, List.length_nil, List.length_set]; omega) | (simp; done))) | (with_reducible refine Ev.ifn ?_ ?_; (· first | omega | assumption | rfl | (simp only [List.length_map, List.length_replicate, List.length_take, List.length_drop, List.length_append, List.length_cons, List.length_nil, List.length_set]; omega) | (simp; done)))))
    have e2 : (b + 1000000000) / 16777216 % 256 = (b + 1000000000) / 16777216 := by omega
    exact Ev.val (by rw [e2]; rfl)
  · simp only [spec_l4Bytes.f, vb]
    (repeat (first | with_reducible refine Ev.bindS ?_ | (with_reducible refine Ev.ifp ?_ ?_; (· first | omega | assumption | rfl | (simp only [List.length_map, List.length_replicate, List.length_take, List.length_drop, List.length_append, List.length_cons, List.length_nil, List.length_set]; omega) | (simp; done))) | (with_reducible refine Ev.ifn ?_ ?_; (· first | omega | assumption | rfl | (simp only [List.length_map, List.length_replicate, List.length_take, List.length_drop, List.length_append, List.length_cons, List.length_nil, List.length_set]; omega) | (simp; done)))))
    have := esc_ev 4 b c (by omega) (nm c) 0 [4] (by simp) (by omega) (by simp)
    exact this
end Go.Proofs.Ytpfgjjbkcifpfaa.Pure
namespace Go.Proofs.Ytpfgjjbkcifpfaa.Pure
open Go.RowKit Go.Proofs.Ytpfgjjbkcifpfaa.Fn Go.Proofs.YtpfgjjbkcifpfaaW.PrintWords Go.Proofs.YtpfgjjbkcifpfaaW.PrintLast Go.Proofs.YtpfgjjbkcifpfaaW.PrintMore
set_option linter.unusedSimpArgs false
set_option linter.unusedVariables false

theorem esc_length (T : List Int) : (esc T).length ≤ 2 * T.length := by
  induction T with
  | nil => simp [esc]
  | cons x t ih =>
    simp only [esc]
    split <;> simp only [List.length_cons] <;> omega
theorem esc_range (T : List Int) (h : ∀ x ∈ T, 0 ≤ x ∧ x < 256) : ∀ x ∈ esc T, 0 ≤ x ∧ x < 256 := by
  induction T with
  | nil => simp [esc]
  | cons y t ih =>
    have ih := ih (fun x hx => h x (List.mem_cons_of_mem _ hx))
    have hy := h y List.mem_cons_self
    intro x hx
    simp only [esc] at hx
    split at hx
    · rcases List.mem_cons.1 hx with rfl | hx
      · omega
      · rcases List.mem_cons.1 hx with rfl | hx
        · omega
        · exact ih x hx
    · rcases List.mem_cons.1 hx with rfl | hx
      · exact hy
      · exact ih x hx
theorem vb_ok {a b : Int} {c : ByteArray} (h : goodV a b c = true) : (vb a b c).length ≤ 27 ∧ 1 ≤ (vb a b c).length ∧ ∀ x ∈ vb a b c, 0 ≤ x ∧ x < 256 := by
  rcases good_kind h with ⟨rfl, _⟩ | ⟨rfl, h0, h1, _⟩ | ⟨rfl, h0, h1, _⟩ | ⟨rfl, _, hc⟩
  · simp [vb]
  · simp [vb]; omega
  · simp [vb]; omega
  · have h1 := esc_length (nm c)
    rw [nm_length] at h1
    refine ⟨by simp [vb]; omega, by simp [vb], ?_⟩
    intro x hx
    have hx : x ∈ 4 :: (esc (nm c) ++ [0, 0]) := by simpa [vb] using hx
    rcases List.mem_cons.1 hx with rfl | hx
    · omega
    · rcases List.mem_append.1 hx with hx | hx
      · exact esc_range _ (fun _ h => nm_range h) x hx
      · simp at hx; omega
def specEnd (s : ByteArray) (i : Nat) (a b : Int) (c : ByteArray) : Int × Int × ByteArray × Int :=
  if goodV a b c = true ∧ ((nm s).drop i).take (vb a b c).length = vb a b c then (a, b, c, ((i + (vb a b c).length : Nat) : Int)) else (0, 0, e0, -1)
theorem j4_ev (s : ByteArray) (hs : s.size ≤ 1048576) (i : Nat) (hi : i ≤ s.size) (a b : Int) (c : ByteArray) : Ev (fun k => spec_l4Read.j4 k s i a b c) (specEnd s i a b c) := by
  (refine Ev.up ?_; simp only [spec_l4Read.j4, decT])
  rw [specGood_eq]
  (repeat (first | with_reducible refine Ev.bindS ?_ | (with_reducible refine Ev.ifp ?_ ?_; (· first | omega | assumption | rfl | (simp only [List.length_map, List.length_replicate, List.length_take, List.length_drop, List.length_append, List.length_cons, List.length_nil, List.length_set]; omega) | (simp; done))) | (with_reducible refine Ev.ifn ?_ ?_; (· first | omega | assumption | rfl | (simp only [List.length_map, List.length_replicate, List.length_take, List.length_drop, List.length_append, List.length_cons, List.length_nil, List.length_set]; omega) | (simp; done)))))
  cases hg : goodV a b c with
  | false =>
    (repeat (first | with_reducible refine Ev.bindS ?_ | (with_reducible refine Ev.ifp ?_ ?_; (· first | omega | assumption | rfl | (simp only [List.length_map, List.length_replicate, List.length_take, List.length_drop, List.length_append, List.length_cons, List.length_nil, List.length_set]; omega) | (simp; done))) | (with_reducible refine Ev.ifn ?_ ?_; (· first | omega | assumption | rfl | (simp only [List.length_map, List.length_replicate, List.length_take, List.length_drop, List.length_append, List.length_cons, List.length_nil, List.length_set]; omega) | (simp; done)))))
    exact Ev.val (by simp [specEnd, hg])
  | true =>
    obtain ⟨h1, h2, h3⟩ := vb_ok hg
    have hz : (strOfNums (vb a b c)).size = (vb a b c).length := by rw [← nm_length, nm_nums _ h3]
    have hz2 : wrap64 ((i : Int) + ((strOfNums (vb a b c)).size : Int)) = ((i + (vb a b c).length : Nat) : Int) := by
      rw [hz, wrap_ok (by omega) (by omega)]; omega
    (repeat (first | with_reducible refine Ev.bindS ?_ | (with_reducible refine Ev.ifp ?_ ?_; (· first | omega | assumption | rfl | (simp only [List.length_map, List.length_replicate, List.length_take, List.length_drop, List.length_append, List.length_cons, List.length_nil, List.length_set]; omega) | (simp; done))) | (with_reducible refine Ev.ifn ?_ ?_; (· first | omega | assumption | rfl | (simp only [List.length_map, List.length_replicate, List.length_take, List.length_drop, List.length_append, List.length_cons, List.length_nil, List.length_set]; omega) | (simp; done)))))
    refine Ev.bind (bytes_ev a b c hg) ?_
    simp only [hz2]
    by_cases hlt : s.size < i + (vb a b c).length
    · (repeat (first | with_reducible refine Ev.bindS ?_ | (with_reducible refine Ev.ifp ?_ ?_; (· first | omega | assumption | rfl | (simp only [List.length_map, List.length_replicate, List.length_take, List.length_drop, List.length_append, List.length_cons, List.length_nil, List.length_set]; omega) | (simp; done))) | (with_reducible refine Ev.ifn ?_ ?_; (· first | omega | assumption | rfl | (simp only [List.length_map, List.length_replicate, List.length_take, List.length_drop, List.length_append, List.length_cons, List.length_nil, List.length_set]; omega) | (simp; done)))))
      refine Ev.val ?_
      rw [specEnd, if_neg]
      rintro ⟨_, h⟩
      have := congrArg List.length h
      rw [List.length_take, List.length_drop, nm_length] at this
      omega
    · (repeat (first | with_reducible refine Ev.bindS ?_ | (with_reducible refine Ev.ifp ?_ ?_; (· first | omega | assumption | rfl | (simp only [List.length_map, List.length_replicate, List.length_take, List.length_drop, List.length_append, List.length_cons, List.length_nil, List.length_set]; omega) | (simp; done))) | (with_reducible refine Ev.ifn ?_ ?_; (· first | omega | assumption | rfl | (simp only [List.length_map, List.length_replicate, List.length_take, List.length_drop, List.length_append, List.length_cons, List.length_nil, List.length_set]; omega) | (simp; done)))))
      have e : (s.extract ((i : Nat) : Int).toNat ((i + (vb a b c).length : Nat) : Int).toNat).toList = (strOfNums (vb a b c)).toList ↔ ((nm s).drop i).take (vb a b c).length = vb a b c := by
        rw [toList_iff, nm_nums _ h3, nm_extract, Int.toNat_natCast, Int.toNat_natCast]
        have : i + (vb a b c).length - i = (vb a b c).length := by omega
        rw [this]
      by_cases hq : ((nm s).drop i).take (vb a b c).length = vb a b c
      · have hq' := e.2 hq
        (repeat (first | with_reducible refine Ev.bindS ?_ | (with_reducible refine Ev.ifp ?_ ?_; (· first | omega | assumption | rfl | (simp only [List.length_map, List.length_replicate, List.length_take, List.length_drop, List.length_append, List.length_cons, List.length_nil, List.length_set]; omega) | (simp; done))) | (with_reducible refine Ev.ifn ?_ ?_; (· first | omega | assumption | rfl | (simp only [List.length_map, List.length_replicate, List.length_take, List.length_drop, List.length_append, List.length_cons, List.length_nil, List.length_set]; omega) | (simp; done)))))
        exact Ev.val (by rw [specEnd, if_pos ⟨hg, hq⟩])
      · have hq' := fun h => hq (e.1 h)
        (repeat (first | with_reducible refine Ev.bindS ?_ | (with_reducible refine Ev.ifp ?_ ?_; (· first | omega | assumption | rfl | (simp only [List.length_map, List.length_replicate, List.length_take, List.length_drop, List.length_append, List.length_cons, List.length_nil, List.length_set]; omega) | (simp; done))) | (with_reducible refine Ev.ifn ?_ ?_; (· first | omega | assumption | rfl | (simp only [List.length_map, List.length_replicate, List.length_take, List.length_drop, List.length_append, List.length_cons, List.length_nil, List.length_set]; omega) | (simp; done)))))
        exact Ev.val (by rw [specEnd, if_neg (fun h => hq h.2)])
def word (t : List Int) : Int := t.getD 0 0 * 16777216 + t.getD 1 0 * 65536 + t.getD 2 0 * 256 + t.getD 3 0
/-- The plain reading. -/
def parse : List Int → Option (Int × Int × ByteArray × Nat)
  | [] => none
  | x :: t =>
    if x = 2 then (match t with | [] => none | b :: _ => if goodV 2 b e0 = true then some (2, b, e0, 2) else none)
    else if x = 3 then (if t.length < 4 then none else if goodV 3 (word t - 1000000000) e0 = true then some (3, word t - 1000000000, e0, 5) else none)
    else if x = 4 then (match strict t with | none => none | some p => if goodV 4 0 (strOfNums p.1) = true then some (4, 0, strOfNums p.1, p.2 + 1) else none)
    else if goodV x 0 e0 = true then some (x, 0, e0, 1) else none
@[reducible] def specRes (i : Nat) : Option (Int × Int × ByteArray × Nat) → Int × Int × ByteArray × Int
  | none => (0, 0, e0, -1)
  | some p => (p.1, p.2.1, p.2.2.1, ((i + p.2.2.2 : Nat) : Int))
@[reducible] def implRes : Option (Int × Int × ByteArray × Nat) → Int × Int × ByteArray × Int × Bool
  | none => (0, 0, e0, 0, false)
  | some p => (p.1, p.2.1, p.2.2.1, (p.2.2.2 : Int), true)
theorem specEnd_no {s : ByteArray} {i : Nat} {a b : Int} {c : ByteArray} (h : goodV a b c = false ∨ ((nm s).drop i).take (vb a b c).length ≠ vb a b c) : specEnd s i a b c = (0, 0, e0, -1) := by
  rw [specEnd, if_neg]
  rintro ⟨h1, h2⟩
  rcases h with h | h
  · rw [h] at h1; cases h1
  · exact h h2
theorem specEnd_yes {s : ByteArray} {i : Nat} {a b : Int} {c : ByteArray} (h : goodV a b c = true) (h2 : ((nm s).drop i).take (vb a b c).length = vb a b c) : specEnd s i a b c = (a, b, c, ((i + (vb a b c).length : Nat) : Int)) := by
  rw [specEnd, if_pos ⟨h, h2⟩]
theorem parse3 (t : List Int) : parse (3 :: t) = if t.length < 4 then none else if goodV 3 (word t - 1000000000) e0 = true then some (3, word t - 1000000000, e0, 5) else none := by simp [parse]
theorem four {α : Type} {t : List α} (h : ¬ t.length < 4) : ∃ a b c d v, t = a :: b :: c :: d :: v := by
  match t, h with
  | [], h => simp at h
  | [_], h => simp at h
  | [_, _], h => simp at h
  | [_, _, _], h => simp at h
  | a :: b :: c :: d :: v, _ => exact ⟨a, b, c, d, v, rfl⟩
theorem l4Read_ev (s : ByteArray) (hs : s.size ≤ 1048576) (i : Nat) (hi : i < s.size) : Ev (fun k => spec_l4Read.f k s i) (specRes i (parse ((nm s).drop i))) := by
  obtain ⟨x, t, ht⟩ : ∃ x t, (nm s).drop i = x :: t := by
    cases h : (nm s).drop i with
    | nil => have := drop_nil h; rw [nm_length] at this; omega
    | cons x t => exact ⟨x, t, rfl⟩
  obtain ⟨_, h2, h3⟩ := drop_cons ht
  have hx : 0 ≤ x ∧ x < 256 := nm_range (List.mem_of_getElem? h2)
  have hrng : ∀ y ∈ t, 0 ≤ y ∧ y < 256 := fun y hy => nm_range (s := s) (by
    have : y ∈ (nm s).drop i := by rw [ht]; exact List.mem_cons_of_mem _ hy
    exact List.mem_of_mem_drop this)
  have hw : wrap64 x = x := wrap_ok (by omega) (by omega)
  have htail : nm (s.extract (i + 1) s.size) = t := by rw [nm_tail, h3]
  have htl : (s.extract (i + 1) s.size).size = t.length := by rw [← nm_length, htail]
  have hlen : t.length ≤ 1048576 := by
    have := congrArg List.length h3
    rw [List.length_drop, nm_length] at this
    omega
  simp only [spec_l4Read.f, wrap_succ (i := i) (by omega), nm_get h2, hw, Int.toNat_natCast]
  (repeat (first | with_reducible refine Ev.bindS ?_ | (with_reducible refine Ev.ifp ?_ ?_; (· first | omega | assumption | rfl | (simp only [List.length_map, List.length_replicate, List.length_take, List.length_drop, List.length_append, List.length_cons, List.length_nil, List.length_set]; omega) | (simp; done))) | (with_reducible refine Ev.ifn ?_ ?_; (· first | omega | assumption | rfl | (simp only [List.length_map, List.length_replicate, List.length_take, List.length_drop, List.length_append, List.length_cons, List.length_nil, List.length_set]; omega) | (simp; done)))))
  generalize s.extract (i + 1) s.size = u at htail htl
  rw [ht]
  by_cases k2 : x = 2
  · subst k2
    (repeat (first | with_reducible refine Ev.bindS ?_ | (with_reducible refine Ev.ifp ?_ ?_; (· first | omega | assumption | rfl | (simp only [List.length_map, List.length_replicate, List.length_take, List.length_drop, List.length_append, List.length_cons, List.length_nil, List.length_set]; omega) | (simp; done))) | (with_reducible refine Ev.ifn ?_ ?_; (· first | omega | assumption | rfl | (simp only [List.length_map, List.length_replicate, List.length_take, List.length_drop, List.length_append, List.length_cons, List.length_nil, List.length_set]; omega) | (simp; done)))))
    (refine Ev.up ?_; simp only [spec_l4Read.j0, decT])
    cases t with
    | nil =>
      simp only [htl]
      (repeat (first | with_reducible refine Ev.bindS ?_ | (with_reducible refine Ev.ifp ?_ ?_; (· first | omega | assumption | rfl | (simp only [List.length_map, List.length_replicate, List.length_take, List.length_drop, List.length_append, List.length_cons, List.length_nil, List.length_set]; omega) | (simp; done))) | (with_reducible refine Ev.ifn ?_ ?_; (· first | omega | assumption | rfl | (simp only [List.length_map, List.length_replicate, List.length_take, List.length_drop, List.length_append, List.length_cons, List.length_nil, List.length_set]; omega) | (simp; done)))))
      (refine Ev.up ?_; simp only [spec_l4Read.j1, decT])
      (repeat (first | with_reducible refine Ev.bindS ?_ | (with_reducible refine Ev.ifp ?_ ?_; (· first | omega | assumption | rfl | (simp only [List.length_map, List.length_replicate, List.length_take, List.length_drop, List.length_append, List.length_cons, List.length_nil, List.length_set]; omega) | (simp; done))) | (with_reducible refine Ev.ifn ?_ ?_; (· first | omega | assumption | rfl | (simp only [List.length_map, List.length_replicate, List.length_take, List.length_drop, List.length_append, List.length_cons, List.length_nil, List.length_set]; omega) | (simp; done)))))
      have e : specRes i (parse [2]) = specEnd s i 2 0 e0 := by
        rw [specEnd_no (.inr (by rw [ht]; decide))]
        rfl
      rw [e]
      exact j4_ev s hs i (by omega) 2 0 e0
    | cons b v =>
      have hb := hrng b List.mem_cons_self
      have hbt : bt u 0 = b := by rw [bt_nm, htail]; rfl
      simp only [htl, hbt, wrap_ok (n := b) (by omega) (by omega)]
      (repeat (first | with_reducible refine Ev.bindS ?_ | (with_reducible refine Ev.ifp ?_ ?_; (· first | omega | assumption | rfl | (simp only [List.length_map, List.length_replicate, List.length_take, List.length_drop, List.length_append, List.length_cons, List.length_nil, List.length_set]; omega) | (simp; done))) | (with_reducible refine Ev.ifn ?_ ?_; (· first | omega | assumption | rfl | (simp only [List.length_map, List.length_replicate, List.length_take, List.length_drop, List.length_append, List.length_cons, List.length_nil, List.length_set]; omega) | (simp; done)))))
      have e : specRes i (parse (2 :: b :: v)) = specEnd s i 2 b e0 := by
        cases hg : goodV 2 b e0 with
        | false => rw [specEnd_no (.inl hg)]; simp [parse, hg, specRes]
        | true => rw [specEnd_yes hg (by rw [ht]; rfl)]; simp [parse, hg, specRes, vb]
      rw [e]
      exact j4_ev s hs i (by omega) 2 b e0
  · by_cases k3 : x = 3
    · subst k3
      (repeat (first | with_reducible refine Ev.bindS ?_ | (with_reducible refine Ev.ifp ?_ ?_; (· first | omega | assumption | rfl | (simp only [List.length_map, List.length_replicate, List.length_take, List.length_drop, List.length_append, List.length_cons, List.length_nil, List.length_set]; omega) | (simp; done))) | (with_reducible refine Ev.ifn ?_ ?_; (· first | omega | assumption | rfl | (simp only [List.length_map, List.length_replicate, List.length_take, List.length_drop, List.length_append, List.length_cons, List.length_nil, List.length_set]; omega) | (simp; done)))))
      (refine Ev.up ?_; simp only [spec_l4Read.j0, decT])
      (repeat (first | with_reducible refine Ev.bindS ?_ | (with_reducible refine Ev.ifp ?_ ?_; (· first | omega | assumption | rfl | (simp only [List.length_map, List.length_replicate, List.length_take, List.length_drop, List.length_append, List.length_cons, List.length_nil, List.length_set]; omega) | (simp; done))) | (with_reducible refine Ev.ifn ?_ ?_; (· first | omega | assumption | rfl | (simp only [List.length_map, List.length_replicate, List.length_take, List.length_drop, List.length_append, List.length_cons, List.length_nil, List.length_set]; omega) | (simp; done)))))
      by_cases h4 : t.length < 4
      · (repeat (first | with_reducible refine Ev.bindS ?_ | (with_reducible refine Ev.ifp ?_ ?_; (· first | omega | assumption | rfl | (simp only [List.length_map, List.length_replicate, List.length_take, List.length_drop, List.length_append, List.length_cons, List.length_nil, List.length_set]; omega) | (simp; done))) | (with_reducible refine Ev.ifn ?_ ?_; (· first | omega | assumption | rfl | (simp only [List.length_map, List.length_replicate, List.length_take, List.length_drop, List.length_append, List.length_cons, List.length_nil, List.length_set]; omega) | (simp; done)))))
        (refine Ev.up ?_; simp only [spec_l4Read.j1, decT])
        (repeat (first | with_reducible refine Ev.bindS ?_ | (with_reducible refine Ev.ifp ?_ ?_; (· first | omega | assumption | rfl | (simp only [List.length_map, List.length_replicate, List.length_take, List.length_drop, List.length_append, List.length_cons, List.length_nil, List.length_set]; omega) | (simp; done))) | (with_reducible refine Ev.ifn ?_ ?_; (· first | omega | assumption | rfl | (simp only [List.length_map, List.length_replicate, List.length_take, List.length_drop, List.length_append, List.length_cons, List.length_nil, List.length_set]; omega) | (simp; done)))))
        have e : specRes i (parse (3 :: t)) = specEnd s i 3 0 e0 := by
          rw [specEnd_no (.inr (by
            rw [ht]
            intro h
            have := congrArg List.length h
            simp [vb] at this
            omega))]
          rw [parse3, if_pos h4]
        rw [e]
        exact j4_ev s hs i (by omega) 3 0 e0
      · obtain ⟨b0, b1, b2, b3, v, rfl⟩ := four h4
        · skip
          have r0 := hrng b0 (by simp)
          have r1 := hrng b1 (by simp)
          have r2 := hrng b2 (by simp)
          have r3 := hrng b3 (by simp)
          have g0 : bt u 0 = b0 := by rw [bt_nm, htail]; rfl
          have g1 : bt u 1 = b1 := by rw [bt_nm, htail]; rfl
          have g2 : bt u 2 = b2 := by rw [bt_nm, htail]; rfl
          have g3 : bt u 3 = b3 := by rw [bt_nm, htail]; rfl
          simp only [List.length_cons] at htl
          (refine Ev.up ?_; simp only [spec_l4Read.j1, decT])
          (repeat (first | with_reducible refine Ev.bindS ?_ | (with_reducible refine Ev.ifp ?_ ?_; (· first | omega | assumption | rfl | (simp only [List.length_map, List.length_replicate, List.length_take, List.length_drop, List.length_append, List.length_cons, List.length_nil, List.length_set]; omega) | (simp; done))) | (with_reducible refine Ev.ifn ?_ ?_; (· first | omega | assumption | rfl | (simp only [List.length_map, List.length_replicate, List.length_take, List.length_drop, List.length_append, List.length_cons, List.length_nil, List.length_set]; omega) | (simp; done)))))
          have ew : wrap64 ((wrap64 ((wrap64 ((wrap64 ((wrap64 (bt u 0)) * 16777216)) + (wrap64 ((wrap64 (bt u 1)) * 65536)))) + (wrap64 ((wrap64 (bt u 2)) * 256)))) + (wrap64 (bt u 3))) = b0 * 16777216 + b1 * 65536 + b2 * 256 + b3 := by
            rw [g0, g1, g2, g3, wrap_ok (n := b0) (by omega) (by omega), wrap_ok (n := b1) (by omega) (by omega), wrap_ok (n := b2) (by omega) (by omega), wrap_ok (n := b3) (by omega) (by omega),
              wrap_ok (n := b0 * 16777216) (by omega) (by omega), wrap_ok (n := b1 * 65536) (by omega) (by omega), wrap_ok (n := b2 * 256) (by omega) (by omega),
              wrap_ok (n := b0 * 16777216 + b1 * 65536) (by omega) (by omega), wrap_ok (n := b0 * 16777216 + b1 * 65536 + b2 * 256) (by omega) (by omega), wrap_ok (by omega) (by omega)]
          have eW : word (b0 :: b1 :: b2 :: b3 :: v) = b0 * 16777216 + b1 * 65536 + b2 * 256 + b3 := rfl
          rw [ew, ← eW, wrap_ok (n := word (b0 :: b1 :: b2 :: b3 :: v) - 1000000000) (by rw [eW]; omega) (by rw [eW]; omega)]
          have e : specRes i (parse (3 :: b0 :: b1 :: b2 :: b3 :: v)) = specEnd s i 3 (word (b0 :: b1 :: b2 :: b3 :: v) - 1000000000) e0 := by
            cases hg : goodV 3 (word (b0 :: b1 :: b2 :: b3 :: v) - 1000000000) e0 with
            | false => rw [specEnd_no (.inl hg), parse3, if_neg h4, if_neg (by rw [hg]; simp)]
            | true =>
              rw [specEnd_yes hg]
              · rw [parse3, if_neg h4, if_pos hg]; rfl
              · rw [ht]
                have q : vb 3 (word (b0 :: b1 :: b2 :: b3 :: v) - 1000000000) e0 = [3, b0, b1, b2, b3] := by
                  have q0 : word (b0 :: b1 :: b2 :: b3 :: v) - 1000000000 + 1000000000 = b0 * 16777216 + b1 * 65536 + b2 * 256 + b3 := by rw [eW]; omega
                  simp only [vb, q0]
                  rw [if_neg (by decide), if_pos (by trivial)]
                  have q1 : (b0 * 16777216 + b1 * 65536 + b2 * 256 + b3) / 16777216 = b0 := by omega
                  have q2 : (b0 * 16777216 + b1 * 65536 + b2 * 256 + b3) / 65536 % 256 = b1 := by omega
                  have q3 : (b0 * 16777216 + b1 * 65536 + b2 * 256 + b3) / 256 % 256 = b2 := by omega
                  have q4 : (b0 * 16777216 + b1 * 65536 + b2 * 256 + b3) % 256 = b3 := by omega
                  rw [q1, q2, q3, q4]
                rw [q]
                rfl
          rw [e]
          exact j4_ev s hs i (by omega) 3 _ e0
    · by_cases k4 : x = 4
      · subst k4
        (repeat (first | with_reducible refine Ev.bindS ?_ | (with_reducible refine Ev.ifp ?_ ?_; (· first | omega | assumption | rfl | (simp only [List.length_map, List.length_replicate, List.length_take, List.length_drop, List.length_append, List.length_cons, List.length_nil, List.length_set]; omega) | (simp; done))) | (with_reducible refine Ev.ifn ?_ ?_; (· first | omega | assumption | rfl | (simp only [List.length_map, List.length_replicate, List.length_take, List.length_drop, List.length_append, List.length_cons, List.length_nil, List.length_set]; omega) | (simp; done)))))
        (refine Ev.up ?_; simp only [spec_l4Read.j0, decT])
        (repeat (first | with_reducible refine Ev.bindS ?_ | (with_reducible refine Ev.ifp ?_ ?_; (· first | omega | assumption | rfl | (simp only [List.length_map, List.length_replicate, List.length_take, List.length_drop, List.length_append, List.length_cons, List.length_nil, List.length_set]; omega) | (simp; done))) | (with_reducible refine Ev.ifn ?_ ?_; (· first | omega | assumption | rfl | (simp only [List.length_map, List.length_replicate, List.length_take, List.length_drop, List.length_append, List.length_cons, List.length_nil, List.length_set]; omega) | (simp; done)))))
        (refine Ev.up ?_; simp only [spec_l4Read.j1, decT])
        (repeat (first | with_reducible refine Ev.bindS ?_ | (with_reducible refine Ev.ifp ?_ ?_; (· first | omega | assumption | rfl | (simp only [List.length_map, List.length_replicate, List.length_take, List.length_drop, List.length_append, List.length_cons, List.length_nil, List.length_set]; omega) | (simp; done))) | (with_reducible refine Ev.ifn ?_ ?_; (· first | omega | assumption | rfl | (simp only [List.length_map, List.length_replicate, List.length_take, List.length_drop, List.length_append, List.length_cons, List.length_nil, List.length_set]; omega) | (simp; done)))))
        refine loose_ev s i 4 0 e0 u (by omega) _ t 0 [] (by rw [htail]; rfl) (by omega) (by simp) ?_
        rw [List.nil_append]
        have hst := strict_loose t
        have lrng : ∀ T : List Int, (∀ y ∈ T, 0 ≤ y ∧ y < 256) → ∀ y ∈ loose T, 0 ≤ y ∧ y < 256 := by
          intro T
          induction T using loose.induct with
          | case1 => simp [loose]
          | case2 x => simp [loose]
          | case3 t => simp [loose]
          | case4 y t hy ih =>
            intro hT z hz
            have hz : z ∈ 0 :: loose t := by simpa [loose, hy] using hz
            rcases List.mem_cons.1 hz with rfl | hz
            · omega
            · exact ih (fun w hw => hT w (by simp [hw])) z hz
          | case5 x y t hx ih =>
            intro hT z hz
            have hz : z ∈ x :: loose (y :: t) := by simpa [loose, hx] using hz
            rcases List.mem_cons.1 hz with rfl | hz
            · exact hT z (by simp)
            · exact ih (fun w hw => hT w (by simp at hw; rcases hw with rfl | hw <;> simp [*])) z hz
        have hn := nm_nums _ (lrng t hrng)
        have hv : vb 4 0 (strOfNums (loose t)) = 4 :: (esc (loose t) ++ [0, 0]) := by simp [vb, hn]
        have e : specRes i (parse (4 :: t)) = specEnd s i 4 0 (strOfNums (loose t)) := by
          cases hq : strict t with
          | none =>
            rw [specEnd_no (.inr (by
              rw [ht, hv, List.length_cons, List.take_succ_cons]
              intro h
              exact hst.2 hq _ (List.cons.inj h).2))]
            simp [parse, hq, specRes]
          | some p =>
            obtain ⟨a, b, c⟩ := hst.1 p hq
            cases hg : goodV 4 0 (strOfNums (loose t)) with
            | false => rw [specEnd_no (.inl hg)]; rw [a] at hg; simp [parse, hq, hg, specRes]
            | true =>
              have el : (esc (loose t) ++ [0, 0]).length = p.2 := by rw [a, b]; simp
              rw [specEnd_yes hg]
              · rw [hv, List.length_cons, el]
                rw [a] at hg ⊢
                simp [parse, hq, hg, specRes]
              · rw [ht, hv, List.length_cons, List.take_succ_cons, el, c, a]
        rw [e]
        exact j4_ev s hs i (by omega) 4 0 _
      · (repeat (first | with_reducible refine Ev.bindS ?_ | (with_reducible refine Ev.ifp ?_ ?_; (· first | omega | assumption | rfl | (simp only [List.length_map, List.length_replicate, List.length_take, List.length_drop, List.length_append, List.length_cons, List.length_nil, List.length_set]; omega) | (simp; done))) | (with_reducible refine Ev.ifn ?_ ?_; (· first | omega | assumption | rfl | (simp only [List.length_map, List.length_replicate, List.length_take, List.length_drop, List.length_append, List.length_cons, List.length_nil, List.length_set]; omega) | (simp; done)))))
        (refine Ev.up ?_; simp only [spec_l4Read.j0, decT])
        (repeat (first | with_reducible refine Ev.bindS ?_ | (with_reducible refine Ev.ifp ?_ ?_; (· first | omega | assumption | rfl | (simp only [List.length_map, List.length_replicate, List.length_take, List.length_drop, List.length_append, List.length_cons, List.length_nil, List.length_set]; omega) | (simp; done))) | (with_reducible refine Ev.ifn ?_ ?_; (· first | omega | assumption | rfl | (simp only [List.length_map, List.length_replicate, List.length_take, List.length_drop, List.length_append, List.length_cons, List.length_nil, List.length_set]; omega) | (simp; done)))))
        (refine Ev.up ?_; simp only [spec_l4Read.j1, decT])
        (repeat (first | with_reducible refine Ev.bindS ?_ | (with_reducible refine Ev.ifp ?_ ?_; (· first | omega | assumption | rfl | (simp only [List.length_map, List.length_replicate, List.length_take, List.length_drop, List.length_append, List.length_cons, List.length_nil, List.length_set]; omega) | (simp; done))) | (with_reducible refine Ev.ifn ?_ ?_; (· first | omega | assumption | rfl | (simp only [List.length_map, List.length_replicate, List.length_take, List.length_drop, List.length_append, List.length_cons, List.length_nil, List.length_set]; omega) | (simp; done)))))
        have e : specRes i (parse (x :: t)) = specEnd s i x 0 e0 := by
          cases hg : goodV x 0 e0 with
          | false => rw [specEnd_no (.inl hg)]; simp [parse, hg, specRes, k2, k3, k4]
          | true =>
            have hv : vb x 0 e0 = [x] := by simp [vb, k2, k3, k4]
            rw [specEnd_yes hg (by rw [ht, hv]; rfl), hv]
            simp [parse, hg, specRes, k2, k3, k4]
        rw [e]
        exact j4_ev s hs i (by omega) x 0 e0
end Go.Proofs.Ytpfgjjbkcifpfaa.Pure
namespace Go.Proofs.Ytpfgjjbkcifpfaa.Pure
open Go.RowKit Go.Proofs.Ytpfgjjbkcifpfaa.Fn Go.Proofs.YtpfgjjbkcifpfaaW.PrintWords Go.Proofs.YtpfgjjbkcifpfaaW.PrintLast Go.Proofs.YtpfgjjbkcifpfaaW.PrintMore
set_option linter.unusedSimpArgs false
set_option linter.unusedVariables false

def endRes (n : Int) (a b : Int) (c : ByteArray) : Int × Int × ByteArray × Int × Bool := if goodV a b c = true then (a, b, c, n, true) else (0, 0, e0, 0, false)
theorem j0_ev (n a b : Int) (c : ByteArray) : Ev (fun k => impl_readValue.j0 k n a b c) (endRes n a b c) := by
  (refine Ev.up ?_; simp only [impl_readValue.j0, decT])
  rw [implGood_eq]
  (repeat (first | with_reducible refine Ev.bindS ?_ | (with_reducible refine Ev.ifp ?_ ?_; (· first | omega | assumption | rfl | (simp only [List.length_map, List.length_replicate, List.length_take, List.length_drop, List.length_append, List.length_cons, List.length_nil, List.length_set]; omega) | (simp; done))) | (with_reducible refine Ev.ifn ?_ ?_; (· first | omega | assumption | rfl | (simp only [List.length_map, List.length_replicate, List.length_take, List.length_drop, List.length_append, List.length_cons, List.length_nil, List.length_set]; omega) | (simp; done)))))
  cases hg : goodV a b c with
  | false => (repeat (first | with_reducible refine Ev.bindS ?_ | (with_reducible refine Ev.ifp ?_ ?_; (· first | omega | assumption | rfl | (simp only [List.length_map, List.length_replicate, List.length_take, List.length_drop, List.length_append, List.length_cons, List.length_nil, List.length_set]; omega) | (simp; done))) | (with_reducible refine Ev.ifn ?_ ?_; (· first | omega | assumption | rfl | (simp only [List.length_map, List.length_replicate, List.length_take, List.length_drop, List.length_append, List.length_cons, List.length_nil, List.length_set]; omega) | (simp; done))))); exact Ev.val (by simp [endRes, hg])
  | true => (repeat (first | with_reducible refine Ev.bindS ?_ | (with_reducible refine Ev.ifp ?_ ?_; (· first | omega | assumption | rfl | (simp only [List.length_map, List.length_replicate, List.length_take, List.length_drop, List.length_append, List.length_cons, List.length_nil, List.length_set]; omega) | (simp; done))) | (with_reducible refine Ev.ifn ?_ ?_; (· first | omega | assumption | rfl | (simp only [List.length_map, List.length_replicate, List.length_take, List.length_drop, List.length_append, List.length_cons, List.length_nil, List.length_set]; omega) | (simp; done))))); exact Ev.val (by simp [endRes, hg])
theorem strict_len (T : List Int) : ∀ p, strict T = some p → p.2 ≤ T.length := by
  intro p h
  obtain ⟨_, b, c⟩ := (strict_loose T).1 p h
  have := congrArg List.length c
  rw [List.length_take] at this
  simp only [List.length_append, List.length_cons, List.length_nil] at this
  omega
/-- What is taken is there, and is something. -/
theorem parse_len {T : List Int} {p : Int × Int × ByteArray × Nat} (h : parse T = some p) : 1 ≤ p.2.2.2 ∧ p.2.2.2 ≤ T.length := by
  cases T with
  | nil => simp [parse] at h
  | cons x t =>
    simp only [parse] at h
    split at h
    · cases t with
      | nil => simp at h
      | cons b v =>
        simp only at h
        split at h
        · injection h with h; subst h; simp
        · cases h
    · split at h
      · split at h
        · cases h
        · split at h
          · injection h with h; subst h; simp only [List.length_cons]; omega
          · cases h
      · split at h
        · cases hs : strict t with
          | none => rw [hs] at h; cases h
          | some q =>
            rw [hs] at h
            simp only at h
            split at h
            · injection h with h; subst h
              have := strict_len t q hs
              simp only [List.length_cons]; omega
            · cases h
        · split at h
          · injection h with h; subst h; simp
          · cases h
theorem readValue_ev (s : ByteArray) (hs : s.size ≤ 1048576) : Ev (fun k => impl_readValue.f k s) (implRes (parse (nm s))) := by
  simp only [impl_readValue.f, toList_nil]
  cases hT : nm s with
  | nil => (repeat (first | with_reducible refine Ev.bindS ?_ | (with_reducible refine Ev.ifp ?_ ?_; (· first | omega | assumption | rfl | (simp only [List.length_map, List.length_replicate, List.length_take, List.length_drop, List.length_append, List.length_cons, List.length_nil, List.length_set]; omega) | (simp; done))) | (with_reducible refine Ev.ifn ?_ ?_; (· first | omega | assumption | rfl | (simp only [List.length_map, List.length_replicate, List.length_take, List.length_drop, List.length_append, List.length_cons, List.length_nil, List.length_set]; omega) | (simp; done))))); exact Ev.val rfl
  | cons x t =>
    have hsz : s.size = t.length + 1 := by rw [← nm_length, hT]; rfl
    have hrng : ∀ y ∈ x :: t, 0 ≤ y ∧ y < 256 := fun y hy => nm_range (s := s) (by rw [hT]; exact hy)
    have hx := hrng x (by simp)
    have gx : bt s 0 = x := by rw [bt_nm, hT]; rfl
    have htail : nm (s.extract 1 s.size) = t := by rw [nm_tail, hT]; rfl
    have htl : (s.extract 1 s.size).size = t.length := by rw [← nm_length, htail]
    rw [gx, wrap_ok (n := x) (by omega) (by omega)]
    generalize s.extract 1 s.size = u at htail htl
    simp only [htail]
    (repeat (first | with_reducible refine Ev.bindS ?_ | (with_reducible refine Ev.ifp ?_ ?_; (· first | omega | assumption | rfl | (simp only [List.length_map, List.length_replicate, List.length_take, List.length_drop, List.length_append, List.length_cons, List.length_nil, List.length_set]; omega) | (simp; done))) | (with_reducible refine Ev.ifn ?_ ?_; (· first | omega | assumption | rfl | (simp only [List.length_map, List.length_replicate, List.length_take, List.length_drop, List.length_append, List.length_cons, List.length_nil, List.length_set]; omega) | (simp; done)))))
    by_cases k2 : x = 2
    · subst k2
      (repeat (first | with_reducible refine Ev.bindS ?_ | (with_reducible refine Ev.ifp ?_ ?_; (· first | omega | assumption | rfl | (simp only [List.length_map, List.length_replicate, List.length_take, List.length_drop, List.length_append, List.length_cons, List.length_nil, List.length_set]; omega) | (simp; done))) | (with_reducible refine Ev.ifn ?_ ?_; (· first | omega | assumption | rfl | (simp only [List.length_map, List.length_replicate, List.length_take, List.length_drop, List.length_append, List.length_cons, List.length_nil, List.length_set]; omega) | (simp; done)))))
      cases t with
      | nil => (repeat (first | with_reducible refine Ev.bindS ?_ | (with_reducible refine Ev.ifp ?_ ?_; (· first | omega | assumption | rfl | (simp only [List.length_map, List.length_replicate, List.length_take, List.length_drop, List.length_append, List.length_cons, List.length_nil, List.length_set]; omega) | (simp; done))) | (with_reducible refine Ev.ifn ?_ ?_; (· first | omega | assumption | rfl | (simp only [List.length_map, List.length_replicate, List.length_take, List.length_drop, List.length_append, List.length_cons, List.length_nil, List.length_set]; omega) | (simp; done))))); exact Ev.val rfl
      | cons b v =>
        have hb := hrng b (by simp)
        have gb : bt u 0 = b := by rw [bt_nm, htail]; rfl
        simp only [List.length_cons] at htl
        (repeat (first | with_reducible refine Ev.bindS ?_ | (with_reducible refine Ev.ifp ?_ ?_; (· first | omega | assumption | rfl | (simp only [List.length_map, List.length_replicate, List.length_take, List.length_drop, List.length_append, List.length_cons, List.length_nil, List.length_set]; omega) | (simp; done))) | (with_reducible refine Ev.ifn ?_ ?_; (· first | omega | assumption | rfl | (simp only [List.length_map, List.length_replicate, List.length_take, List.length_drop, List.length_append, List.length_cons, List.length_nil, List.length_set]; omega) | (simp; done)))))
        rw [gb, wrap_ok (n := b) (by omega) (by omega)]
        have e : implRes (parse (2 :: b :: v)) = endRes 2 2 b e0 := by
          cases hg : goodV 2 b e0 <;> simp [parse, hg, implRes, endRes]
        rw [e]
        exact j0_ev 2 2 b e0
    · by_cases k3 : x = 3
      · subst k3
        (repeat (first | with_reducible refine Ev.bindS ?_ | (with_reducible refine Ev.ifp ?_ ?_; (· first | omega | assumption | rfl | (simp only [List.length_map, List.length_replicate, List.length_take, List.length_drop, List.length_append, List.length_cons, List.length_nil, List.length_set]; omega) | (simp; done))) | (with_reducible refine Ev.ifn ?_ ?_; (· first | omega | assumption | rfl | (simp only [List.length_map, List.length_replicate, List.length_take, List.length_drop, List.length_append, List.length_cons, List.length_nil, List.length_set]; omega) | (simp; done)))))
        rw [parse3]
        by_cases h4 : t.length < 4
        · (repeat (first | with_reducible refine Ev.bindS ?_ | (with_reducible refine Ev.ifp ?_ ?_; (· first | omega | assumption | rfl | (simp only [List.length_map, List.length_replicate, List.length_take, List.length_drop, List.length_append, List.length_cons, List.length_nil, List.length_set]; omega) | (simp; done))) | (with_reducible refine Ev.ifn ?_ ?_; (· first | omega | assumption | rfl | (simp only [List.length_map, List.length_replicate, List.length_take, List.length_drop, List.length_append, List.length_cons, List.length_nil, List.length_set]; omega) | (simp; done)))))
          rw [if_pos h4]
          exact Ev.val rfl
        · obtain ⟨b0, b1, b2, b3, v, rfl⟩ := four h4
          have r0 := hrng b0 (by simp)
          have r1 := hrng b1 (by simp)
          have r2 := hrng b2 (by simp)
          have r3 := hrng b3 (by simp)
          have g0 : bt u 0 = b0 := by rw [bt_nm, htail]; rfl
          have g1 : bt u 1 = b1 := by rw [bt_nm, htail]; rfl
          have g2 : bt u 2 = b2 := by rw [bt_nm, htail]; rfl
          have g3 : bt u 3 = b3 := by rw [bt_nm, htail]; rfl
          rw [if_neg h4]
          simp only [List.length_cons] at htl
          (repeat (first | with_reducible refine Ev.bindS ?_ | (with_reducible refine Ev.ifp ?_ ?_; (· first | omega | assumption | rfl | (simp only [List.length_map, List.length_replicate, List.length_take, List.length_drop, List.length_append, List.length_cons, List.length_nil, List.length_set]; omega) | (simp; done))) | (with_reducible refine Ev.ifn ?_ ?_; (· first | omega | assumption | rfl | (simp only [List.length_map, List.length_replicate, List.length_take, List.length_drop, List.length_append, List.length_cons, List.length_nil, List.length_set]; omega) | (simp; done)))))
          have eW : word (b0 :: b1 :: b2 :: b3 :: v) = b0 * 16777216 + b1 * 65536 + b2 * 256 + b3 := rfl
          have ew : Go.bits .or .i64 (Go.bits .or .i64 (Go.bits .or .i64 (wrap64 ((wrap64 (bt u 0)) * 16777216)) (wrap64 ((wrap64 (bt u 1)) * 65536))) (wrap64 ((wrap64 (bt u 2)) * 256))) (wrap64 (bt u 3)) = word (b0 :: b1 :: b2 :: b3 :: v) := by
            rw [g0, g1, g2, g3, wrap_ok (n := b0) (by omega) (by omega), wrap_ok (n := b1) (by omega) (by omega), wrap_ok (n := b2) (by omega) (by omega), wrap_ok (n := b3) (by omega) (by omega),
              wrap_ok (n := b0 * 16777216) (by omega) (by omega), wrap_ok (n := b1 * 65536) (by omega) (by omega), wrap_ok (n := b2 * 256) (by omega) (by omega),
              or64 24 (b0 * 16777216) (b1 * 65536) (by omega) (by omega) (by omega) (by omega) (by omega) (by omega), or64 16 (b0 * 16777216 + b1 * 65536) (b2 * 256) (by omega) (by omega) (by omega) (by omega) (by omega) (by omega),
              or64 8 (b0 * 16777216 + b1 * 65536 + b2 * 256) b3 (by omega) (by omega) (by omega) (by omega) (by omega) (by omega), eW]
          rw [ew, wrap_ok (n := word (b0 :: b1 :: b2 :: b3 :: v) - 1000000000) (by rw [eW]; omega) (by rw [eW]; omega)]
          have e : implRes (if goodV 3 (word (b0 :: b1 :: b2 :: b3 :: v) - 1000000000) e0 = true then some (3, word (b0 :: b1 :: b2 :: b3 :: v) - 1000000000, e0, 5) else none) = endRes 5 3 (word (b0 :: b1 :: b2 :: b3 :: v) - 1000000000) e0 := by
            unfold endRes
            split <;> rfl
          rw [e]
          exact j0_ev 5 3 _ e0
      · by_cases k4 : x = 4
        · subst k4
          (repeat (first | with_reducible refine Ev.bindS ?_ | (with_reducible refine Ev.ifp ?_ ?_; (· first | omega | assumption | rfl | (simp only [List.length_map, List.length_replicate, List.length_take, List.length_drop, List.length_append, List.length_cons, List.length_nil, List.length_set]; omega) | (simp; done))) | (with_reducible refine Ev.ifn ?_ ?_; (· first | omega | assumption | rfl | (simp only [List.length_map, List.length_replicate, List.length_take, List.length_drop, List.length_append, List.length_cons, List.length_nil, List.length_set]; omega) | (simp; done)))))
          have ht := readText_ev u (by omega) t 0 [] (by rw [htail]; rfl) (by omega) (by simp)
          refine Ev.bind (g := fun k => impl_readText.f k u) ht ?_
          cases hq : strict t with
          | none =>
            simp only [textEnd]
            (repeat (first | with_reducible refine Ev.bindS ?_ | (with_reducible refine Ev.ifp ?_ ?_; (· first | omega | assumption | rfl | (simp only [List.length_map, List.length_replicate, List.length_take, List.length_drop, List.length_append, List.length_cons, List.length_nil, List.length_set]; omega) | (simp; done))) | (with_reducible refine Ev.ifn ?_ ?_; (· first | omega | assumption | rfl | (simp only [List.length_map, List.length_replicate, List.length_take, List.length_drop, List.length_append, List.length_cons, List.length_nil, List.length_set]; omega) | (simp; done)))))
            exact Ev.val (by simp [parse, hq, implRes])
          | some p =>
            have hl := strict_len t p hq
            simp only [textEnd, List.nil_append, Nat.zero_add]
            (repeat (first | with_reducible refine Ev.bindS ?_ | (with_reducible refine Ev.ifp ?_ ?_; (· first | omega | assumption | rfl | (simp only [List.length_map, List.length_replicate, List.length_take, List.length_drop, List.length_append, List.length_cons, List.length_nil, List.length_set]; omega) | (simp; done))) | (with_reducible refine Ev.ifn ?_ ?_; (· first | omega | assumption | rfl | (simp only [List.length_map, List.length_replicate, List.length_take, List.length_drop, List.length_append, List.length_cons, List.length_nil, List.length_set]; omega) | (simp; done)))))
            have ew : wrap64 (1 + (p.2 : Int)) = ((p.2 + 1 : Nat) : Int) := by rw [wrap_ok (by omega) (by omega)]; omega
            rw [ew]
            have e : implRes (parse (4 :: t)) = endRes ((p.2 + 1 : Nat) : Int) 4 0 (strOfNums p.1) := by
              cases hg : goodV 4 0 (strOfNums p.1) <;> simp [parse, hq, hg, implRes, endRes]
            rw [e]
            exact j0_ev _ 4 0 _
        · (repeat (first | with_reducible refine Ev.bindS ?_ | (with_reducible refine Ev.ifp ?_ ?_; (· first | omega | assumption | rfl | (simp only [List.length_map, List.length_replicate, List.length_take, List.length_drop, List.length_append, List.length_cons, List.length_nil, List.length_set]; omega) | (simp; done))) | (with_reducible refine Ev.ifn ?_ ?_; (· first | omega | assumption | rfl | (simp only [List.length_map, List.length_replicate, List.length_take, List.length_drop, List.length_append, List.length_cons, List.length_nil, List.length_set]; omega) | (simp; done)))))
          have e : implRes (parse (x :: t)) = endRes 1 x 0 e0 := by
            cases hg : goodV x 0 e0 <;> simp [parse, hg, implRes, endRes, k2, k3, k4]
          rw [e]
          exact j0_ev 1 x 0 e0
end Go.Proofs.Ytpfgjjbkcifpfaa.Pure
namespace Go.Proofs.Ytpfgjjbkcifpfaa.Fn
open Go.RowKit Go.Proofs.YtpfgjjbkcifpfaaW.PrintWords Go.Proofs.YtpfgjjbkcifpfaaW.PrintLast Go.Proofs.YtpfgjjbkcifpfaaW.PrintMore
attribute [local go_sem] max2_int min2_int max_two min_two max_three min_three max_four min_four   -- for this text's walks alone
set_option linter.unusedVariables false
set_option linter.unusedSimpArgs false

/-! ### spec_ReadValue: function 5 -/
def spec_ReadValue.j0 : Nat → ByteArray → Int → Bool → Option (Int × Int × ByteArray × Int × Bool)
  | 0, _, _, _ => none
  | k + 1, x0, x1, x21 => if x21 = true then (some (0, 0, (⟨#[]⟩ : ByteArray), 0, false)) else ((spec_l4Read.f k x0 x1).bind fun bt203 => (if bt203.2.2.2 < 0 then (some (0, 0, (⟨#[]⟩ : ByteArray), 0, false)) else (some (bt203.1, bt203.2.1, bt203.2.2.1, bt203.2.2.2, true))))
def spec_ReadValue.f (k : Nat) (a0 : ByteArray) (a1 : Int) : Option (Int × Int × ByteArray × Int × Bool) := if (a0.size : Int) > 600 then (spec_ReadValue.j0 k a0 a1 true) else (if a1 < 0 then (spec_ReadValue.j0 k a0 a1 true) else (spec_ReadValue.j0 k a0 a1 (decide (a1 ≥ (a0.size : Int)))))
theorem spec_ReadValue.mono_l : ∀ k, (∀ y0 y1 y2, LeO (spec_ReadValue.j0 k y0 y1 y2) (spec_ReadValue.j0 (k + 1) y0 y1 y2))
  | 0 => fun _ _ _ r h => by simp [spec_ReadValue.j0] at h
  | k + 1 => by
    have ih0 := spec_ReadValue.mono_l k
    · intro y0 y1 y2
      unfold spec_ReadValue.j0
      repeat' first
      | (with_reducible exact ih0 _ _ _)
      | (with_reducible exact spec_l4Read.mono _ _ _)
      | (with_reducible exact LeO.refl _)
      | (with_reducible exact LeO.none _)
      | (with_reducible refine LeO.ite ?_ ?_)
      | (with_reducible refine LeO.bind ?_ (fun _ => ?_))
      | exact ih0 _ _ _
      | exact spec_l4Read.mono _ _ _
      | exact LeO.none _
      | refine LeO.ite ?_ ?_
      | refine LeO.bind ?_ (fun _ => ?_)
theorem spec_ReadValue.mono : ∀ a0 a1 k, LeO (spec_ReadValue.f k a0 a1) (spec_ReadValue.f (k + 1) a0 a1) := by
  intro a0 a1 k
  have ih0 := spec_ReadValue.mono_l k
  unfold spec_ReadValue.f
  repeat' first
      | (with_reducible exact ih0 _ _ _)
      | (with_reducible exact spec_l4Read.mono _ _ _)
      | (with_reducible exact LeO.refl _)
      | (with_reducible exact LeO.none _)
      | (with_reducible refine LeO.ite ?_ ?_)
      | (with_reducible refine LeO.bind ?_ (fun _ => ?_))
      | exact ih0 _ _ _
      | exact spec_l4Read.mono _ _ _
      | exact LeO.none _
      | refine LeO.ite ?_ ?_
      | refine LeO.bind ?_ (fun _ => ?_)
set_option maxHeartbeats 8000000 in
set_option maxRecDepth 100000 in
theorem spec_ReadValue.calls (k : Nat) (a0 : ByteArray) (a1 : Int) (r1 : Int) (r2 : Int) (r3 : ByteArray) (r4 : Int) (r5 : Bool) (w : World) (h : spec_ReadValue.f k a0 a1 = some (r1, r2, r3, r4, r5)) :
    Calls Try.prog 5 #[.string a0, .int .i64 a1] w fun e w' => e = .returned (.tuple #[.agg #[.int .i64 r1, .int .i64 r2, .string r3], .int .i64 r4, .bool r5]) ∧ Below w.heap.size w w' := by
  have hu23 := Try.underlying23
  have HB := Aside0.mk (Below.refl w.heap.size w)
  have H : (if (a0.size : Int) > 600 then (spec_ReadValue.j0 k a0 a1 true) else (if a1 < 0 then (spec_ReadValue.j0 k a0 a1 true) else (spec_ReadValue.j0 k a0 a1 (decide (a1 ≥ (a0.size : Int)))))) = some (r1, r2, r3, r4, r5) := h
  clear h
  have HC3 := Aside0.mk H
  clear H
  go_enter Try.func5, Try.ntmps5
  go_upto_region 1 with (first | ((with_reducible refine gate_dst (N := 4) rfl ?_); (try (refine gate_guard (by rfl) ?_; dsimp only)); refine box_event ?hg (N := 4) ?hd (cs := #[.int .i64 0, .int .i64 0, .string (⟨#[]⟩ : ByteArray)]) (t := 23) ?hr ?_; (case hd => rfl); (case hg => rfl); (case hr => first | (go_simp; done) | (go_simp; rfl)); intro gb202 hg w4 hbox hb; have n0_ := Aside0.mk (below_step (by repeat (first | (with_reducible first | exact HB.out | apply below_alloc | apply pw_below_drewN | apply below_drew1) | exact HB.out)) hb); have n1_ := Aside0.mk (hbox); have n2_ := Aside0.mk ((by rw [hg]; exact (below_size (by repeat (first | (with_reducible first | exact HB.out | apply below_alloc | apply pw_below_drewN | apply below_drew1) | exact HB.out))) : w.heap.size ≤ gb202)); have n3_ := Aside0.mk ((by rw [hg]; exact (below_size (by repeat (first | (with_reducible first | exact HB.out | apply below_alloc | apply pw_below_drewN | apply below_drew1) | exact HB.out))) : w.heap.size ≤ gb202)); clear HB; have HB := n0_; have BK202 := n1_; have GW202 := n2_; have GE202 := n3_; clear n0_ n1_ n2_ n3_; clear hb hbox hg))
  (try simp only [Act.put, List.setIfInBounds_toArray, List.set_cons_zero, List.set_cons_succ])
  go_cut [21] (fun v21 wc => ∃ (kq : Nat) (x21_2 : Bool), v21 = .bool x21_2 ∧ Aside0 (spec_ReadValue.j0 kq a0 a1 x21_2 = some (r1, r2, r3, r4, r5)) ∧ Aside0 (kq ≤ k) ∧ Aside0 (wc.heap[gb202]? = some (.cells #[.int .i64 0, .int .i64 0, .string (⟨#[]⟩ : ByteArray)] 23 (0, 0))) ∧ Aside0 (Below w.heap.size w wc))
  case first =>
    have H := HC3.out
    clear HC3
    by_cases c5 : (a0.size : Int) > 600
    · rw [if_pos c5] at H
      have c5b0 : decide (600 < (a0.size : Int)) = true := decide_eq_true c5
      have c5b1 : decide (600 < a0.size) = true := decide_eq_true (by omega)
      clear c5
      (first | rw [c5b0] | (simp only [i64_w, i32_w]; rw [c5b0]) | rw [c5b1] | skip)
      have H' := Aside0.mk H
      clear H
      go_wp2
      go_meet
      case rel => exact ⟨_, (true), (by first | rfl | (simp; done) | (simp [*]; done)), H', ⟨by first | omega | exact Nat.le_refl _⟩, ⟨by (with_reducible repeat (first | refine blk_drewN ?_ _ | refine blk_drew ?_ | refine blk_alloc ?_ _)); exact BK202.out⟩, ⟨by repeat (first | (with_reducible first | exact HB.out | apply below_alloc | apply pw_below_drewN | apply below_drew1 | refine below_set ?_ GE202.out) | exact HB.out)⟩⟩
    · rw [if_neg c5] at H
      have c5b0 : decide (600 < (a0.size : Int)) = false := decide_eq_false c5
      have c5b1 : decide (600 < a0.size) = false := decide_eq_false (by omega)
      clear c5
      (first | rw [c5b0] | (simp only [i64_w, i32_w]; rw [c5b0]) | rw [c5b1] | skip)
      by_cases c6 : a1 < 0
      · rw [if_pos c6] at H
        have c6b0 : decide (a1 < 0) = true := decide_eq_true c6
        clear c6
        have H' := Aside0.mk H
        clear H
        go_wp2
        go_meet
        case rel => exact ⟨_, (true), (by first | rfl | (simp; done) | (simp [*]; done)), H', ⟨by first | omega | exact Nat.le_refl _⟩, ⟨by (with_reducible repeat (first | refine blk_drewN ?_ _ | refine blk_drew ?_ | refine blk_alloc ?_ _)); exact BK202.out⟩, ⟨by repeat (first | (with_reducible first | exact HB.out | apply below_alloc | apply pw_below_drewN | apply below_drew1 | refine below_set ?_ GE202.out) | exact HB.out)⟩⟩
      · rw [if_neg c6] at H
        have c6b0 : decide (a1 < 0) = false := decide_eq_false c6
        clear c6
        have H' := Aside0.mk H
        clear H
        go_wp2
        go_meet
        case rel => exact ⟨_, (decide (a1 ≥ (a0.size : Int))), (by first | rfl | (simp; done) | (simp [*]; done)), H', ⟨by first | omega | exact Nat.le_refl _⟩, ⟨by (with_reducible repeat (first | refine blk_drewN ?_ _ | refine blk_drew ?_ | refine blk_alloc ?_ _)); exact BK202.out⟩, ⟨by repeat (first | (with_reducible first | exact HB.out | apply below_alloc | apply pw_below_drewN | apply below_drew1 | refine below_set ?_ GE202.out) | exact HB.out)⟩⟩
  case rest =>
    clear HC3
    try clear p2
    try clear c5
    try clear c5b0
    try clear c5b1
    try clear c6
    try clear c6b0
    obtain ⟨kq, x21_2, rfl, HA, HJ2, BK202, HB⟩ := hcut
    cases kq with
    | zero => exact absurd HA.out (by simp [spec_ReadValue.j0])
    | succ kj2 =>
      have H := HA.out
      clear HA
      simp only [spec_ReadValue.j0] at H
      by_cases c7 : x21_2 = true
      · subst c7
        have H1 : (some (0, 0, (⟨#[]⟩ : ByteArray), 0, false)) = some (r1, r2, r3, r4, r5) := by rw [if_pos rfl] at H; exact H
        clear H
        have H := H1
        clear H1
        simp only [Option.some.injEq, Prod.mk.injEq] at H
        obtain ⟨rfl, rfl, rfl, rfl, rfl⟩ := H
        have hcz8_0 : wc.cell? ⟨gb202, 0, none⟩ = some (.int .i64 0) := (blk_cell BK202.out 0).trans rfl
        have hcz8_1 : wc.cell? ⟨gb202, 1, none⟩ = some (.int .i64 0) := (blk_cell BK202.out 1).trans rfl
        have hcz8_2 : wc.cell? ⟨gb202, 2, none⟩ = some (.string (⟨#[]⟩ : ByteArray)) := (blk_cell BK202.out 2).trans rfl
        have hfz8_0 := blk_frozen BK202.out 0
        have hfz8_1 := blk_frozen BK202.out 1
        have hfz8_2 := blk_frozen BK202.out 2
        go_wp2
        refine bodyPost_ret (results_ctt rfl _ _ gb202 23 #[.int .i64 0, .int .i64 0, .string (⟨#[]⟩ : ByteArray)] (0, 0) _ rfl (by (with_reducible repeat (first | refine blk_drewN ?_ _ | refine blk_drew ?_ | refine blk_alloc ?_ _)); refine blk_put (cs := #[.int .i64 0, .int .i64 0, .string (⟨#[]⟩ : ByteArray)]) ?_ 2 _ rfl; (with_reducible repeat (first | refine blk_drewN ?_ _ | refine blk_drew ?_ | refine blk_alloc ?_ _)); refine blk_put (cs := #[.int .i64 0, .int .i64 0, .string (⟨#[]⟩ : ByteArray)]) ?_ 1 _ rfl; (with_reducible repeat (first | refine blk_drewN ?_ _ | refine blk_drew ?_ | refine blk_alloc ?_ _)); refine blk_put (cs := #[.int .i64 0, .int .i64 0, .string (⟨#[]⟩ : ByteArray)]) ?_ 0 _ rfl; (with_reducible repeat (first | refine blk_drewN ?_ _ | refine blk_drew ?_ | refine blk_alloc ?_ _)); exact BK202.out) Try.underlying23 rfl (by kernel_rfl)) rfl ?_
        exact ⟨by first | rfl | (simp [errW_none, errW_some] <;> rfl) | (simp [*, errW_none, errW_some] <;> rfl), by repeat (first | (with_reducible first | exact HB.out | apply below_alloc | apply pw_below_drewN | apply below_drew1 | refine below_set ?_ GE202.out) | exact HB.out)⟩
      · replace c7 := Bool.eq_false_iff.mpr c7
        subst c7
        have H1 : ((spec_l4Read.f kj2 a0 a1).bind fun bt203 => (if bt203.2.2.2 < 0 then (some (0, 0, (⟨#[]⟩ : ByteArray), 0, false)) else (some (bt203.1, bt203.2.1, bt203.2.2.1, bt203.2.2.2, true)))) = some (r1, r2, r3, r4, r5) := by rw [if_neg (show ¬ (false = true) by decide)] at H; exact H
        clear H
        have H := H1
        clear H1
        replace H := Option.bind_eq_some_iff.mp H
        obtain ⟨⟨t203, t204, t205, t206⟩, A90, H⟩ := H
        replace H : (if t206 < 0 then (some (0, 0, (⟨#[]⟩ : ByteArray), 0, false)) else (some (t203, t204, t205, t206, true))) = some (r1, r2, r3, r4, r5) := H
        have A9 := Aside0.mk A90
        clear A90
        by_cases c10 : t206 < 0
        · rw [if_pos c10] at H
          have c10b0 : decide (t206 < 0) = true := decide_eq_true c10
          clear c10
          simp only [Option.some.injEq, Prod.mk.injEq] at H
          obtain ⟨rfl, rfl, rfl, rfl, rfl⟩ := H
          go_wp2_with (first | ((with_reducible refine gate_callee (f := 13) rfl ?_); refine goesL_ (some 26) rfl rfl Try.func13 (by kernel_rfl) rfl #[.string a0, .int .i64 a1] rfl (by (try simp only [List.map_toArray, List.map_cons, List.map_nil]); first | done | rfl | (simp only [List.length_drop, List.length_take]; rfl)) ?_; (with_reducible refine (spec_l4Read.calls kj2 a0 a1 t203 t204 t205 t206 _ A9.out).mono ?_); rintro e w11 ⟨rfl, hb⟩; refine ⟨_, rfl, ?_⟩; have n0_ := Aside0.mk (blk_below (g := gb202) (o := .cells #[.int .i64 0, .int .i64 0, .string (⟨#[]⟩ : ByteArray)] 23 (0, 0)) (by (with_reducible repeat (first | refine blk_drewN ?_ _ | refine blk_drew ?_ | refine blk_alloc ?_ _)); exact BK202.out) hb); have n1_ := Aside0.mk (below_step (by repeat (first | (with_reducible first | exact HB.out | apply below_alloc | apply pw_below_drewN | apply below_drew1 | refine below_set ?_ GE202.out) | exact HB.out)) hb); clear BK202; clear HB; have BK202 := n0_; have HB := n1_; clear n0_ n1_; (try clear hb); (try clear hb2); (try clear hk); (try clear hi)) | ((with_reducible refine gate_dst (N := 7) rfl ?_); (try (refine gate_guard (by rfl) ?_; dsimp only)); refine box_event ?hg (N := 7) ?hd (cs := #[.int .i64 0, .int .i64 0, .string (⟨#[]⟩ : ByteArray)]) (t := 23) ?hr ?_; (case hd => rfl); (case hg => rfl); (case hr => first | (go_simp; done) | (go_simp; rfl)); intro gb207 hg w12 hbox hb; have n0_ := Aside0.mk (blk_below (g := gb202) (o := .cells #[.int .i64 0, .int .i64 0, .string (⟨#[]⟩ : ByteArray)] 23 (0, 0)) (by (with_reducible repeat (first | refine blk_drewN ?_ _ | refine blk_drew ?_ | refine blk_alloc ?_ _)); exact BK202.out) hb); have n1_ := Aside0.mk (below_step (by repeat (first | (with_reducible first | exact HB.out | apply below_alloc | apply pw_below_drewN | apply below_drew1 | refine below_set ?_ GE202.out) | exact HB.out)) hb); have n2_ := Aside0.mk (hbox); have n3_ := Aside0.mk ((by rw [hg]; exact (below_size (by repeat (first | (with_reducible first | exact HB.out | apply below_alloc | apply pw_below_drewN | apply below_drew1 | refine below_set ?_ GE202.out) | exact HB.out))) : w.heap.size ≤ gb207)); have n4_ := Aside0.mk ((by rw [hg]; exact (below_size (by repeat (first | (with_reducible first | exact HB.out | apply below_alloc | apply pw_below_drewN | apply below_drew1 | refine below_set ?_ GE202.out) | exact HB.out))) : w.heap.size ≤ gb207)); have n5_ := Aside0.mk ((by rw [hg]; exact Nat.ne_of_lt (blk_lt (g := gb202) (o := .cells #[.int .i64 0, .int .i64 0, .string (⟨#[]⟩ : ByteArray)] 23 (0, 0)) (by (with_reducible repeat (first | refine blk_drewN ?_ _ | refine blk_drew ?_ | refine blk_alloc ?_ _)); exact BK202.out)) : gb202 ≠ gb207)); have n6_ := Aside0.mk ((by rw [hg]; exact Nat.ne_of_gt (blk_lt (g := gb202) (o := .cells #[.int .i64 0, .int .i64 0, .string (⟨#[]⟩ : ByteArray)] 23 (0, 0)) (by (with_reducible repeat (first | refine blk_drewN ?_ _ | refine blk_drew ?_ | refine blk_alloc ?_ _)); exact BK202.out)) : gb207 ≠ gb202)); clear BK202; clear HB; have BK202 := n0_; have HB := n1_; have BK207 := n2_; have GW207 := n3_; have GE207 := n4_; have NB202_207 := n5_; have NB207_202 := n6_; clear n0_ n1_ n2_ n3_ n4_ n5_ n6_; clear hb hbox hg; have hnb13 := NB207_202.out; have hnc13 := NB202_207.out; have hcz14_0 : w12.cell? ⟨gb207, 0, none⟩ = some (.int .i64 0) := (blk_cell BK207.out 0).trans rfl; have hcz14_1 : w12.cell? ⟨gb207, 1, none⟩ = some (.int .i64 0) := (blk_cell BK207.out 1).trans rfl; have hcz14_2 : w12.cell? ⟨gb207, 2, none⟩ = some (.string (⟨#[]⟩ : ByteArray)) := (blk_cell BK207.out 2).trans rfl; have hfz14_0 := blk_frozen BK207.out 0; have hfz14_1 := blk_frozen BK207.out 1; have hfz14_2 := blk_frozen BK207.out 2; have hcz15_0 : w12.cell? ⟨gb202, 0, none⟩ = some (.int .i64 0) := (blk_cell BK202.out 0).trans rfl; have hcz15_1 : w12.cell? ⟨gb202, 1, none⟩ = some (.int .i64 0) := (blk_cell BK202.out 1).trans rfl; have hcz15_2 : w12.cell? ⟨gb202, 2, none⟩ = some (.string (⟨#[]⟩ : ByteArray)) := (blk_cell BK202.out 2).trans rfl; have hfz15_0 := blk_frozen BK202.out 0; have hfz15_1 := blk_frozen BK202.out 1; have hfz15_2 := blk_frozen BK202.out 2))
          refine bodyPost_ret (results_ctt rfl _ _ gb202 23 #[.int .i64 0, .int .i64 0, .string (⟨#[]⟩ : ByteArray)] (0, 0) _ rfl (by (with_reducible repeat (first | refine blk_drewN ?_ _ | refine blk_drew ?_ | refine blk_alloc ?_ _)); refine blk_put (cs := #[.int .i64 0, .int .i64 0, .string (⟨#[]⟩ : ByteArray)]) ?_ 2 _ rfl; (with_reducible repeat (first | refine blk_drewN ?_ _ | refine blk_drew ?_ | refine blk_alloc ?_ _)); refine blk_put (cs := #[.int .i64 0, .int .i64 0, .string (⟨#[]⟩ : ByteArray)]) ?_ 1 _ rfl; (with_reducible repeat (first | refine blk_drewN ?_ _ | refine blk_drew ?_ | refine blk_alloc ?_ _)); refine blk_put (cs := #[.int .i64 0, .int .i64 0, .string (⟨#[]⟩ : ByteArray)]) ?_ 0 _ rfl; (with_reducible repeat (first | refine blk_drewN ?_ _ | refine blk_drew ?_ | refine blk_alloc ?_ _)); refine blk_far ?_ NB202_207.out _; (with_reducible repeat (first | refine blk_drewN ?_ _ | refine blk_drew ?_ | refine blk_alloc ?_ _)); refine blk_far ?_ NB202_207.out _; (with_reducible repeat (first | refine blk_drewN ?_ _ | refine blk_drew ?_ | refine blk_alloc ?_ _)); refine blk_far ?_ NB202_207.out _; (with_reducible repeat (first | refine blk_drewN ?_ _ | refine blk_drew ?_ | refine blk_alloc ?_ _)); exact BK202.out) Try.underlying23 rfl (by kernel_rfl)) rfl ?_
          exact ⟨by first | rfl | (simp [errW_none, errW_some] <;> rfl) | (simp [*, errW_none, errW_some] <;> rfl), by repeat (first | (with_reducible first | exact HB.out | apply below_alloc | apply pw_below_drewN | apply below_drew1 | refine below_set ?_ GE202.out | refine below_set ?_ GE207.out) | exact HB.out)⟩
        · rw [if_neg c10] at H
          have c10b0 : decide (t206 < 0) = false := decide_eq_false c10
          clear c10
          simp only [Option.some.injEq, Prod.mk.injEq] at H
          obtain ⟨rfl, rfl, rfl, rfl, rfl⟩ := H
          go_wp2_with (first | ((with_reducible refine gate_callee (f := 13) rfl ?_); refine goesL_ (some 26) rfl rfl Try.func13 (by kernel_rfl) rfl #[.string a0, .int .i64 a1] rfl (by (try simp only [List.map_toArray, List.map_cons, List.map_nil]); first | done | rfl | (simp only [List.length_drop, List.length_take]; rfl)) ?_; (with_reducible refine (spec_l4Read.calls kj2 a0 a1 t203 t204 t205 t206 _ A9.out).mono ?_); rintro e w16 ⟨rfl, hb⟩; refine ⟨_, rfl, ?_⟩; have n0_ := Aside0.mk (blk_below (g := gb202) (o := .cells #[.int .i64 0, .int .i64 0, .string (⟨#[]⟩ : ByteArray)] 23 (0, 0)) (by (with_reducible repeat (first | refine blk_drewN ?_ _ | refine blk_drew ?_ | refine blk_alloc ?_ _)); exact BK202.out) hb); have n1_ := Aside0.mk (below_step (by repeat (first | (with_reducible first | exact HB.out | apply below_alloc | apply pw_below_drewN | apply below_drew1 | refine below_set ?_ GE202.out) | exact HB.out)) hb); clear BK202; clear HB; have BK202 := n0_; have HB := n1_; clear n0_ n1_; (try clear hb); (try clear hb2); (try clear hk); (try clear hi)) | ((with_reducible refine gate_dst (N := 7) rfl ?_); (try (refine gate_guard (by rfl) ?_; dsimp only)); refine box_event ?hg (N := 7) ?hd (cs := #[.int .i64 0, .int .i64 0, .string (⟨#[]⟩ : ByteArray)]) (t := 23) ?hr ?_; (case hd => rfl); (case hg => rfl); (case hr => first | (go_simp; done) | (go_simp; rfl)); intro gb207 hg w17 hbox hb; have n0_ := Aside0.mk (blk_below (g := gb202) (o := .cells #[.int .i64 0, .int .i64 0, .string (⟨#[]⟩ : ByteArray)] 23 (0, 0)) (by (with_reducible repeat (first | refine blk_drewN ?_ _ | refine blk_drew ?_ | refine blk_alloc ?_ _)); exact BK202.out) hb); have n1_ := Aside0.mk (below_step (by repeat (first | (with_reducible first | exact HB.out | apply below_alloc | apply pw_below_drewN | apply below_drew1 | refine below_set ?_ GE202.out) | exact HB.out)) hb); have n2_ := Aside0.mk (hbox); have n3_ := Aside0.mk ((by rw [hg]; exact (below_size (by repeat (first | (with_reducible first | exact HB.out | apply below_alloc | apply pw_below_drewN | apply below_drew1 | refine below_set ?_ GE202.out) | exact HB.out))) : w.heap.size ≤ gb207)); have n4_ := Aside0.mk ((by rw [hg]; exact (below_size (by repeat (first | (with_reducible first | exact HB.out | apply below_alloc | apply pw_below_drewN | apply below_drew1 | refine below_set ?_ GE202.out) | exact HB.out))) : w.heap.size ≤ gb207)); have n5_ := Aside0.mk ((by rw [hg]; exact Nat.ne_of_lt (blk_lt (g := gb202) (o := .cells #[.int .i64 0, .int .i64 0, .string (⟨#[]⟩ : ByteArray)] 23 (0, 0)) (by (with_reducible repeat (first | refine blk_drewN ?_ _ | refine blk_drew ?_ | refine blk_alloc ?_ _)); exact BK202.out)) : gb202 ≠ gb207)); have n6_ := Aside0.mk ((by rw [hg]; exact Nat.ne_of_gt (blk_lt (g := gb202) (o := .cells #[.int .i64 0, .int .i64 0, .string (⟨#[]⟩ : ByteArray)] 23 (0, 0)) (by (with_reducible repeat (first | refine blk_drewN ?_ _ | refine blk_drew ?_ | refine blk_alloc ?_ _)); exact BK202.out)) : gb207 ≠ gb202)); clear BK202; clear HB; have BK202 := n0_; have HB := n1_; have BK207 := n2_; have GW207 := n3_; have GE207 := n4_; have NB202_207 := n5_; have NB207_202 := n6_; clear n0_ n1_ n2_ n3_ n4_ n5_ n6_; clear hb hbox hg; have hnb18 := NB207_202.out; have hnc18 := NB202_207.out; have hcz19_0 : w17.cell? ⟨gb207, 0, none⟩ = some (.int .i64 0) := (blk_cell BK207.out 0).trans rfl; have hcz19_1 : w17.cell? ⟨gb207, 1, none⟩ = some (.int .i64 0) := (blk_cell BK207.out 1).trans rfl; have hcz19_2 : w17.cell? ⟨gb207, 2, none⟩ = some (.string (⟨#[]⟩ : ByteArray)) := (blk_cell BK207.out 2).trans rfl; have hfz19_0 := blk_frozen BK207.out 0; have hfz19_1 := blk_frozen BK207.out 1; have hfz19_2 := blk_frozen BK207.out 2; have hcz20_0 : w17.cell? ⟨gb202, 0, none⟩ = some (.int .i64 0) := (blk_cell BK202.out 0).trans rfl; have hcz20_1 : w17.cell? ⟨gb202, 1, none⟩ = some (.int .i64 0) := (blk_cell BK202.out 1).trans rfl; have hcz20_2 : w17.cell? ⟨gb202, 2, none⟩ = some (.string (⟨#[]⟩ : ByteArray)) := (blk_cell BK202.out 2).trans rfl; have hfz20_0 := blk_frozen BK202.out 0; have hfz20_1 := blk_frozen BK202.out 1; have hfz20_2 := blk_frozen BK202.out 2))
          refine bodyPost_ret (results_ctt rfl _ _ gb202 23 #[.int .i64 t203, .int .i64 t204, .string t205] (0, 0) _ rfl (by (with_reducible repeat (first | refine blk_drewN ?_ _ | refine blk_drew ?_ | refine blk_alloc ?_ _)); refine blk_put (cs := #[.int .i64 t203, .int .i64 t204, .string (⟨#[]⟩ : ByteArray)]) ?_ 2 _ rfl; (with_reducible repeat (first | refine blk_drewN ?_ _ | refine blk_drew ?_ | refine blk_alloc ?_ _)); refine blk_put (cs := #[.int .i64 t203, .int .i64 0, .string (⟨#[]⟩ : ByteArray)]) ?_ 1 _ rfl; (with_reducible repeat (first | refine blk_drewN ?_ _ | refine blk_drew ?_ | refine blk_alloc ?_ _)); refine blk_put (cs := #[.int .i64 0, .int .i64 0, .string (⟨#[]⟩ : ByteArray)]) ?_ 0 _ rfl; (with_reducible repeat (first | refine blk_drewN ?_ _ | refine blk_drew ?_ | refine blk_alloc ?_ _)); refine blk_far ?_ NB202_207.out _; (with_reducible repeat (first | refine blk_drewN ?_ _ | refine blk_drew ?_ | refine blk_alloc ?_ _)); refine blk_far ?_ NB202_207.out _; (with_reducible repeat (first | refine blk_drewN ?_ _ | refine blk_drew ?_ | refine blk_alloc ?_ _)); refine blk_far ?_ NB202_207.out _; (with_reducible repeat (first | refine blk_drewN ?_ _ | refine blk_drew ?_ | refine blk_alloc ?_ _)); exact BK202.out) Try.underlying23 rfl (by kernel_rfl)) rfl ?_
          exact ⟨by first | rfl | (simp [errW_none, errW_some] <;> rfl) | (simp [*, errW_none, errW_some] <;> rfl), by repeat (first | (with_reducible first | exact HB.out | apply below_alloc | apply pw_below_drewN | apply below_drew1 | refine below_set ?_ GE202.out | refine below_set ?_ GE207.out) | exact HB.out)⟩

end Go.Proofs.Ytpfgjjbkcifpfaa.Fn
namespace Go.Proofs.Ytpfgjjbkcifpfaa.Fn
open Go.RowKit Go.Proofs.YtpfgjjbkcifpfaaW.PrintWords Go.Proofs.YtpfgjjbkcifpfaaW.PrintLast Go.Proofs.YtpfgjjbkcifpfaaW.PrintMore
attribute [local go_sem] max2_int min2_int max_two min_two max_three min_three max_four min_four   -- for this text's walks alone
set_option linter.unusedVariables false
set_option linter.unusedSimpArgs false

/-! ### impl_ReadValue: function 6 -/
def impl_ReadValue.j0 : Nat → ByteArray → Int → Bool → Option (Int × Int × ByteArray × Int × Bool)
  | 0, _, _, _ => none
  | k + 1, x0, x1, x19 => if x19 = true then (some (0, 0, (⟨#[]⟩ : ByteArray), 0, false)) else (if 0 ≤ x1 then (if x1 ≤ (x0.size : Int) then ((impl_readValue.f k (x0.extract (x1 : Int).toNat x0.size)).bind fun bt210 => (if bt210.2.2.2.2 = true then (some (bt210.1, bt210.2.1, bt210.2.2.1, wrap64 (x1 + bt210.2.2.2.1), true)) else (some (0, 0, (⟨#[]⟩ : ByteArray), 0, false)))) else (none)) else (none))
def impl_ReadValue.f (k : Nat) (a0 : ByteArray) (a1 : Int) : Option (Int × Int × ByteArray × Int × Bool) := if (a0.size : Int) > 600 then (impl_ReadValue.j0 k a0 a1 true) else ((impl_within.f a1 0 (a0.size : Int)).bind fun t209 => (impl_ReadValue.j0 k a0 a1 (!t209)))
theorem impl_ReadValue.mono_l : ∀ k, (∀ y0 y1 y2, LeO (impl_ReadValue.j0 k y0 y1 y2) (impl_ReadValue.j0 (k + 1) y0 y1 y2))
  | 0 => fun _ _ _ r h => by simp [impl_ReadValue.j0] at h
  | k + 1 => by
    have ih0 := impl_ReadValue.mono_l k
    · intro y0 y1 y2
      unfold impl_ReadValue.j0
      repeat' first
      | (with_reducible exact ih0 _ _ _)
      | (with_reducible exact impl_readValue.mono _ _)
      | (with_reducible exact LeO.refl _)
      | (with_reducible exact LeO.none _)
      | (with_reducible refine LeO.ite ?_ ?_)
      | (with_reducible refine LeO.bind ?_ (fun _ => ?_))
      | exact ih0 _ _ _
      | exact impl_readValue.mono _ _
      | exact LeO.none _
      | refine LeO.ite ?_ ?_
      | refine LeO.bind ?_ (fun _ => ?_)
theorem impl_ReadValue.mono : ∀ a0 a1 k, LeO (impl_ReadValue.f k a0 a1) (impl_ReadValue.f (k + 1) a0 a1) := by
  intro a0 a1 k
  have ih0 := impl_ReadValue.mono_l k
  unfold impl_ReadValue.f
  repeat' first
      | (with_reducible exact ih0 _ _ _)
      | (with_reducible exact impl_readValue.mono _ _)
      | (with_reducible exact LeO.refl _)
      | (with_reducible exact LeO.none _)
      | (with_reducible refine LeO.ite ?_ ?_)
      | (with_reducible refine LeO.bind ?_ (fun _ => ?_))
      | exact ih0 _ _ _
      | exact impl_readValue.mono _ _
      | exact LeO.none _
      | refine LeO.ite ?_ ?_
      | refine LeO.bind ?_ (fun _ => ?_)
set_option maxHeartbeats 8000000 in
set_option maxRecDepth 100000 in
theorem impl_ReadValue.calls (k : Nat) (a0 : ByteArray) (a1 : Int) (r1 : Int) (r2 : Int) (r3 : ByteArray) (r4 : Int) (r5 : Bool) (w : World) (h : impl_ReadValue.f k a0 a1 = some (r1, r2, r3, r4, r5)) :
    Calls Try.prog 6 #[.string a0, .int .i64 a1] w fun e w' => e = .returned (.tuple #[.agg #[.int .i64 r1, .int .i64 r2, .string r3], .int .i64 r4, .bool r5]) ∧ Below w.heap.size w w' := by
  have hu23 := Try.underlying23
  have HB := Aside0.mk (Below.refl w.heap.size w)
  have H : (if (a0.size : Int) > 600 then (impl_ReadValue.j0 k a0 a1 true) else ((impl_within.f a1 0 (a0.size : Int)).bind fun t209 => (impl_ReadValue.j0 k a0 a1 (!t209)))) = some (r1, r2, r3, r4, r5) := h
  clear h
  have HC3 := Aside0.mk H
  clear H
  go_enter Try.func6, Try.ntmps6
  go_upto_region 1 with (first | ((with_reducible refine gate_dst (N := 4) rfl ?_); (try (refine gate_guard (by rfl) ?_; dsimp only)); refine box_event ?hg (N := 4) ?hd (cs := #[.int .i64 0, .int .i64 0, .string (⟨#[]⟩ : ByteArray)]) (t := 23) ?hr ?_; (case hd => rfl); (case hg => rfl); (case hr => first | (go_simp; done) | (go_simp; rfl)); intro gb208 hg w4 hbox hb; have n0_ := Aside0.mk (below_step (by repeat (first | (with_reducible first | exact HB.out | apply below_alloc | apply pw_below_drewN | apply below_drew1) | exact HB.out)) hb); have n1_ := Aside0.mk (hbox); have n2_ := Aside0.mk ((by rw [hg]; exact (below_size (by repeat (first | (with_reducible first | exact HB.out | apply below_alloc | apply pw_below_drewN | apply below_drew1) | exact HB.out))) : w.heap.size ≤ gb208)); have n3_ := Aside0.mk ((by rw [hg]; exact (below_size (by repeat (first | (with_reducible first | exact HB.out | apply below_alloc | apply pw_below_drewN | apply below_drew1) | exact HB.out))) : w.heap.size ≤ gb208)); clear HB; have HB := n0_; have BK208 := n1_; have GW208 := n2_; have GE208 := n3_; clear n0_ n1_ n2_ n3_; clear hb hbox hg))
  (try simp only [Act.put, List.setIfInBounds_toArray, List.set_cons_zero, List.set_cons_succ])
  go_cut [19] (fun v19 wc => ∃ (kq : Nat) (x19_2 : Bool), v19 = .bool x19_2 ∧ Aside0 (impl_ReadValue.j0 kq a0 a1 x19_2 = some (r1, r2, r3, r4, r5)) ∧ Aside0 (kq ≤ k) ∧ Aside0 (wc.heap[gb208]? = some (.cells #[.int .i64 0, .int .i64 0, .string (⟨#[]⟩ : ByteArray)] 23 (0, 0))) ∧ Aside0 (Below w.heap.size w wc))
  case first =>
    have H := HC3.out
    clear HC3
    by_cases c5 : (a0.size : Int) > 600
    · rw [if_pos c5] at H
      have c5b0 : decide (600 < (a0.size : Int)) = true := decide_eq_true c5
      have c5b1 : decide (600 < a0.size) = true := decide_eq_true (by omega)
      clear c5
      (first | rw [c5b0] | (simp only [i64_w, i32_w]; rw [c5b0]) | rw [c5b1] | skip)
      have H' := Aside0.mk H
      clear H
      go_wp2
      go_meet
      case rel => exact ⟨_, (true), (by first | rfl | (simp; done) | (simp [*]; done)), H', ⟨by first | omega | exact Nat.le_refl _⟩, ⟨by (with_reducible repeat (first | refine blk_drewN ?_ _ | refine blk_drew ?_ | refine blk_alloc ?_ _)); exact BK208.out⟩, ⟨by repeat (first | (with_reducible first | exact HB.out | apply below_alloc | apply pw_below_drewN | apply below_drew1 | refine below_set ?_ GE208.out) | exact HB.out)⟩⟩
    · rw [if_neg c5] at H
      have c5b0 : decide (600 < (a0.size : Int)) = false := decide_eq_false c5
      have c5b1 : decide (600 < a0.size) = false := decide_eq_false (by omega)
      clear c5
      (first | rw [c5b0] | (simp only [i64_w, i32_w]; rw [c5b0]) | rw [c5b1] | skip)
      replace H := Option.bind_eq_some_iff.mp H
      obtain ⟨t209, A60, H⟩ := H
      replace H : (impl_ReadValue.j0 k a0 a1 (!t209)) = some (r1, r2, r3, r4, r5) := H
      have A6 := Aside0.mk A60
      clear A60
      have H' := Aside0.mk H
      clear H
      go_wp2_with (first | (go_at_call 14; (with_reducible refine (impl_within.calls a1 0 (a0.size : Int) t209 _ A6.out).mono ?_); rintro e w' ⟨rfl, ⟨nd, rfl⟩⟩))
      go_meet
      case rel => exact ⟨_, (!t209), (by first | rfl | (simp; done) | (simp [*]; done)), H', ⟨by first | omega | exact Nat.le_refl _⟩, ⟨by (with_reducible repeat (first | refine blk_drewN ?_ _ | refine blk_drew ?_ | refine blk_alloc ?_ _)); exact BK208.out⟩, ⟨by repeat (first | (with_reducible first | exact HB.out | apply below_alloc | apply pw_below_drewN | apply below_drew1 | refine below_set ?_ GE208.out) | exact HB.out)⟩⟩
  case rest =>
    clear HC3
    try clear p2
    try clear c5
    try clear c5b0
    try clear c5b1
    try clear c6
    obtain ⟨kq, x19_2, rfl, HA, HJ2, BK208, HB⟩ := hcut
    cases kq with
    | zero => exact absurd HA.out (by simp [impl_ReadValue.j0])
    | succ kj2 =>
      have H := HA.out
      clear HA
      simp only [impl_ReadValue.j0] at H
      by_cases c7 : x19_2 = true
      · subst c7
        have H1 : (some (0, 0, (⟨#[]⟩ : ByteArray), 0, false)) = some (r1, r2, r3, r4, r5) := by rw [if_pos rfl] at H; exact H
        clear H
        have H := H1
        clear H1
        simp only [Option.some.injEq, Prod.mk.injEq] at H
        obtain ⟨rfl, rfl, rfl, rfl, rfl⟩ := H
        have hcz8_0 : wc.cell? ⟨gb208, 0, none⟩ = some (.int .i64 0) := (blk_cell BK208.out 0).trans rfl
        have hcz8_1 : wc.cell? ⟨gb208, 1, none⟩ = some (.int .i64 0) := (blk_cell BK208.out 1).trans rfl
        have hcz8_2 : wc.cell? ⟨gb208, 2, none⟩ = some (.string (⟨#[]⟩ : ByteArray)) := (blk_cell BK208.out 2).trans rfl
        have hfz8_0 := blk_frozen BK208.out 0
        have hfz8_1 := blk_frozen BK208.out 1
        have hfz8_2 := blk_frozen BK208.out 2
        go_wp2
        refine bodyPost_ret (results_ctt rfl _ _ gb208 23 #[.int .i64 0, .int .i64 0, .string (⟨#[]⟩ : ByteArray)] (0, 0) _ rfl (by (with_reducible repeat (first | refine blk_drewN ?_ _ | refine blk_drew ?_ | refine blk_alloc ?_ _)); refine blk_put (cs := #[.int .i64 0, .int .i64 0, .string (⟨#[]⟩ : ByteArray)]) ?_ 2 _ rfl; (with_reducible repeat (first | refine blk_drewN ?_ _ | refine blk_drew ?_ | refine blk_alloc ?_ _)); refine blk_put (cs := #[.int .i64 0, .int .i64 0, .string (⟨#[]⟩ : ByteArray)]) ?_ 1 _ rfl; (with_reducible repeat (first | refine blk_drewN ?_ _ | refine blk_drew ?_ | refine blk_alloc ?_ _)); refine blk_put (cs := #[.int .i64 0, .int .i64 0, .string (⟨#[]⟩ : ByteArray)]) ?_ 0 _ rfl; (with_reducible repeat (first | refine blk_drewN ?_ _ | refine blk_drew ?_ | refine blk_alloc ?_ _)); exact BK208.out) Try.underlying23 rfl (by kernel_rfl)) rfl ?_
        exact ⟨by first | rfl | (simp [errW_none, errW_some] <;> rfl) | (simp [*, errW_none, errW_some] <;> rfl), by repeat (first | (with_reducible first | exact HB.out | apply below_alloc | apply pw_below_drewN | apply below_drew1 | refine below_set ?_ GE208.out) | exact HB.out)⟩
      · replace c7 := Bool.eq_false_iff.mpr c7
        subst c7
        have H1 : (if 0 ≤ a1 then (if a1 ≤ (a0.size : Int) then ((impl_readValue.f kj2 (a0.extract (a1 : Int).toNat a0.size)).bind fun bt210 => (if bt210.2.2.2.2 = true then (some (bt210.1, bt210.2.1, bt210.2.2.1, wrap64 (a1 + bt210.2.2.2.1), true)) else (some (0, 0, (⟨#[]⟩ : ByteArray), 0, false)))) else (none)) else (none)) = some (r1, r2, r3, r4, r5) := by rw [if_neg (show ¬ (false = true) by decide)] at H; exact H
        clear H
        have H := H1
        clear H1
        by_cases c9 : 0 ≤ a1
        · rw [if_pos c9] at H
          have c9b0 := eq_true c9
          have c9b1 : decide (0 ≤ a1) = true := decide_eq_true c9
          clear c9
          by_cases c10 : a1 ≤ (a0.size : Int)
          · rw [if_pos c10] at H
            have c10b0 := eq_true c10
            have c10b1 : decide (a1 ≤ (a0.size : Int)) = true := decide_eq_true c10
            clear c10
            replace H := Option.bind_eq_some_iff.mp H
            obtain ⟨⟨t210, t211, t212, t213, t214⟩, A110, H⟩ := H
            replace H : (if t214 = true then (some (t210, t211, t212, wrap64 (a1 + t213), true)) else (some (0, 0, (⟨#[]⟩ : ByteArray), 0, false))) = some (r1, r2, r3, r4, r5) := H
            have A11 := Aside0.mk A110
            clear A110
            by_cases c12 : t214 = true
            · subst c12
              have H1 : (some (t210, t211, t212, wrap64 (a1 + t213), true)) = some (r1, r2, r3, r4, r5) := by rw [if_pos rfl] at H; exact H
              clear H
              have H := H1
              clear H1
              simp only [Option.some.injEq, Prod.mk.injEq] at H
              obtain ⟨rfl, rfl, rfl, rfl, rfl⟩ := H
              go_wp2_with (first | ((with_reducible refine gate_callee (f := 15) rfl ?_); refine goesL_ (some 25) rfl rfl Try.func15 (by kernel_rfl) rfl #[.string (a0.extract (a1 : Int).toNat a0.size)] rfl (by (try simp only [List.map_toArray, List.map_cons, List.map_nil]); first | done | rfl | (simp only [List.length_drop, List.length_take]; rfl)) ?_; (with_reducible refine (impl_readValue.calls kj2 (a0.extract (a1 : Int).toNat a0.size) t210 t211 t212 t213 true _ A11.out).mono ?_); rintro e w13 ⟨rfl, hb⟩; refine ⟨_, rfl, ?_⟩; have n0_ := Aside0.mk (blk_below (g := gb208) (o := .cells #[.int .i64 0, .int .i64 0, .string (⟨#[]⟩ : ByteArray)] 23 (0, 0)) (by (with_reducible repeat (first | refine blk_drewN ?_ _ | refine blk_drew ?_ | refine blk_alloc ?_ _)); exact BK208.out) hb); have n1_ := Aside0.mk (below_step (by repeat (first | (with_reducible first | exact HB.out | apply below_alloc | apply pw_below_drewN | apply below_drew1 | refine below_set ?_ GE208.out) | exact HB.out)) hb); clear BK208; clear HB; have BK208 := n0_; have HB := n1_; clear n0_ n1_; (try clear hb); (try clear hb2); (try clear hk); (try clear hi)) | ((with_reducible refine gate_dst (N := 7) rfl ?_); (try (refine gate_guard (by rfl) ?_; dsimp only)); refine box_event ?hg (N := 7) ?hd (cs := #[.int .i64 0, .int .i64 0, .string (⟨#[]⟩ : ByteArray)]) (t := 23) ?hr ?_; (case hd => rfl); (case hg => rfl); (case hr => first | (go_simp; done) | (go_simp; rfl)); intro gb215 hg w14 hbox hb; have n0_ := Aside0.mk (blk_below (g := gb208) (o := .cells #[.int .i64 0, .int .i64 0, .string (⟨#[]⟩ : ByteArray)] 23 (0, 0)) (by (with_reducible repeat (first | refine blk_drewN ?_ _ | refine blk_drew ?_ | refine blk_alloc ?_ _)); exact BK208.out) hb); have n1_ := Aside0.mk (below_step (by repeat (first | (with_reducible first | exact HB.out | apply below_alloc | apply pw_below_drewN | apply below_drew1 | refine below_set ?_ GE208.out) | exact HB.out)) hb); have n2_ := Aside0.mk (hbox); have n3_ := Aside0.mk ((by rw [hg]; exact (below_size (by repeat (first | (with_reducible first | exact HB.out | apply below_alloc | apply pw_below_drewN | apply below_drew1 | refine below_set ?_ GE208.out) | exact HB.out))) : w.heap.size ≤ gb215)); have n4_ := Aside0.mk ((by rw [hg]; exact (below_size (by repeat (first | (with_reducible first | exact HB.out | apply below_alloc | apply pw_below_drewN | apply below_drew1 | refine below_set ?_ GE208.out) | exact HB.out))) : w.heap.size ≤ gb215)); have n5_ := Aside0.mk ((by rw [hg]; exact Nat.ne_of_lt (blk_lt (g := gb208) (o := .cells #[.int .i64 0, .int .i64 0, .string (⟨#[]⟩ : ByteArray)] 23 (0, 0)) (by (with_reducible repeat (first | refine blk_drewN ?_ _ | refine blk_drew ?_ | refine blk_alloc ?_ _)); exact BK208.out)) : gb208 ≠ gb215)); have n6_ := Aside0.mk ((by rw [hg]; exact Nat.ne_of_gt (blk_lt (g := gb208) (o := .cells #[.int .i64 0, .int .i64 0, .string (⟨#[]⟩ : ByteArray)] 23 (0, 0)) (by (with_reducible repeat (first | refine blk_drewN ?_ _ | refine blk_drew ?_ | refine blk_alloc ?_ _)); exact BK208.out)) : gb215 ≠ gb208)); clear BK208; clear HB; have BK208 := n0_; have HB := n1_; have BK215 := n2_; have GW215 := n3_; have GE215 := n4_; have NB208_215 := n5_; have NB215_208 := n6_; clear n0_ n1_ n2_ n3_ n4_ n5_ n6_; clear hb hbox hg; have hnb15 := NB215_208.out; have hnc15 := NB208_215.out; have hcz16_0 : w14.cell? ⟨gb215, 0, none⟩ = some (.int .i64 0) := (blk_cell BK215.out 0).trans rfl; have hcz16_1 : w14.cell? ⟨gb215, 1, none⟩ = some (.int .i64 0) := (blk_cell BK215.out 1).trans rfl; have hcz16_2 : w14.cell? ⟨gb215, 2, none⟩ = some (.string (⟨#[]⟩ : ByteArray)) := (blk_cell BK215.out 2).trans rfl; have hfz16_0 := blk_frozen BK215.out 0; have hfz16_1 := blk_frozen BK215.out 1; have hfz16_2 := blk_frozen BK215.out 2; have hcz17_0 : w14.cell? ⟨gb208, 0, none⟩ = some (.int .i64 0) := (blk_cell BK208.out 0).trans rfl; have hcz17_1 : w14.cell? ⟨gb208, 1, none⟩ = some (.int .i64 0) := (blk_cell BK208.out 1).trans rfl; have hcz17_2 : w14.cell? ⟨gb208, 2, none⟩ = some (.string (⟨#[]⟩ : ByteArray)) := (blk_cell BK208.out 2).trans rfl; have hfz17_0 := blk_frozen BK208.out 0; have hfz17_1 := blk_frozen BK208.out 1; have hfz17_2 := blk_frozen BK208.out 2))
              refine bodyPost_ret (results_ctt rfl _ _ gb208 23 #[.int .i64 t210, .int .i64 t211, .string t212] (0, 0) _ rfl (by (with_reducible repeat (first | refine blk_drewN ?_ _ | refine blk_drew ?_ | refine blk_alloc ?_ _)); refine blk_put (cs := #[.int .i64 t210, .int .i64 t211, .string (⟨#[]⟩ : ByteArray)]) ?_ 2 _ rfl; (with_reducible repeat (first | refine blk_drewN ?_ _ | refine blk_drew ?_ | refine blk_alloc ?_ _)); refine blk_put (cs := #[.int .i64 t210, .int .i64 0, .string (⟨#[]⟩ : ByteArray)]) ?_ 1 _ rfl; (with_reducible repeat (first | refine blk_drewN ?_ _ | refine blk_drew ?_ | refine blk_alloc ?_ _)); refine blk_put (cs := #[.int .i64 0, .int .i64 0, .string (⟨#[]⟩ : ByteArray)]) ?_ 0 _ rfl; (with_reducible repeat (first | refine blk_drewN ?_ _ | refine blk_drew ?_ | refine blk_alloc ?_ _)); refine blk_far ?_ NB208_215.out _; (with_reducible repeat (first | refine blk_drewN ?_ _ | refine blk_drew ?_ | refine blk_alloc ?_ _)); refine blk_far ?_ NB208_215.out _; (with_reducible repeat (first | refine blk_drewN ?_ _ | refine blk_drew ?_ | refine blk_alloc ?_ _)); refine blk_far ?_ NB208_215.out _; (with_reducible repeat (first | refine blk_drewN ?_ _ | refine blk_drew ?_ | refine blk_alloc ?_ _)); exact BK208.out) Try.underlying23 rfl (by kernel_rfl)) rfl ?_
              exact ⟨by first | rfl | (simp [errW_none, errW_some] <;> rfl) | (simp [*, errW_none, errW_some] <;> rfl), by repeat (first | (with_reducible first | exact HB.out | apply below_alloc | apply pw_below_drewN | apply below_drew1 | refine below_set ?_ GE208.out | refine below_set ?_ GE215.out) | exact HB.out)⟩
            · replace c12 := Bool.eq_false_iff.mpr c12
              subst c12
              have H1 : (some (0, 0, (⟨#[]⟩ : ByteArray), 0, false)) = some (r1, r2, r3, r4, r5) := by rw [if_neg (show ¬ (false = true) by decide)] at H; exact H
              clear H
              have H := H1
              clear H1
              simp only [Option.some.injEq, Prod.mk.injEq] at H
              obtain ⟨rfl, rfl, rfl, rfl, rfl⟩ := H
              go_wp2_with (first | ((with_reducible refine gate_callee (f := 15) rfl ?_); refine goesL_ (some 25) rfl rfl Try.func15 (by kernel_rfl) rfl #[.string (a0.extract (a1 : Int).toNat a0.size)] rfl (by (try simp only [List.map_toArray, List.map_cons, List.map_nil]); first | done | rfl | (simp only [List.length_drop, List.length_take]; rfl)) ?_; (with_reducible refine (impl_readValue.calls kj2 (a0.extract (a1 : Int).toNat a0.size) t210 t211 t212 t213 false _ A11.out).mono ?_); rintro e w18 ⟨rfl, hb⟩; refine ⟨_, rfl, ?_⟩; have n0_ := Aside0.mk (blk_below (g := gb208) (o := .cells #[.int .i64 0, .int .i64 0, .string (⟨#[]⟩ : ByteArray)] 23 (0, 0)) (by (with_reducible repeat (first | refine blk_drewN ?_ _ | refine blk_drew ?_ | refine blk_alloc ?_ _)); exact BK208.out) hb); have n1_ := Aside0.mk (below_step (by repeat (first | (with_reducible first | exact HB.out | apply below_alloc | apply pw_below_drewN | apply below_drew1 | refine below_set ?_ GE208.out) | exact HB.out)) hb); clear BK208; clear HB; have BK208 := n0_; have HB := n1_; clear n0_ n1_; (try clear hb); (try clear hb2); (try clear hk); (try clear hi)) | ((with_reducible refine gate_dst (N := 7) rfl ?_); (try (refine gate_guard (by rfl) ?_; dsimp only)); refine box_event ?hg (N := 7) ?hd (cs := #[.int .i64 0, .int .i64 0, .string (⟨#[]⟩ : ByteArray)]) (t := 23) ?hr ?_; (case hd => rfl); (case hg => rfl); (case hr => first | (go_simp; done) | (go_simp; rfl)); intro gb215 hg w19 hbox hb; have n0_ := Aside0.mk (blk_below (g := gb208) (o := .cells #[.int .i64 0, .int .i64 0, .string (⟨#[]⟩ : ByteArray)] 23 (0, 0)) (by (with_reducible repeat (first | refine blk_drewN ?_ _ | refine blk_drew ?_ | refine blk_alloc ?_ _)); exact BK208.out) hb); have n1_ := Aside0.mk (below_step (by repeat (first | (with_reducible first | exact HB.out | apply below_alloc | apply pw_below_drewN | apply below_drew1 | refine below_set ?_ GE208.out) | exact HB.out)) hb); have n2_ := Aside0.mk (hbox); have n3_ := Aside0.mk ((by rw [hg]; exact (below_size (by repeat (first | (with_reducible first | exact HB.out | apply below_alloc | apply pw_below_drewN | apply below_drew1 | refine below_set ?_ GE208.out) | exact HB.out))) : w.heap.size ≤ gb215)); have n4_ := Aside0.mk ((by rw [hg]; exact (below_size (by repeat (first | (with_reducible first | exact HB.out | apply below_alloc | apply pw_below_drewN | apply below_drew1 | refine below_set ?_ GE208.out) | exact HB.out))) : w.heap.size ≤ gb215)); have n5_ := Aside0.mk ((by rw [hg]; exact Nat.ne_of_lt (blk_lt (g := gb208) (o := .cells #[.int .i64 0, .int .i64 0, .string (⟨#[]⟩ : ByteArray)] 23 (0, 0)) (by (with_reducible repeat (first | refine blk_drewN ?_ _ | refine blk_drew ?_ | refine blk_alloc ?_ _)); exact BK208.out)) : gb208 ≠ gb215)); have n6_ := Aside0.mk ((by rw [hg]; exact Nat.ne_of_gt (blk_lt (g := gb208) (o := .cells #[.int .i64 0, .int .i64 0, .string (⟨#[]⟩ : ByteArray)] 23 (0, 0)) (by (with_reducible repeat (first | refine blk_drewN ?_ _ | refine blk_drew ?_ | refine blk_alloc ?_ _)); exact BK208.out)) : gb215 ≠ gb208)); clear BK208; clear HB; have BK208 := n0_; have HB := n1_; have BK215 := n2_; have GW215 := n3_; have GE215 := n4_; have NB208_215 := n5_; have NB215_208 := n6_; clear n0_ n1_ n2_ n3_ n4_ n5_ n6_; clear hb hbox hg; have hnb20 := NB215_208.out; have hnc20 := NB208_215.out; have hcz21_0 : w19.cell? ⟨gb215, 0, none⟩ = some (.int .i64 0) := (blk_cell BK215.out 0).trans rfl; have hcz21_1 : w19.cell? ⟨gb215, 1, none⟩ = some (.int .i64 0) := (blk_cell BK215.out 1).trans rfl; have hcz21_2 : w19.cell? ⟨gb215, 2, none⟩ = some (.string (⟨#[]⟩ : ByteArray)) := (blk_cell BK215.out 2).trans rfl; have hfz21_0 := blk_frozen BK215.out 0; have hfz21_1 := blk_frozen BK215.out 1; have hfz21_2 := blk_frozen BK215.out 2; have hcz22_0 : w19.cell? ⟨gb208, 0, none⟩ = some (.int .i64 0) := (blk_cell BK208.out 0).trans rfl; have hcz22_1 : w19.cell? ⟨gb208, 1, none⟩ = some (.int .i64 0) := (blk_cell BK208.out 1).trans rfl; have hcz22_2 : w19.cell? ⟨gb208, 2, none⟩ = some (.string (⟨#[]⟩ : ByteArray)) := (blk_cell BK208.out 2).trans rfl; have hfz22_0 := blk_frozen BK208.out 0; have hfz22_1 := blk_frozen BK208.out 1; have hfz22_2 := blk_frozen BK208.out 2))
              refine bodyPost_ret (results_ctt rfl _ _ gb208 23 #[.int .i64 0, .int .i64 0, .string (⟨#[]⟩ : ByteArray)] (0, 0) _ rfl (by (with_reducible repeat (first | refine blk_drewN ?_ _ | refine blk_drew ?_ | refine blk_alloc ?_ _)); refine blk_put (cs := #[.int .i64 0, .int .i64 0, .string (⟨#[]⟩ : ByteArray)]) ?_ 2 _ rfl; (with_reducible repeat (first | refine blk_drewN ?_ _ | refine blk_drew ?_ | refine blk_alloc ?_ _)); refine blk_put (cs := #[.int .i64 0, .int .i64 0, .string (⟨#[]⟩ : ByteArray)]) ?_ 1 _ rfl; (with_reducible repeat (first | refine blk_drewN ?_ _ | refine blk_drew ?_ | refine blk_alloc ?_ _)); refine blk_put (cs := #[.int .i64 0, .int .i64 0, .string (⟨#[]⟩ : ByteArray)]) ?_ 0 _ rfl; (with_reducible repeat (first | refine blk_drewN ?_ _ | refine blk_drew ?_ | refine blk_alloc ?_ _)); refine blk_far ?_ NB208_215.out _; (with_reducible repeat (first | refine blk_drewN ?_ _ | refine blk_drew ?_ | refine blk_alloc ?_ _)); refine blk_far ?_ NB208_215.out _; (with_reducible repeat (first | refine blk_drewN ?_ _ | refine blk_drew ?_ | refine blk_alloc ?_ _)); refine blk_far ?_ NB208_215.out _; (with_reducible repeat (first | refine blk_drewN ?_ _ | refine blk_drew ?_ | refine blk_alloc ?_ _)); exact BK208.out) Try.underlying23 rfl (by kernel_rfl)) rfl ?_
              exact ⟨by first | rfl | (simp [errW_none, errW_some] <;> rfl) | (simp [*, errW_none, errW_some] <;> rfl), by repeat (first | (with_reducible first | exact HB.out | apply below_alloc | apply pw_below_drewN | apply below_drew1 | refine below_set ?_ GE208.out | refine below_set ?_ GE215.out) | exact HB.out)⟩
          · rw [if_neg c10] at H
            exact absurd H (by simp)
        · rw [if_neg c9] at H
          exact absurd H (by simp)

end Go.Proofs.Ytpfgjjbkcifpfaa.Fn
namespace Go.Proofs.Ytpfgjjbkcifpfaa.Fn
open Go.RowKit Go.Proofs.YtpfgjjbkcifpfaaW.PrintWords Go.Proofs.YtpfgjjbkcifpfaaW.PrintLast Go.Proofs.YtpfgjjbkcifpfaaW.PrintMore
attribute [local go_sem] max2_int min2_int max_two min_two max_three min_three max_four min_four   -- for this text's walks alone
set_option linter.unusedVariables false
set_option linter.unusedSimpArgs false

/-! ### laws_FnExactReadValue: function 3 -/
def laws_FnExactReadValue.f (k : Nat) (a0 : ByteArray) (a1 : Int) : Option (Bool) := if (a0.size : Int) > 1048576 then (some true) else ((spec_ReadValue.f k a0 a1).bind fun bt216 => ((impl_ReadValue.f k a0 a1).bind fun bt222 => ((laws_eqValue.f bt222.1 bt222.2.1 bt222.2.2.1 bt216.1 bt216.2.1 bt216.2.2.1).bind fun t228 => (if t228 = true then (if bt222.2.2.2.1 = bt216.2.2.2.1 then (if (bt222.2.2.2.2 != bt216.2.2.2.2) = true then (some false) else (some true)) else (some false)) else (some false)))))
theorem laws_FnExactReadValue.mono : ∀ a0 a1 k, LeO (laws_FnExactReadValue.f k a0 a1) (laws_FnExactReadValue.f (k + 1) a0 a1) := by
  intro a0 a1 k
  unfold laws_FnExactReadValue.f
  repeat' first
      | (with_reducible exact impl_ReadValue.mono _ _ _)
      | (with_reducible exact spec_ReadValue.mono _ _ _)
      | (with_reducible exact LeO.refl _)
      | (with_reducible exact LeO.none _)
      | (with_reducible refine LeO.ite ?_ ?_)
      | (with_reducible refine LeO.bind ?_ (fun _ => ?_))
      | exact impl_ReadValue.mono _ _ _
      | exact spec_ReadValue.mono _ _ _
      | exact LeO.none _
      | refine LeO.ite ?_ ?_
      | refine LeO.bind ?_ (fun _ => ?_)
set_option maxHeartbeats 8000000 in
set_option maxRecDepth 100000 in
theorem laws_FnExactReadValue.calls (k : Nat) (a0 : ByteArray) (a1 : Int) (r : Bool) (w : World) (h : laws_FnExactReadValue.f k a0 a1 = some r) (ht : r = true) :
    Calls Try.prog 3 #[.string a0, .int .i64 a1] w fun e w' => e = .returned (.bool r) ∧ Below w.heap.size w w' := by
  have HT := Aside0.mk ht
  clear ht
  have hu23 := Try.underlying23
  have HB := Aside0.mk (Below.refl w.heap.size w)
  have H : (if (a0.size : Int) > 1048576 then (some true) else ((spec_ReadValue.f k a0 a1).bind fun bt216 => ((impl_ReadValue.f k a0 a1).bind fun bt222 => ((laws_eqValue.f bt222.1 bt222.2.1 bt222.2.2.1 bt216.1 bt216.2.1 bt216.2.2.1).bind fun t228 => (if t228 = true then (if bt222.2.2.2.1 = bt216.2.2.2.1 then (if (bt222.2.2.2.2 != bt216.2.2.2.2) = true then (some false) else (some true)) else (some false)) else (some false)))))) = some r := h
  clear h
  by_cases c3 : (a0.size : Int) > 1048576
  · rw [if_pos c3] at H
    have c3b0 : decide (1048576 < (a0.size : Int)) = true := decide_eq_true c3
    have c3b1 : decide (1048576 < a0.size) = true := decide_eq_true (by omega)
    clear c3
    obtain rfl := Option.some.inj H
    go_enter Try.func3, Try.ntmps3
    go_wp2
    go_ret
    exact ⟨by first | rfl | (simp [errW_none, errW_some] <;> rfl) | (simp [*, errW_none, errW_some] <;> rfl), by repeat (first | (with_reducible first | exact HB.out | apply below_alloc | apply pw_below_drewN | apply below_drew1) | exact HB.out)⟩
  · rw [if_neg c3] at H
    have c3b0 : decide (1048576 < (a0.size : Int)) = false := decide_eq_false c3
    have c3b1 : decide (1048576 < a0.size) = false := decide_eq_false (by omega)
    clear c3
    replace H := Option.bind_eq_some_iff.mp H
    obtain ⟨⟨t216, t217, t218, t219, t220⟩, A40, H⟩ := H
    replace H : ((impl_ReadValue.f k a0 a1).bind fun bt222 => ((laws_eqValue.f bt222.1 bt222.2.1 bt222.2.2.1 t216 t217 t218).bind fun t228 => (if t228 = true then (if bt222.2.2.2.1 = t219 then (if (bt222.2.2.2.2 != t220) = true then (some false) else (some true)) else (some false)) else (some false)))) = some r := H
    have A4 := Aside0.mk A40
    clear A40
    replace H := Option.bind_eq_some_iff.mp H
    obtain ⟨⟨t222, t223, t224, t225, t226⟩, A50, H⟩ := H
    replace H : ((laws_eqValue.f t222 t223 t224 t216 t217 t218).bind fun t228 => (if t228 = true then (if t225 = t219 then (if (t226 != t220) = true then (some false) else (some true)) else (some false)) else (some false))) = some r := H
    have A5 := Aside0.mk A50
    clear A50
    replace H := Option.bind_eq_some_iff.mp H
    obtain ⟨t228, A60, H⟩ := H
    replace H : (if t228 = true then (if t225 = t219 then (if (t226 != t220) = true then (some false) else (some true)) else (some false)) else (some false)) = some r := H
    have A6 := Aside0.mk A60
    clear A60
    by_cases c7 : t228 = true
    · subst c7
      have H1 : (if t225 = t219 then (if (t226 != t220) = true then (some false) else (some true)) else (some false)) = some r := by rw [if_pos rfl] at H; exact H
      clear H
      have H := H1
      clear H1
      by_cases c8 : t225 = t219
      · rw [if_pos c8] at H
        have c8b0 : (t225 == t219) = true := beq_iff_eq.mpr c8
        have c8b1 : (t225 != t219) = false := bne_eq_false_iff_eq.mpr c8
        clear c8
        by_cases c9 : (t226 != t220) = true
        · rw [if_pos c9] at H
          have c9b0 : (t226 != t220) = true := c9
          (try (have c9b1 : decide (t226 = t220) = false := by simpa using c9))
          (try (have c9b2 : (t226 == t220) = false := by simpa using c9))
          (try (have c9b3 : ¬ (t226 = t220) := by simpa using c9))
          clear c9
          exact absurd HT.out (by have H9 := Option.some.inj H; rw [← H9]; decide)
        · rw [if_neg c9] at H
          have c9b0 : (t226 != t220) = false := by simpa using c9
          (try (have c9b1 : decide (t226 = t220) = true := by simpa using c9))
          (try (have c9b2 : (t226 == t220) = true := by simpa using c9))
          clear c9
          obtain rfl := Option.some.inj H
          go_enter Try.func3, Try.ntmps3
          go_wp2_with (first | ((with_reducible refine gate_callee (f := 5) rfl ?_); refine goesL_ (some 17) rfl rfl Try.func5 (by kernel_rfl) rfl #[.string a0, .int .i64 a1] rfl (by (try simp only [List.map_toArray, List.map_cons, List.map_nil]); first | done | rfl | (simp only [List.length_drop, List.length_take]; rfl)) ?_; (with_reducible refine (spec_ReadValue.calls k a0 a1 t216 t217 t218 t219 t220 _ A4.out).mono ?_); rintro e w10 ⟨rfl, hb⟩; refine ⟨_, rfl, ?_⟩; have n0_ := Aside0.mk (below_step (by repeat (first | (with_reducible first | exact HB.out | apply below_alloc | apply pw_below_drewN | apply below_drew1) | exact HB.out)) hb); clear HB; have HB := n0_; clear n0_; (try clear hb); (try clear hb2); (try clear hk); (try clear hi)) | ((with_reducible refine gate_dst (N := 5) rfl ?_); refine box_event ?hg (N := 5) ?hd (cs := #[.int .i64 0, .int .i64 0, .string (⟨#[]⟩ : ByteArray)]) (t := 23) ?hr ?_; (case hd => rfl); (case hg => rfl); (case hr => first | (go_simp; done) | (go_simp; rfl)); intro gb221 hg w11 hbox hb; have n0_ := Aside0.mk (below_step (by repeat (first | (with_reducible first | exact HB.out | apply below_alloc | apply pw_below_drewN | apply below_drew1) | exact HB.out)) hb); have n1_ := Aside0.mk (hbox); have n2_ := Aside0.mk ((by rw [hg]; exact (below_size (by repeat (first | (with_reducible first | exact HB.out | apply below_alloc | apply pw_below_drewN | apply below_drew1) | exact HB.out))) : w.heap.size ≤ gb221)); have n3_ := Aside0.mk ((by rw [hg]; exact (below_size (by repeat (first | (with_reducible first | exact HB.out | apply below_alloc | apply pw_below_drewN | apply below_drew1) | exact HB.out))) : w.heap.size ≤ gb221)); clear HB; have HB := n0_; have BK221 := n1_; have GW221 := n2_; have GE221 := n3_; clear n0_ n1_ n2_ n3_; clear hb hbox hg; have hcz12_0 : w11.cell? ⟨gb221, 0, none⟩ = some (.int .i64 0) := (blk_cell BK221.out 0).trans rfl; have hcz12_1 : w11.cell? ⟨gb221, 1, none⟩ = some (.int .i64 0) := (blk_cell BK221.out 1).trans rfl; have hcz12_2 : w11.cell? ⟨gb221, 2, none⟩ = some (.string (⟨#[]⟩ : ByteArray)) := (blk_cell BK221.out 2).trans rfl; have hfz12_0 := blk_frozen BK221.out 0; have hfz12_1 := blk_frozen BK221.out 1; have hfz12_2 := blk_frozen BK221.out 2) | ((with_reducible refine gate_callee (f := 6) rfl ?_); refine goesL_ (some 24) rfl rfl Try.func6 (by kernel_rfl) rfl #[.string a0, .int .i64 a1] rfl (by (try simp only [List.map_toArray, List.map_cons, List.map_nil]); first | done | rfl | (simp only [List.length_drop, List.length_take]; rfl)) ?_; (with_reducible refine (impl_ReadValue.calls k a0 a1 t222 t223 t224 t225 t226 _ A5.out).mono ?_); rintro e w13 ⟨rfl, hb⟩; refine ⟨_, rfl, ?_⟩; have n0_ := Aside0.mk (blk_below (g := gb221) (o := .cells #[.int .i64 t216, .int .i64 t217, .string t218] 23 (0, 0)) (by (with_reducible repeat (first | refine blk_drewN ?_ _ | refine blk_drew ?_ | refine blk_alloc ?_ _)); refine blk_put (cs := #[.int .i64 t216, .int .i64 t217, .string (⟨#[]⟩ : ByteArray)]) ?_ 2 _ rfl; (with_reducible repeat (first | refine blk_drewN ?_ _ | refine blk_drew ?_ | refine blk_alloc ?_ _)); refine blk_put (cs := #[.int .i64 t216, .int .i64 0, .string (⟨#[]⟩ : ByteArray)]) ?_ 1 _ rfl; (with_reducible repeat (first | refine blk_drewN ?_ _ | refine blk_drew ?_ | refine blk_alloc ?_ _)); refine blk_put (cs := #[.int .i64 0, .int .i64 0, .string (⟨#[]⟩ : ByteArray)]) ?_ 0 _ rfl; (with_reducible repeat (first | refine blk_drewN ?_ _ | refine blk_drew ?_ | refine blk_alloc ?_ _)); exact BK221.out) hb); have n1_ := Aside0.mk (below_step (by repeat (first | (with_reducible first | exact HB.out | apply below_alloc | apply pw_below_drewN | apply below_drew1 | refine below_set ?_ GE221.out) | exact HB.out)) hb); clear BK221; clear HB; have BK221 := n0_; have HB := n1_; clear n0_ n1_; (try clear hb); (try clear hb2); (try clear hk); (try clear hi)) | ((with_reducible refine gate_dst (N := 8) rfl ?_); refine box_event ?hg (N := 8) ?hd (cs := #[.int .i64 0, .int .i64 0, .string (⟨#[]⟩ : ByteArray)]) (t := 23) ?hr ?_; (case hd => rfl); (case hg => rfl); (case hr => first | (go_simp; done) | (go_simp; rfl)); intro gb227 hg w14 hbox hb; have n0_ := Aside0.mk (blk_below (g := gb221) (o := .cells #[.int .i64 t216, .int .i64 t217, .string t218] 23 (0, 0)) (by (with_reducible repeat (first | refine blk_drewN ?_ _ | refine blk_drew ?_ | refine blk_alloc ?_ _)); exact BK221.out) hb); have n1_ := Aside0.mk (below_step (by repeat (first | (with_reducible first | exact HB.out | apply below_alloc | apply pw_below_drewN | apply below_drew1 | refine below_set ?_ GE221.out) | exact HB.out)) hb); have n2_ := Aside0.mk (hbox); have n3_ := Aside0.mk ((by rw [hg]; exact (below_size (by repeat (first | (with_reducible first | exact HB.out | apply below_alloc | apply pw_below_drewN | apply below_drew1 | refine below_set ?_ GE221.out) | exact HB.out))) : w.heap.size ≤ gb227)); have n4_ := Aside0.mk ((by rw [hg]; exact (below_size (by repeat (first | (with_reducible first | exact HB.out | apply below_alloc | apply pw_below_drewN | apply below_drew1 | refine below_set ?_ GE221.out) | exact HB.out))) : w.heap.size ≤ gb227)); have n5_ := Aside0.mk ((by rw [hg]; exact Nat.ne_of_lt (blk_lt (g := gb221) (o := .cells #[.int .i64 t216, .int .i64 t217, .string t218] 23 (0, 0)) (by (with_reducible repeat (first | refine blk_drewN ?_ _ | refine blk_drew ?_ | refine blk_alloc ?_ _)); exact BK221.out)) : gb221 ≠ gb227)); have n6_ := Aside0.mk ((by rw [hg]; exact Nat.ne_of_gt (blk_lt (g := gb221) (o := .cells #[.int .i64 t216, .int .i64 t217, .string t218] 23 (0, 0)) (by (with_reducible repeat (first | refine blk_drewN ?_ _ | refine blk_drew ?_ | refine blk_alloc ?_ _)); exact BK221.out)) : gb227 ≠ gb221)); clear BK221; clear HB; have BK221 := n0_; have HB := n1_; have BK227 := n2_; have GW227 := n3_; have GE227 := n4_; have NB221_227 := n5_; have NB227_221 := n6_; clear n0_ n1_ n2_ n3_ n4_ n5_ n6_; clear hb hbox hg; have hnb15 := NB227_221.out; have hnc15 := NB221_227.out; have hcz16_0 : w14.cell? ⟨gb227, 0, none⟩ = some (.int .i64 0) := (blk_cell BK227.out 0).trans rfl; have hcz16_1 : w14.cell? ⟨gb227, 1, none⟩ = some (.int .i64 0) := (blk_cell BK227.out 1).trans rfl; have hcz16_2 : w14.cell? ⟨gb227, 2, none⟩ = some (.string (⟨#[]⟩ : ByteArray)) := (blk_cell BK227.out 2).trans rfl; have hfz16_0 := blk_frozen BK227.out 0; have hfz16_1 := blk_frozen BK227.out 1; have hfz16_2 := blk_frozen BK227.out 2; have hcz17_0 : w14.cell? ⟨gb221, 0, none⟩ = some (.int .i64 t216) := (blk_cell BK221.out 0).trans rfl; have hcz17_1 : w14.cell? ⟨gb221, 1, none⟩ = some (.int .i64 t217) := (blk_cell BK221.out 1).trans rfl; have hcz17_2 : w14.cell? ⟨gb221, 2, none⟩ = some (.string t218) := (blk_cell BK221.out 2).trans rfl; have hfz17_0 := blk_frozen BK221.out 0; have hfz17_1 := blk_frozen BK221.out 1; have hfz17_2 := blk_frozen BK221.out 2) | ((with_reducible refine gate_callee (f := 7) rfl ?_); refine goesL_ (some 30) rfl rfl Try.func7 (by kernel_rfl) rfl #[.agg #[.int .i64 t222, .int .i64 t223, .string t224], .agg #[.int .i64 t216, .int .i64 t217, .string t218]] rfl (by (try simp only [List.map_toArray, List.map_cons, List.map_nil]); first | done | rfl | (simp only [List.length_drop, List.length_take]; rfl)) ?_; (with_reducible refine (laws_eqValue.calls t222 t223 t224 t216 t217 t218 true _ A6.out).mono ?_); rintro e w18 ⟨rfl, hb⟩; refine ⟨_, rfl, ?_⟩; have n0_ := Aside0.mk (blk_below (g := gb221) (o := .cells #[.int .i64 t216, .int .i64 t217, .string t218] 23 (0, 0)) (by (with_reducible repeat (first | refine blk_drewN ?_ _ | refine blk_drew ?_ | refine blk_alloc ?_ _)); refine blk_far ?_ NB221_227.out _; (with_reducible repeat (first | refine blk_drewN ?_ _ | refine blk_drew ?_ | refine blk_alloc ?_ _)); refine blk_far ?_ NB221_227.out _; (with_reducible repeat (first | refine blk_drewN ?_ _ | refine blk_drew ?_ | refine blk_alloc ?_ _)); refine blk_far ?_ NB221_227.out _; (with_reducible repeat (first | refine blk_drewN ?_ _ | refine blk_drew ?_ | refine blk_alloc ?_ _)); exact BK221.out) hb); have n1_ := Aside0.mk (blk_below (g := gb227) (o := .cells #[.int .i64 t222, .int .i64 t223, .string t224] 23 (0, 0)) (by (with_reducible repeat (first | refine blk_drewN ?_ _ | refine blk_drew ?_ | refine blk_alloc ?_ _)); refine blk_put (cs := #[.int .i64 t222, .int .i64 t223, .string (⟨#[]⟩ : ByteArray)]) ?_ 2 _ rfl; (with_reducible repeat (first | refine blk_drewN ?_ _ | refine blk_drew ?_ | refine blk_alloc ?_ _)); refine blk_put (cs := #[.int .i64 t222, .int .i64 0, .string (⟨#[]⟩ : ByteArray)]) ?_ 1 _ rfl; (with_reducible repeat (first | refine blk_drewN ?_ _ | refine blk_drew ?_ | refine blk_alloc ?_ _)); refine blk_put (cs := #[.int .i64 0, .int .i64 0, .string (⟨#[]⟩ : ByteArray)]) ?_ 0 _ rfl; (with_reducible repeat (first | refine blk_drewN ?_ _ | refine blk_drew ?_ | refine blk_alloc ?_ _)); exact BK227.out) hb); have n2_ := Aside0.mk (below_step (by repeat (first | (with_reducible first | exact HB.out | apply below_alloc | apply pw_below_drewN | apply below_drew1 | refine below_set ?_ GE221.out | refine below_set ?_ GE227.out) | exact HB.out)) hb); clear BK221; clear BK227; clear HB; have BK221 := n0_; have BK227 := n1_; have HB := n2_; clear n0_ n1_ n2_; (try clear hb); (try clear hb2); (try clear hk); (try clear hi)))
          go_ret
          exact ⟨by first | rfl | (simp [errW_none, errW_some] <;> rfl) | (simp [*, errW_none, errW_some] <;> rfl), by repeat (first | (with_reducible first | exact HB.out | apply below_alloc | apply pw_below_drewN | apply below_drew1 | refine below_set ?_ GE221.out | refine below_set ?_ GE227.out) | exact HB.out)⟩
      · rw [if_neg c8] at H
        have c8b0 : (t225 == t219) = false := beq_eq_false_iff_ne.mpr c8
        have c8b1 : (t225 != t219) = true := bne_iff_ne.mpr c8
        exact absurd HT.out (by have H9 := Option.some.inj H; rw [← H9]; decide)
    · replace c7 := Bool.eq_false_iff.mpr c7
      subst c7
      have H1 : (some false) = some r := by rw [if_neg (show ¬ (false = true) by decide)] at H; exact H
      clear H
      have H := H1
      clear H1
      exact absurd HT.out (by have H9 := Option.some.inj H; rw [← H9]; decide)

end Go.Proofs.Ytpfgjjbkcifpfaa.Fn
namespace Go.Proofs.Ytpfgjjbkcifpfaa.Pure
open Go.RowKit Go.Proofs.Ytpfgjjbkcifpfaa.Fn Go.Proofs.YtpfgjjbkcifpfaaW.PrintWords Go.Proofs.YtpfgjjbkcifpfaaW.PrintLast Go.Proofs.YtpfgjjbkcifpfaaW.PrintMore
set_option linter.unusedSimpArgs false

theorem readValue_twin (s : ByteArray) (hs : s.size ≤ 1048576) (a : Int) : Twin Eq (fun k => spec_ReadValue.f k s a) (fun k => impl_ReadValue.f k s a) := by
  simp only [spec_ReadValue.f, impl_ReadValue.f, within_eq]
  have specNo : Ev (fun k => spec_ReadValue.j0 k s a true) (0, 0, e0, 0, false) := by
    (refine Ev.up ?_; simp only [spec_ReadValue.j0, decT])
    (repeat (first | with_reducible refine Ev.bindS ?_ | (with_reducible refine Ev.ifp ?_ ?_; (· first | omega | assumption | rfl | (simp only [List.length_map, List.length_replicate, List.length_take, List.length_drop, List.length_append, List.length_cons, List.length_nil, List.length_set]; omega) | (simp; done))) | (with_reducible refine Ev.ifn ?_ ?_; (· first | omega | assumption | rfl | (simp only [List.length_map, List.length_replicate, List.length_take, List.length_drop, List.length_append, List.length_cons, List.length_nil, List.length_set]; omega) | (simp; done)))))
    exact Ev.val rfl
  have implNo : Ev (fun k => impl_ReadValue.j0 k s a true) (0, 0, e0, 0, false) := by
    (refine Ev.up ?_; simp only [impl_ReadValue.j0, decT])
    (repeat (first | with_reducible refine Ev.bindS ?_ | (with_reducible refine Ev.ifp ?_ ?_; (· first | omega | assumption | rfl | (simp only [List.length_map, List.length_replicate, List.length_take, List.length_drop, List.length_append, List.length_cons, List.length_nil, List.length_set]; omega) | (simp; done))) | (with_reducible refine Ev.ifn ?_ ?_; (· first | omega | assumption | rfl | (simp only [List.length_map, List.length_replicate, List.length_take, List.length_drop, List.length_append, List.length_cons, List.length_nil, List.length_set]; omega) | (simp; done)))))
    exact Ev.val rfl
  by_cases h6 : (s.size : Int) > 600
  · (repeat (first | with_reducible refine Twin.bindSL ?_ | with_reducible refine Twin.bindSR ?_ | (with_reducible refine Twin.ifpL ?_ ?_; (· first | omega | assumption | rfl | (simp only [List.length_map, List.length_replicate, List.length_take, List.length_drop, List.length_append, List.length_cons, List.length_nil, List.length_set]; omega) | (simp; done))) | (with_reducible refine Twin.ifnL ?_ ?_; (· first | omega | assumption | rfl | (simp only [List.length_map, List.length_replicate, List.length_take, List.length_drop, List.length_append, List.length_cons, List.length_nil, List.length_set]; omega) | (simp; done))) | (with_reducible refine Twin.ifpR ?_ ?_; (· first | omega | assumption | rfl | (simp only [List.length_map, List.length_replicate, List.length_take, List.length_drop, List.length_append, List.length_cons, List.length_nil, List.length_set]; omega) | (simp; done))) | (with_reducible refine Twin.ifnR ?_ ?_; (· first | omega | assumption | rfl | (simp only [List.length_map, List.length_replicate, List.length_take, List.length_drop, List.length_append, List.length_cons, List.length_nil, List.length_set]; omega) | (simp; done))))); exact Twin.of rfl specNo implNo
  · (repeat (first | with_reducible refine Twin.bindSL ?_ | with_reducible refine Twin.bindSR ?_ | (with_reducible refine Twin.ifpL ?_ ?_; (· first | omega | assumption | rfl | (simp only [List.length_map, List.length_replicate, List.length_take, List.length_drop, List.length_append, List.length_cons, List.length_nil, List.length_set]; omega) | (simp; done))) | (with_reducible refine Twin.ifnL ?_ ?_; (· first | omega | assumption | rfl | (simp only [List.length_map, List.length_replicate, List.length_take, List.length_drop, List.length_append, List.length_cons, List.length_nil, List.length_set]; omega) | (simp; done))) | (with_reducible refine Twin.ifpR ?_ ?_; (· first | omega | assumption | rfl | (simp only [List.length_map, List.length_replicate, List.length_take, List.length_drop, List.length_append, List.length_cons, List.length_nil, List.length_set]; omega) | (simp; done))) | (with_reducible refine Twin.ifnR ?_ ?_; (· first | omega | assumption | rfl | (simp only [List.length_map, List.length_replicate, List.length_take, List.length_drop, List.length_append, List.length_cons, List.length_nil, List.length_set]; omega) | (simp; done)))))
    by_cases h0 : a < 0
    · have e : decide (0 ≤ a ∧ a ≤ (s.size : Int)) = false := decide_eq_false (by omega)
      rw [e]
      (repeat (first | with_reducible refine Twin.bindSL ?_ | with_reducible refine Twin.bindSR ?_ | (with_reducible refine Twin.ifpL ?_ ?_; (· first | omega | assumption | rfl | (simp only [List.length_map, List.length_replicate, List.length_take, List.length_drop, List.length_append, List.length_cons, List.length_nil, List.length_set]; omega) | (simp; done))) | (with_reducible refine Twin.ifnL ?_ ?_; (· first | omega | assumption | rfl | (simp only [List.length_map, List.length_replicate, List.length_take, List.length_drop, List.length_append, List.length_cons, List.length_nil, List.length_set]; omega) | (simp; done))) | (with_reducible refine Twin.ifpR ?_ ?_; (· first | omega | assumption | rfl | (simp only [List.length_map, List.length_replicate, List.length_take, List.length_drop, List.length_append, List.length_cons, List.length_nil, List.length_set]; omega) | (simp; done))) | (with_reducible refine Twin.ifnR ?_ ?_; (· first | omega | assumption | rfl | (simp only [List.length_map, List.length_replicate, List.length_take, List.length_drop, List.length_append, List.length_cons, List.length_nil, List.length_set]; omega) | (simp; done))))); exact Twin.of rfl specNo implNo
    · (repeat (first | with_reducible refine Twin.bindSL ?_ | with_reducible refine Twin.bindSR ?_ | (with_reducible refine Twin.ifpL ?_ ?_; (· first | omega | assumption | rfl | (simp only [List.length_map, List.length_replicate, List.length_take, List.length_drop, List.length_append, List.length_cons, List.length_nil, List.length_set]; omega) | (simp; done))) | (with_reducible refine Twin.ifnL ?_ ?_; (· first | omega | assumption | rfl | (simp only [List.length_map, List.length_replicate, List.length_take, List.length_drop, List.length_append, List.length_cons, List.length_nil, List.length_set]; omega) | (simp; done))) | (with_reducible refine Twin.ifpR ?_ ?_; (· first | omega | assumption | rfl | (simp only [List.length_map, List.length_replicate, List.length_take, List.length_drop, List.length_append, List.length_cons, List.length_nil, List.length_set]; omega) | (simp; done))) | (with_reducible refine Twin.ifnR ?_ ?_; (· first | omega | assumption | rfl | (simp only [List.length_map, List.length_replicate, List.length_take, List.length_drop, List.length_append, List.length_cons, List.length_nil, List.length_set]; omega) | (simp; done)))))
      by_cases h1 : a ≥ (s.size : Int)
      · rw [decide_eq_true h1]
        by_cases h2 : a = (s.size : Int)
        · have e : decide (0 ≤ a ∧ a ≤ (s.size : Int)) = true := decide_eq_true (by omega)
          rw [e]
          refine Twin.of rfl specNo ?_
          (refine Ev.up ?_; simp only [impl_ReadValue.j0, decT])
          (repeat (first | with_reducible refine Ev.bindS ?_ | (with_reducible refine Ev.ifp ?_ ?_; (· first | omega | assumption | rfl | (simp only [List.length_map, List.length_replicate, List.length_take, List.length_drop, List.length_append, List.length_cons, List.length_nil, List.length_set]; omega) | (simp; done))) | (with_reducible refine Ev.ifn ?_ ?_; (· first | omega | assumption | rfl | (simp only [List.length_map, List.length_replicate, List.length_take, List.length_drop, List.length_append, List.length_cons, List.length_nil, List.length_set]; omega) | (simp; done)))))
          have hT : nm (s.extract a.toNat s.size) = [] := by rw [nm_tail]; exact List.drop_eq_nil_of_le (by rw [nm_length]; omega)
          refine Ev.bind (readValue_ev (s.extract a.toNat s.size) (by rw [← nm_length, hT]; simp)) ?_
          rw [hT]
          simp only [parse, implRes]
          (repeat (first | with_reducible refine Ev.bindS ?_ | (with_reducible refine Ev.ifp ?_ ?_; (· first | omega | assumption | rfl | (simp only [List.length_map, List.length_replicate, List.length_take, List.length_drop, List.length_append, List.length_cons, List.length_nil, List.length_set]; omega) | (simp; done))) | (with_reducible refine Ev.ifn ?_ ?_; (· first | omega | assumption | rfl | (simp only [List.length_map, List.length_replicate, List.length_take, List.length_drop, List.length_append, List.length_cons, List.length_nil, List.length_set]; omega) | (simp; done)))))
          exact Ev.val rfl
        · have e : decide (0 ≤ a ∧ a ≤ (s.size : Int)) = false := decide_eq_false (by omega)
          rw [e]
          exact Twin.of rfl specNo implNo
      · obtain ⟨i, rfl⟩ : ∃ i : Nat, a = (i : Int) := ⟨a.toNat, by omega⟩
        have e : decide (0 ≤ (i : Int) ∧ (i : Int) ≤ (s.size : Int)) = true := decide_eq_true (by omega)
        rw [e, decide_eq_false h1]
        refine Twin.up ?_
        simp only [spec_ReadValue.j0, impl_ReadValue.j0, Int.toNat_natCast]
        have hT : nm (s.extract i s.size) = (nm s).drop i := nm_tail s i
        have hsz : (s.extract i s.size).size ≤ 1048576 := by rw [← nm_length, hT, List.length_drop, nm_length]; omega
        have hr := readValue_ev _ hsz
        rw [hT] at hr
        (repeat (first | with_reducible refine Twin.bindSL ?_ | with_reducible refine Twin.bindSR ?_ | (with_reducible refine Twin.ifpL ?_ ?_; (· first | omega | assumption | rfl | (simp only [List.length_map, List.length_replicate, List.length_take, List.length_drop, List.length_append, List.length_cons, List.length_nil, List.length_set]; omega) | (simp; done))) | (with_reducible refine Twin.ifnL ?_ ?_; (· first | omega | assumption | rfl | (simp only [List.length_map, List.length_replicate, List.length_take, List.length_drop, List.length_append, List.length_cons, List.length_nil, List.length_set]; omega) | (simp; done))) | (with_reducible refine Twin.ifpR ?_ ?_; (· first | omega | assumption | rfl | (simp only [List.length_map, List.length_replicate, List.length_take, List.length_drop, List.length_append, List.length_cons, List.length_nil, List.length_set]; omega) | (simp; done))) | (with_reducible refine Twin.ifnR ?_ ?_; (· first | omega | assumption | rfl | (simp only [List.length_map, List.length_replicate, List.length_take, List.length_drop, List.length_append, List.length_cons, List.length_nil, List.length_set]; omega) | (simp; done)))))
        refine Twin.bindL (l4Read_ev s hs i (by omega)) (Twin.bindR hr ?_)
        cases hp : parse ((nm s).drop i) with
        | none =>
          simp only [specRes, implRes]
          (repeat (first | with_reducible refine Twin.bindSL ?_ | with_reducible refine Twin.bindSR ?_ | (with_reducible refine Twin.ifpL ?_ ?_; (· first | omega | assumption | rfl | (simp only [List.length_map, List.length_replicate, List.length_take, List.length_drop, List.length_append, List.length_cons, List.length_nil, List.length_set]; omega) | (simp; done))) | (with_reducible refine Twin.ifnL ?_ ?_; (· first | omega | assumption | rfl | (simp only [List.length_map, List.length_replicate, List.length_take, List.length_drop, List.length_append, List.length_cons, List.length_nil, List.length_set]; omega) | (simp; done))) | (with_reducible refine Twin.ifpR ?_ ?_; (· first | omega | assumption | rfl | (simp only [List.length_map, List.length_replicate, List.length_take, List.length_drop, List.length_append, List.length_cons, List.length_nil, List.length_set]; omega) | (simp; done))) | (with_reducible refine Twin.ifnR ?_ ?_; (· first | omega | assumption | rfl | (simp only [List.length_map, List.length_replicate, List.length_take, List.length_drop, List.length_append, List.length_cons, List.length_nil, List.length_set]; omega) | (simp; done)))))
          exact Twin.val rfl
        | some p =>
          have hl := parse_len hp
          rw [List.length_drop, nm_length] at hl
          simp only [specRes, implRes]
          (repeat (first | with_reducible refine Twin.bindSL ?_ | with_reducible refine Twin.bindSR ?_ | (with_reducible refine Twin.ifpL ?_ ?_; (· first | omega | assumption | rfl | (simp only [List.length_map, List.length_replicate, List.length_take, List.length_drop, List.length_append, List.length_cons, List.length_nil, List.length_set]; omega) | (simp; done))) | (with_reducible refine Twin.ifnL ?_ ?_; (· first | omega | assumption | rfl | (simp only [List.length_map, List.length_replicate, List.length_take, List.length_drop, List.length_append, List.length_cons, List.length_nil, List.length_set]; omega) | (simp; done))) | (with_reducible refine Twin.ifpR ?_ ?_; (· first | omega | assumption | rfl | (simp only [List.length_map, List.length_replicate, List.length_take, List.length_drop, List.length_append, List.length_cons, List.length_nil, List.length_set]; omega) | (simp; done))) | (with_reducible refine Twin.ifnR ?_ ?_; (· first | omega | assumption | rfl | (simp only [List.length_map, List.length_replicate, List.length_take, List.length_drop, List.length_append, List.length_cons, List.length_nil, List.length_set]; omega) | (simp; done)))))
          exact Twin.val (by rw [wrap_ok (n := (i : Int) + (p.2.2.2 : Int)) (by omega) (by omega)]; simp)
theorem eqValue_self (a b : Int) (c : ByteArray) : laws_eqValue.f a b c a b c = some true := by simp [laws_eqValue.f]
theorem FnExactReadValue : ∀ (a0 : ByteArray) (a1 : Int), a0.size ≤ 140737488351232 → (Lit.int .i64 a1).wf = true → ∃ k, laws_FnExactReadValue.f k a0 a1 = some true := by
  intro s a _ _
  refine Ev.rounds (g := fun k => laws_FnExactReadValue.f k s a) ?_
  simp only [laws_FnExactReadValue.f]
  by_cases h : (s.size : Int) > 1048576
  · (repeat (first | with_reducible refine Ev.bindS ?_ | (with_reducible refine Ev.ifp ?_ ?_; (· first | omega | assumption | rfl | (simp only [List.length_map, List.length_replicate, List.length_take, List.length_drop, List.length_append, List.length_cons, List.length_nil, List.length_set]; omega) | (simp; done))) | (with_reducible refine Ev.ifn ?_ ?_; (· first | omega | assumption | rfl | (simp only [List.length_map, List.length_replicate, List.length_take, List.length_drop, List.length_append, List.length_cons, List.length_nil, List.length_set]; omega) | (simp; done))))); exact Ev.val rfl
  · (repeat (first | with_reducible refine Ev.bindS ?_ | (with_reducible refine Ev.ifp ?_ ?_; (· first | omega | assumption | rfl | (simp only [List.length_map, List.length_replicate, List.length_take, List.length_drop, List.length_append, List.length_cons, List.length_nil, List.length_set]; omega) | (simp; done))) | (with_reducible refine Ev.ifn ?_ ?_; (· first | omega | assumption | rfl | (simp only [List.length_map, List.length_replicate, List.length_take, List.length_drop, List.length_append, List.length_cons, List.length_nil, List.length_set]; omega) | (simp; done)))))
    obtain ⟨x, y, hxy, h1, h2⟩ := readValue_twin s (by omega) a
    subst hxy
    refine Ev.bind h1 (Ev.bind h2 ?_)
    simp only [eqValue_self, bne_self_eq_false]
    (repeat (first | with_reducible refine Ev.bindS ?_ | (with_reducible refine Ev.ifp ?_ ?_; (· first | omega | assumption | rfl | (simp only [List.length_map, List.length_replicate, List.length_take, List.length_drop, List.length_append, List.length_cons, List.length_nil, List.length_set]; omega) | (simp; done))) | (with_reducible refine Ev.ifn ?_ ?_; (· first | omega | assumption | rfl | (simp only [List.length_map, List.length_replicate, List.length_take, List.length_drop, List.length_append, List.length_cons, List.length_nil, List.length_set]; omega) | (simp; done)))))
    exact Ev.val rfl
end Go.Proofs.Ytpfgjjbkcifpfaa.Pure
namespace Go.Proofs.Ytpfgjjbkcifpfaa.Pure
open Go.RowKit Go.Proofs.Ytpfgjjbkcifpfaa.Fn Go.Proofs.YtpfgjjbkcifpfaaW.PrintWords Go.Proofs.YtpfgjjbkcifpfaaW.PrintLast Go.Proofs.YtpfgjjbkcifpfaaW.PrintMore
set_option linter.unusedSimpArgs false
set_option linter.unusedVariables false

theorem rd23_at {l : List S23} {i : Nat} {x : S23} (h : l[i]? = some x) : rd_T23 l (i : Int) = x := getD_at h
theorem rd23_set {l : List S23} {i : Nat} {x : S23} (h : i < l.length) : rd_T23 (l.set i x) (i : Int) = x := rd23_at (by rw [List.getElem?_set_self h])
theorem tail_len {s : ByteArray} {i : Nat} {T : List Int} (h : (nm s).drop i = T) (hi : i ≤ s.size) : i + T.length = s.size := by
  have := drop_len h (by rw [nm_length]; exact hi)
  rw [nm_length] at this
  exact this
/-- Behind six values the one program still reads, but answers no more. -/
theorem spec_over (s : ByteArray) (hs : s.size ≤ 1048576) : ∀ (n i : Nat) (acc : List S23), s.size - i ≤ n → i ≤ s.size → 6 < acc.length → acc.length ≤ 7 + i →
    Ev (fun k => spec_ReadRow.l0 k s acc i) (([] : List S23), false) := by
  intro n
  induction n with
  | zero =>
    intro i acc hn hi ha hb
    (refine Ev.up ?_; simp only [spec_ReadRow.l0, decT])
    (repeat (first | with_reducible refine Ev.bindS ?_ | (with_reducible refine Ev.ifp ?_ ?_; (· first | omega | assumption | rfl | (simp only [List.length_map, List.length_replicate, List.length_take, List.length_drop, List.length_append, List.length_cons, List.length_nil, List.length_set]; omega) | (simp; done))) | (with_reducible refine Ev.ifn ?_ ?_; (· first | omega | assumption | rfl | (simp only [List.length_map, List.length_replicate, List.length_take, List.length_drop, List.length_append, List.length_cons, List.length_nil, List.length_set]; omega) | (simp; done)))))
    exact Ev.val rfl
  | succ n ih =>
    intro i acc hn hi ha hb
    by_cases hlt : i < s.size
    · (refine Ev.up ?_; simp only [spec_ReadRow.l0, decT])
      (repeat (first | with_reducible refine Ev.bindS ?_ | (with_reducible refine Ev.ifp ?_ ?_; (· first | omega | assumption | rfl | (simp only [List.length_map, List.length_replicate, List.length_take, List.length_drop, List.length_append, List.length_cons, List.length_nil, List.length_set]; omega) | (simp; done))) | (with_reducible refine Ev.ifn ?_ ?_; (· first | omega | assumption | rfl | (simp only [List.length_map, List.length_replicate, List.length_take, List.length_drop, List.length_append, List.length_cons, List.length_nil, List.length_set]; omega) | (simp; done)))))
      refine Ev.bind (l4Read_ev s hs i hlt) ?_
      cases hp : parse ((nm s).drop i) with
      | none => simp only [specRes]; (repeat (first | with_reducible refine Ev.bindS ?_ | (with_reducible refine Ev.ifp ?_ ?_; (· first | omega | assumption | rfl | (simp only [List.length_map, List.length_replicate, List.length_take, List.length_drop, List.length_append, List.length_cons, List.length_nil, List.length_set]; omega) | (simp; done))) | (with_reducible refine Ev.ifn ?_ ?_; (· first | omega | assumption | rfl | (simp only [List.length_map, List.length_replicate, List.length_take, List.length_drop, List.length_append, List.length_cons, List.length_nil, List.length_set]; omega) | (simp; done))))); exact Ev.val rfl
      | some p =>
        have hl := parse_len hp
        rw [List.length_drop, nm_length] at hl
        simp only [specRes]
        (repeat (first | with_reducible refine Ev.bindS ?_ | (with_reducible refine Ev.ifp ?_ ?_; (· first | omega | assumption | rfl | (simp only [List.length_map, List.length_replicate, List.length_take, List.length_drop, List.length_append, List.length_cons, List.length_nil, List.length_set]; omega) | (simp; done))) | (with_reducible refine Ev.ifn ?_ ?_; (· first | omega | assumption | rfl | (simp only [List.length_map, List.length_replicate, List.length_take, List.length_drop, List.length_append, List.length_cons, List.length_nil, List.length_set]; omega) | (simp; done)))))
        refine ih (i + p.2.2.2) _ (by omega) (by omega) ?_ ?_
        · simp; omega
        · simp; omega
    · (refine Ev.up ?_; simp only [spec_ReadRow.l0, decT])
      (repeat (first | with_reducible refine Ev.bindS ?_ | (with_reducible refine Ev.ifp ?_ ?_; (· first | omega | assumption | rfl | (simp only [List.length_map, List.length_replicate, List.length_take, List.length_drop, List.length_append, List.length_cons, List.length_nil, List.length_set]; omega) | (simp; done))) | (with_reducible refine Ev.ifn ?_ ?_; (· first | omega | assumption | rfl | (simp only [List.length_map, List.length_replicate, List.length_take, List.length_drop, List.length_append, List.length_cons, List.length_nil, List.length_set]; omega) | (simp; done)))))
      exact Ev.val rfl
def RowsAs (x y : List S23 × Bool) : Prop := x = y ∧ x.1.length ≤ 6
theorem row_twin (s : ByteArray) (hs : s.size ≤ 1048576) : ∀ (n i : Nat) (u : ByteArray) (acc : List S23), s.size - i ≤ n → i ≤ s.size → nm u = (nm s).drop i → acc.length ≤ 6 → acc.length ≤ i →
    Twin RowsAs (fun k => spec_ReadRow.l0 k s acc i) (fun k => impl_ReadRow.l0 k u acc) := by
  intro n
  induction n with
  | zero =>
    intro i u acc hn hi hu ha hb
    have e : nm u = [] := by rw [hu]; exact List.drop_eq_nil_of_le (by rw [nm_length]; omega)
    refine Twin.up ?_
    simp only [spec_ReadRow.l0, impl_ReadRow.l0, toList_nil]
    (repeat (first | with_reducible refine Twin.bindSL ?_ | with_reducible refine Twin.bindSR ?_ | (with_reducible refine Twin.ifpL ?_ ?_; (· first | omega | assumption | rfl | (simp only [List.length_map, List.length_replicate, List.length_take, List.length_drop, List.length_append, List.length_cons, List.length_nil, List.length_set]; omega) | (simp; done))) | (with_reducible refine Twin.ifnL ?_ ?_; (· first | omega | assumption | rfl | (simp only [List.length_map, List.length_replicate, List.length_take, List.length_drop, List.length_append, List.length_cons, List.length_nil, List.length_set]; omega) | (simp; done))) | (with_reducible refine Twin.ifpR ?_ ?_; (· first | omega | assumption | rfl | (simp only [List.length_map, List.length_replicate, List.length_take, List.length_drop, List.length_append, List.length_cons, List.length_nil, List.length_set]; omega) | (simp; done))) | (with_reducible refine Twin.ifnR ?_ ?_; (· first | omega | assumption | rfl | (simp only [List.length_map, List.length_replicate, List.length_take, List.length_drop, List.length_append, List.length_cons, List.length_nil, List.length_set]; omega) | (simp; done)))))
    exact Twin.val ⟨rfl, ha⟩
  | succ n ih =>
    intro i u acc hn hi hu ha hb
    have hul : u.size = s.size - i := by rw [← nm_length, hu, List.length_drop, nm_length]
    by_cases hlt : i < s.size
    · have hne : ¬ nm u = [] := by
        intro h
        have := congrArg List.length h
        rw [nm_length, List.length_nil] at this
        omega
      refine Twin.up ?_
      simp only [spec_ReadRow.l0, impl_ReadRow.l0, toList_nil]
      have hr := readValue_ev u (by omega)
      rw [hu] at hr
      (repeat (first | with_reducible refine Twin.bindSL ?_ | with_reducible refine Twin.bindSR ?_ | (with_reducible refine Twin.ifpL ?_ ?_; (· first | omega | assumption | rfl | (simp only [List.length_map, List.length_replicate, List.length_take, List.length_drop, List.length_append, List.length_cons, List.length_nil, List.length_set]; omega) | (simp; done))) | (with_reducible refine Twin.ifnL ?_ ?_; (· first | omega | assumption | rfl | (simp only [List.length_map, List.length_replicate, List.length_take, List.length_drop, List.length_append, List.length_cons, List.length_nil, List.length_set]; omega) | (simp; done))) | (with_reducible refine Twin.ifpR ?_ ?_; (· first | omega | assumption | rfl | (simp only [List.length_map, List.length_replicate, List.length_take, List.length_drop, List.length_append, List.length_cons, List.length_nil, List.length_set]; omega) | (simp; done))) | (with_reducible refine Twin.ifnR ?_ ?_; (· first | omega | assumption | rfl | (simp only [List.length_map, List.length_replicate, List.length_take, List.length_drop, List.length_append, List.length_cons, List.length_nil, List.length_set]; omega) | (simp; done)))))
      refine Twin.bindL (l4Read_ev s hs i hlt) (Twin.bindR hr ?_)
      cases hp : parse ((nm s).drop i) with
      | none =>
        simp only [specRes, implRes]
        (repeat (first | with_reducible refine Twin.bindSL ?_ | with_reducible refine Twin.bindSR ?_ | (with_reducible refine Twin.ifpL ?_ ?_; (· first | omega | assumption | rfl | (simp only [List.length_map, List.length_replicate, List.length_take, List.length_drop, List.length_append, List.length_cons, List.length_nil, List.length_set]; omega) | (simp; done))) | (with_reducible refine Twin.ifnL ?_ ?_; (· first | omega | assumption | rfl | (simp only [List.length_map, List.length_replicate, List.length_take, List.length_drop, List.length_append, List.length_cons, List.length_nil, List.length_set]; omega) | (simp; done))) | (with_reducible refine Twin.ifpR ?_ ?_; (· first | omega | assumption | rfl | (simp only [List.length_map, List.length_replicate, List.length_take, List.length_drop, List.length_append, List.length_cons, List.length_nil, List.length_set]; omega) | (simp; done))) | (with_reducible refine Twin.ifnR ?_ ?_; (· first | omega | assumption | rfl | (simp only [List.length_map, List.length_replicate, List.length_take, List.length_drop, List.length_append, List.length_cons, List.length_nil, List.length_set]; omega) | (simp; done)))))
        exact Twin.val ⟨rfl, by simp⟩
      | some p =>
        have hl := parse_len hp
        rw [List.length_drop, nm_length] at hl
        simp only [specRes, implRes]
        by_cases h6 : acc.length = 6
        · (repeat (first | with_reducible refine Twin.bindSL ?_ | with_reducible refine Twin.bindSR ?_ | (with_reducible refine Twin.ifpL ?_ ?_; (· first | omega | assumption | rfl | (simp only [List.length_map, List.length_replicate, List.length_take, List.length_drop, List.length_append, List.length_cons, List.length_nil, List.length_set]; omega) | (simp; done))) | (with_reducible refine Twin.ifnL ?_ ?_; (· first | omega | assumption | rfl | (simp only [List.length_map, List.length_replicate, List.length_take, List.length_drop, List.length_append, List.length_cons, List.length_nil, List.length_set]; omega) | (simp; done))) | (with_reducible refine Twin.ifpR ?_ ?_; (· first | omega | assumption | rfl | (simp only [List.length_map, List.length_replicate, List.length_take, List.length_drop, List.length_append, List.length_cons, List.length_nil, List.length_set]; omega) | (simp; done))) | (with_reducible refine Twin.ifnR ?_ ?_; (· first | omega | assumption | rfl | (simp only [List.length_map, List.length_replicate, List.length_take, List.length_drop, List.length_append, List.length_cons, List.length_nil, List.length_set]; omega) | (simp; done)))))
          refine Twin.of (a := ([], false)) (b := ([], false)) ⟨rfl, by simp⟩ ?_ (Ev.val rfl)
          refine spec_over s hs n (i + p.2.2.2) _ (by omega) (by omega) ?_ ?_
          · simp; omega
          · simp; omega
        · (repeat (first | with_reducible refine Twin.bindSL ?_ | with_reducible refine Twin.bindSR ?_ | (with_reducible refine Twin.ifpL ?_ ?_; (· first | omega | assumption | rfl | (simp only [List.length_map, List.length_replicate, List.length_take, List.length_drop, List.length_append, List.length_cons, List.length_nil, List.length_set]; omega) | (simp; done))) | (with_reducible refine Twin.ifnL ?_ ?_; (· first | omega | assumption | rfl | (simp only [List.length_map, List.length_replicate, List.length_take, List.length_drop, List.length_append, List.length_cons, List.length_nil, List.length_set]; omega) | (simp; done))) | (with_reducible refine Twin.ifpR ?_ ?_; (· first | omega | assumption | rfl | (simp only [List.length_map, List.length_replicate, List.length_take, List.length_drop, List.length_append, List.length_cons, List.length_nil, List.length_set]; omega) | (simp; done))) | (with_reducible refine Twin.ifnR ?_ ?_; (· first | omega | assumption | rfl | (simp only [List.length_map, List.length_replicate, List.length_take, List.length_drop, List.length_append, List.length_cons, List.length_nil, List.length_set]; omega) | (simp; done)))))
          rw [Int.toNat_natCast]
          refine ih (i + p.2.2.2) _ _ (by omega) (by omega) ?_ ?_ ?_
          · rw [nm_tail, hu, List.drop_drop]
          · simp; omega
          · simp; omega
    · have e : nm u = [] := by rw [hu]; exact List.drop_eq_nil_of_le (by rw [nm_length]; omega)
      refine Twin.up ?_
      simp only [spec_ReadRow.l0, impl_ReadRow.l0, toList_nil]
      (repeat (first | with_reducible refine Twin.bindSL ?_ | with_reducible refine Twin.bindSR ?_ | (with_reducible refine Twin.ifpL ?_ ?_; (· first | omega | assumption | rfl | (simp only [List.length_map, List.length_replicate, List.length_take, List.length_drop, List.length_append, List.length_cons, List.length_nil, List.length_set]; omega) | (simp; done))) | (with_reducible refine Twin.ifnL ?_ ?_; (· first | omega | assumption | rfl | (simp only [List.length_map, List.length_replicate, List.length_take, List.length_drop, List.length_append, List.length_cons, List.length_nil, List.length_set]; omega) | (simp; done))) | (with_reducible refine Twin.ifpR ?_ ?_; (· first | omega | assumption | rfl | (simp only [List.length_map, List.length_replicate, List.length_take, List.length_drop, List.length_append, List.length_cons, List.length_nil, List.length_set]; omega) | (simp; done))) | (with_reducible refine Twin.ifnR ?_ ?_; (· first | omega | assumption | rfl | (simp only [List.length_map, List.length_replicate, List.length_take, List.length_drop, List.length_append, List.length_cons, List.length_nil, List.length_set]; omega) | (simp; done)))))
      exact Twin.val ⟨rfl, ha⟩
theorem readRow_twin (s : ByteArray) (hs : s.size ≤ 1048576) : Twin RowsAs (fun k => spec_ReadRow.f k s) (fun k => impl_ReadRow.f k s) := by
  simp only [spec_ReadRow.f, impl_ReadRow.f]
  refine Twin.if2 Iff.rfl (fun _ => Twin.val ⟨rfl, by simp⟩) (fun _ => ?_)
  exact row_twin s hs s.size 0 s [] (by omega) (by omega) rfl (by simp) (by simp)
theorem eqs_ev (l : List S23) (hl : l.length ≤ 1048576) : Ev (fun k => laws_eqValueS.f k l l) true := by
  have h := all_ev (fun k i => laws_eqValueS.l0 k l l i) l.length true ?_ ?_
  · simp only [laws_eqValueS.f]
    (repeat (first | with_reducible refine Ev.bindS ?_ | (with_reducible refine Ev.ifp ?_ ?_; (· first | omega | assumption | rfl | (simp only [List.length_map, List.length_replicate, List.length_take, List.length_drop, List.length_append, List.length_cons, List.length_nil, List.length_set]; omega) | (simp; done))) | (with_reducible refine Ev.ifn ?_ ?_; (· first | omega | assumption | rfl | (simp only [List.length_map, List.length_replicate, List.length_take, List.length_drop, List.length_append, List.length_cons, List.length_nil, List.length_set]; omega) | (simp; done)))))
    exact h
  · intro k
    simp only [laws_eqValueS.l0]
    rw [if_neg (by omega)]
  · intro i hi
    refine ⟨0, fun k _ => ?_⟩
    simp only [laws_eqValueS.l0]
    rw [if_pos (by omega), if_pos (by omega), if_pos (by omega), eqValue_self, Option.bind_some, wrap_succ (by omega)]
    rfl
theorem markText_ev (d : Nat) : ∀ (a : Int) (acc : ByteArray), 0 ≤ a → a < 2 ^ d → a ≤ 9223372036854775807 → acc.size + d ≤ 1000 → ∃ t, Ev (fun k => laws_markText.l0 k a acc) t := by
  induction d with
  | zero =>
    intro a acc h0 h1 _ hs
    refine ⟨(⟨#[109]⟩ : ByteArray) ++ acc, ?_⟩
    (refine Ev.up ?_; simp only [laws_markText.l0, decT])
    (repeat (first | with_reducible refine Ev.bindS ?_ | (with_reducible refine Ev.ifp ?_ ?_; (· first | omega | assumption | rfl | (simp only [List.length_map, List.length_replicate, List.length_take, List.length_drop, List.length_append, List.length_cons, List.length_nil, List.length_set]; omega) | (simp; done))) | (with_reducible refine Ev.ifn ?_ ?_; (· first | omega | assumption | rfl | (simp only [List.length_map, List.length_replicate, List.length_take, List.length_drop, List.length_append, List.length_cons, List.length_nil, List.length_set]; omega) | (simp; done)))))
    exact Ev.val rfl
  | succ d ih =>
    intro a acc h0 h1 h2 hs
    by_cases hz : a > 0
    · have e : wrap64 (Int.tdiv a 10) = a / 10 := by rw [Int.tdiv_eq_ediv_of_nonneg h0, wrap_ok (by omega) (by omega)]
      obtain ⟨t, ht⟩ := ih (a / 10) (strOfNums [(wrap64 (48 + (Int.tmod a 10))) % 256] ++ acc) (by omega) (by rw [Int.pow_succ] at h1; omega) (by omega) (by rw [ByteArray.size_append, strOfNums_size]; simp; omega)
      refine ⟨t, ?_⟩
      have hz1 : (strOfNums [(wrap64 (48 + (Int.tmod a 10))) % 256]).size = 1 := by rw [strOfNums_size]; rfl
      (refine Ev.up ?_; simp only [laws_markText.l0, decT])
      rw [e]
      (repeat (first | with_reducible refine Ev.bindS ?_ | (with_reducible refine Ev.ifp ?_ ?_; (· first | omega | assumption | rfl | (simp only [List.length_map, List.length_replicate, List.length_take, List.length_drop, List.length_append, List.length_cons, List.length_nil, List.length_set]; omega) | (simp; done))) | (with_reducible refine Ev.ifn ?_ ?_; (· first | omega | assumption | rfl | (simp only [List.length_map, List.length_replicate, List.length_take, List.length_drop, List.length_append, List.length_cons, List.length_nil, List.length_set]; omega) | (simp; done)))))
      exact ht
    · refine ⟨(⟨#[109]⟩ : ByteArray) ++ acc, ?_⟩
      (refine Ev.up ?_; simp only [laws_markText.l0, decT])
      (repeat (first | with_reducible refine Ev.bindS ?_ | (with_reducible refine Ev.ifp ?_ ?_; (· first | omega | assumption | rfl | (simp only [List.length_map, List.length_replicate, List.length_take, List.length_drop, List.length_append, List.length_cons, List.length_nil, List.length_set]; omega) | (simp; done))) | (with_reducible refine Ev.ifn ?_ ?_; (· first | omega | assumption | rfl | (simp only [List.length_map, List.length_replicate, List.length_take, List.length_drop, List.length_append, List.length_cons, List.length_nil, List.length_set]; omega) | (simp; done)))))
      exact Ev.val rfl
theorem markText_fn : ∃ M : Int → ByteArray, ∀ c : Int, 0 < c → c ≤ 1000000 → Ev (fun k => laws_markText.f k c) (M c) := by
  have : ∀ c : Int, ∃ t, 0 < c → c ≤ 1000000 → Ev (fun k => laws_markText.f k c) t := by
    intro c
    by_cases h : 0 < c ∧ c ≤ 1000000
    · obtain ⟨t, ht⟩ := markText_ev 63 c e0 (by omega) (by omega) (by omega) (by show 0 + 63 ≤ 1000; omega)
      refine ⟨t, fun _ _ => ?_⟩
      simp only [laws_markText.f]
      (repeat (first | with_reducible refine Ev.bindS ?_ | (with_reducible refine Ev.ifp ?_ ?_; (· first | omega | assumption | rfl | (simp only [List.length_map, List.length_replicate, List.length_take, List.length_drop, List.length_append, List.length_cons, List.length_nil, List.length_set]; omega) | (simp; done))) | (with_reducible refine Ev.ifn ?_ ?_; (· first | omega | assumption | rfl | (simp only [List.length_map, List.length_replicate, List.length_take, List.length_drop, List.length_append, List.length_cons, List.length_nil, List.length_set]; omega) | (simp; done)))))
      exact ht
    · exact ⟨e0, fun h1 h2 => absurd ⟨h1, h2⟩ h⟩
  obtain ⟨M, hM⟩ := Classical.skolem.1 this
  exact ⟨M, hM⟩
theorem marked (l : List S23) (hl : l.length ≤ 1000) : ∃ l' : List S23, Ev (fun k => laws_markValueS.f k l 1) (1 + 3 * (l.length : Int), l') ∧ Ev (fun k => laws_heldValueS.f k l' 1) (1 + 3 * (l.length : Int)) := by
  obtain ⟨M, hM⟩ := markText_fn
  have w1 : ∀ i : Nat, i < 1000 → wrap64 (1 + 3 * (i : Int) + 1) = 1 + 3 * (i : Int) + 1 := fun i h => wrap_ok (by omega) (by omega)
  have w2 : ∀ i : Nat, i < 1000 → wrap64 (1 + 3 * (i : Int) + 1 + 1) = 1 + 3 * (i : Int) + 1 + 1 := fun i h => wrap_ok (by omega) (by omega)
  have w3 : ∀ i : Nat, i < 1000 → wrap64 (1 + 3 * (i : Int) + 1 + 1 + 1) = 1 + 3 * ((i + 1 : Nat) : Int) := fun i h => by rw [wrap_ok (by omega) (by omega)]; omega
  refine ⟨l.mapIdx (fun i _ => ⟨1 + 3 * (i : Int), 1 + 3 * (i : Int) + 1, M (1 + 3 * (i : Int) + 1 + 1)⟩), ?_, ?_⟩
  · have := mark_ev (fun k x c i => laws_markValueS.l0 k x c i) (fun i => 1 + 3 * (i : Int)) (fun i _ => (⟨1 + 3 * (i : Int), 1 + 3 * (i : Int) + 1, M (1 + 3 * (i : Int) + 1 + 1)⟩ : S23)) l ?_ ?_
    · exact this
    · intro k x hx
      simp only [laws_markValueS.l0]
      rw [if_neg (by omega)]
    · intro i y hy
      have hlt : i < l.length := (List.getElem?_eq_some_iff.1 hy).1
      obtain ⟨K, hK⟩ := hM (1 + 3 * (i : Int) + 1 + 1) (by omega) (by omega)
      refine ⟨K, fun k x hk hx hxy => ?_⟩
      have hK := hK k hk
      dsimp only at hK
      simp only [laws_markValueS.l0]
      rw [if_pos (by omega), if_pos (by omega), w1 i (by omega), w2 i (by omega), w3 i (by omega), hK, wrap_succ (by omega)]
      simp only [Option.bind_some, Int.toNat_natCast]
      rw [rd23_set (by omega), rd23_set (by simp; omega)]
      simp only [List.set_set]
  · have := all_ev (fun k i => laws_heldValueS.l0 k (l.mapIdx (fun i _ => (⟨1 + 3 * (i : Int), 1 + 3 * (i : Int) + 1, M (1 + 3 * (i : Int) + 1 + 1)⟩ : S23))) (1 + 3 * i) i) l.length (1 + 3 * (l.length : Int)) ?_ ?_
    · exact this
    · intro k
      simp only [laws_heldValueS.l0]
      rw [if_neg (by simp)]
    · intro i hi
      obtain ⟨K, hK⟩ := hM (1 + 3 * (i : Int) + 1 + 1) (by omega) (by omega)
      refine ⟨K, fun k hk => ?_⟩
      have hK := hK k hk
      dsimp only at hK
      have hat : rd_T23 (l.mapIdx (fun i _ => (⟨1 + 3 * (i : Int), 1 + 3 * (i : Int) + 1, M (1 + 3 * (i : Int) + 1 + 1)⟩ : S23))) (i : Int) = ⟨1 + 3 * (i : Int), 1 + 3 * (i : Int) + 1, M (1 + 3 * (i : Int) + 1 + 1)⟩ := rd23_at (by simp [hi])
      simp only [laws_heldValueS.l0, hat]
      rw [if_pos (by simp; omega), if_pos (by omega), if_pos trivial, w1 i (by omega), if_pos rfl, w2 i (by omega), w3 i (by omega), hK, Option.bind_some, if_pos rfl, wrap_succ (by omega)]
theorem FnExactReadRow : ∀ (a0 : ByteArray), a0.size ≤ 140737488351232 → ∃ k, laws_FnExactReadRow.f k a0 = some true := by
  intro s _
  refine Ev.rounds (g := fun k => laws_FnExactReadRow.f k s) ?_
  simp only [laws_FnExactReadRow.f]
  by_cases h : (s.size : Int) > 1048576
  · (repeat (first | with_reducible refine Ev.bindS ?_ | (with_reducible refine Ev.ifp ?_ ?_; (· first | omega | assumption | rfl | (simp only [List.length_map, List.length_replicate, List.length_take, List.length_drop, List.length_append, List.length_cons, List.length_nil, List.length_set]; omega) | (simp; done))) | (with_reducible refine Ev.ifn ?_ ?_; (· first | omega | assumption | rfl | (simp only [List.length_map, List.length_replicate, List.length_take, List.length_drop, List.length_append, List.length_cons, List.length_nil, List.length_set]; omega) | (simp; done))))); exact Ev.val rfl
  · (repeat (first | with_reducible refine Ev.bindS ?_ | (with_reducible refine Ev.ifp ?_ ?_; (· first | omega | assumption | rfl | (simp only [List.length_map, List.length_replicate, List.length_take, List.length_drop, List.length_append, List.length_cons, List.length_nil, List.length_set]; omega) | (simp; done))) | (with_reducible refine Ev.ifn ?_ ?_; (· first | omega | assumption | rfl | (simp only [List.length_map, List.length_replicate, List.length_take, List.length_drop, List.length_append, List.length_cons, List.length_nil, List.length_set]; omega) | (simp; done)))))
    obtain ⟨x, y, ⟨hxy, hx6⟩, h1, h2⟩ := readRow_twin s (by omega)
    subst hxy
    obtain ⟨l', hm, hh⟩ := marked x.1 (by omega)
    refine Ev.bind h1 (Ev.bind h2 (Ev.bind (eqs_ev x.1 (by omega)) ?_))
    simp only [bne_self_eq_false]
    (repeat (first | with_reducible refine Ev.bindS ?_ | (with_reducible refine Ev.ifp ?_ ?_; (· first | omega | assumption | rfl | (simp only [List.length_map, List.length_replicate, List.length_take, List.length_drop, List.length_append, List.length_cons, List.length_nil, List.length_set]; omega) | (simp; done))) | (with_reducible refine Ev.ifn ?_ ?_; (· first | omega | assumption | rfl | (simp only [List.length_map, List.length_replicate, List.length_take, List.length_drop, List.length_append, List.length_cons, List.length_nil, List.length_set]; omega) | (simp; done)))))
    (refine Ev.up ?_; simp only [laws_FnExactReadRow.j0, decT])
    (repeat (first | with_reducible refine Ev.bindS ?_ | (with_reducible refine Ev.ifp ?_ ?_; (· first | omega | assumption | rfl | (simp only [List.length_map, List.length_replicate, List.length_take, List.length_drop, List.length_append, List.length_cons, List.length_nil, List.length_set]; omega) | (simp; done))) | (with_reducible refine Ev.ifn ?_ ?_; (· first | omega | assumption | rfl | (simp only [List.length_map, List.length_replicate, List.length_take, List.length_drop, List.length_append, List.length_cons, List.length_nil, List.length_set]; omega) | (simp; done)))))
    refine Ev.bind hm (Ev.bind hh ?_)
    (repeat (first | with_reducible refine Ev.bindS ?_ | (with_reducible refine Ev.ifp ?_ ?_; (· first | omega | assumption | rfl | (simp only [List.length_map, List.length_replicate, List.length_take, List.length_drop, List.length_append, List.length_cons, List.length_nil, List.length_set]; omega) | (simp; done))) | (with_reducible refine Ev.ifn ?_ ?_; (· first | omega | assumption | rfl | (simp only [List.length_map, List.length_replicate, List.length_take, List.length_drop, List.length_append, List.length_cons, List.length_nil, List.length_set]; omega) | (simp; done)))))
    refine Ev.bind h2 (Ev.bind (eqs_ev x.1 (by omega)) ?_)
    simp only [bne_self_eq_false]
    (repeat (first | with_reducible refine Ev.bindS ?_ | (with_reducible refine Ev.ifp ?_ ?_; (· first | omega | assumption | rfl | (simp only [List.length_map, List.length_replicate, List.length_take, List.length_drop, List.length_append, List.length_cons, List.length_nil, List.length_set]; omega) | (simp; done))) | (with_reducible refine Ev.ifn ?_ ?_; (· first | omega | assumption | rfl | (simp only [List.length_map, List.length_replicate, List.length_take, List.length_drop, List.length_append, List.length_cons, List.length_nil, List.length_set]; omega) | (simp; done)))))
    (refine Ev.up ?_; simp only [laws_FnExactReadRow.j1, decT])
    (repeat (first | with_reducible refine Ev.bindS ?_ | (with_reducible refine Ev.ifp ?_ ?_; (· first | omega | assumption | rfl | (simp only [List.length_map, List.length_replicate, List.length_take, List.length_drop, List.length_append, List.length_cons, List.length_nil, List.length_set]; omega) | (simp; done))) | (with_reducible refine Ev.ifn ?_ ?_; (· first | omega | assumption | rfl | (simp only [List.length_map, List.length_replicate, List.length_take, List.length_drop, List.length_append, List.length_cons, List.length_nil, List.length_set]; omega) | (simp; done)))))
    refine Ev.bind hh ?_
    (repeat (first | with_reducible refine Ev.bindS ?_ | (with_reducible refine Ev.ifp ?_ ?_; (· first | omega | assumption | rfl | (simp only [List.length_map, List.length_replicate, List.length_take, List.length_drop, List.length_append, List.length_cons, List.length_nil, List.length_set]; omega) | (simp; done))) | (with_reducible refine Ev.ifn ?_ ?_; (· first | omega | assumption | rfl | (simp only [List.length_map, List.length_replicate, List.length_take, List.length_drop, List.length_append, List.length_cons, List.length_nil, List.length_set]; omega) | (simp; done)))))
    exact Ev.val rfl
end Go.Proofs.Ytpfgjjbkcifpfaa.Pure
namespace Go.Proofs.Ytpfgjjbkcifpfaa.OpenA
open Go.RowKit Go.Deep Go.ChangeShapes Go.Joins Go.Proofs.YtpfgjjbkcifpfaaW Go.Proofs.YtpfgjjbkcifpfaaW.PrintWords

/-- What can be read as data of type t can be read as kind d, and is well formed. -/
def Op (P : Program) (t : TypeId) {α : Type} (d : Kd α) (Wf : α → Prop) : Prop :=
  ∀ {H : Type} {enc : TypeId × Value → H} {w : World} {base : Nat} {spare : Nat → Bool} {held : Bool} {fuel : Nat} {cs : List Value} {x : DataW H × List MemPlace},
    DataW.trod enc P w base spare held fuel t cs = some x → ∃ a : α, d.K w a cs ∧ Wf a

variable {P : Program} {t e : TypeId}

theorem op_int {k : IntKind} (hu : P.underlying t = some (.int k)) : Op P t (Kd.int k) (fun n => (Lit.int k n).wf = true) := by
  intro H enc w base spare held fuel cs x h
  obtain ⟨n, rfl, _, hw⟩ := DataW.trod_int hu h
  exact ⟨n, rfl, hw⟩
theorem op_bool (hu : P.underlying t = some .bool) : Op P t Kd.bool (fun _ => True) := by
  intro H enc w base spare held fuel cs x h
  obtain ⟨b, rfl, _⟩ := DataW.trod_bool hu h
  exact ⟨b, rfl, trivial⟩
theorem op_string (hu : P.underlying t = some .string) : Op P t Kd.string (fun s => s.size ≤ maxLen) := by
  intro H enc w base spare held fuel cs x h
  obtain ⟨s, rfl, _, hs⟩ := DataW.trod_string hu h
  exact ⟨s, rfl, hs⟩
theorem cells_of {w : World} {base : Nat} {a : Addr} {n : Nat} {cs : List Value} (h : w.cells? base a n = some cs) : cs.length = n ∧ ∀ j u, cs[j]? = some u → w.cell? (a.add j) = some u := by
  unfold World.cells? at h
  split at h
  · have hl := mapM_some_length h
    refine ⟨by simpa using hl, fun j u hj => ?_⟩
    have hlt : j < n := by
      have := (List.getElem?_eq_some_iff.1 hj).1
      have : cs.length = n := by simpa using hl
      omega
    have := mapM_some_get h j j (by simp [hlt])
    rw [hj] at this
    exact this
  · simp at h
theorem op_slice {α : Type} {d : Kd α} {Wf : α → Prop} (hu : P.underlying t = some (.slice e)) (hc : P.cellsOf e = d.sz) (h : Op P e d Wf) :
    Op P t (Kd.slice e d) (fun xs => xs.length ≤ maxLen ∧ ∀ x ∈ xs, Wf x) := by
  intro H enc w base spare held fuel cs x hf
  rcases open_slice hu hf with ⟨rfl, _⟩ | ⟨a, len, cap, m, n, D, Pl, rfl, _, hl, hm, hmm, hxe, hall⟩
  · exact ⟨[], ⟨none, 0, rfl, Nat.le_refl _, rfl, by simp, fun h => absurd h (by simp)⟩, by simp, by simp⟩
  · have hlm : len ≤ m := by rw [hmm]; split <;> omega
    have hx : ∀ i, i < len → ∃ y : α × List Value, w.cells? base (a.add (i * P.cellsOf e)) (P.cellsOf e) = some y.2 ∧ d.K w y.1 y.2 ∧ Wf y.1 := by
      intro i hi
      obtain ⟨cs', h1, h2⟩ := hall i (by omega)
      obtain ⟨y, h3, h4⟩ := h h2
      exact ⟨⟨y, cs'⟩, h1, h3, h4⟩
    have hx' : ∃ ys : List (α × List Value), ys.length = len ∧ ∀ i y, ys[i]? = some y → w.cells? base (a.add (i * P.cellsOf e)) (P.cellsOf e) = some y.2 ∧ d.K w y.1 y.2 ∧ Wf y.1 := by
      clear hall hf hmm hlm hl hm hxe
      induction len with
      | zero => exact ⟨[], rfl, by simp⟩
      | succ len ih =>
        obtain ⟨ys, h1, h2⟩ := ih (fun i hi => hx i (by omega))
        obtain ⟨y, hy⟩ := hx len (by omega)
        refine ⟨ys ++ [y], by simp [h1], fun i z hz => ?_⟩
        rcases Nat.lt_or_ge i ys.length with hi | hi
        · rw [List.getElem?_append_left hi] at hz
          exact h2 i z hz
        · rw [List.getElem?_append_right hi] at hz
          have h0 : i - ys.length = 0 := by
            rcases Nat.eq_zero_or_pos (i - ys.length) with h0 | h0
            · exact h0
            · rw [List.getElem?_eq_none (by simp; omega)] at hz
              cases hz
          rw [h0] at hz
          have hz' : y = z := by simpa using hz
          have : i = len := by omega
          subst this
          subst hz'
          exact hy
    obtain ⟨ys, hl2, hys⟩ := hx'
    have hlen : (ys.map (·.1)).length = len := by simp [hl2]
    refine ⟨ys.map (·.1), ⟨some a, cap, by rw [hlen], by omega, ?_⟩, by simp only [maxLen] at *; omega, ?_⟩
    · refine ⟨rfl, by rw [hlen]; simp only [maxLen] at hm; omega, fun _ => ⟨a, rfl, fun j p hj => ?_⟩⟩
      rw [List.getElem?_map] at hj
      obtain ⟨y, hy, rfl⟩ := Option.map_eq_some_iff.1 hj
      obtain ⟨h1, h2, _⟩ := hys j y hy
      obtain ⟨h3, h4⟩ := cells_of h1
      refine ⟨y.2, by rw [h3, hc], h2, fun i u hu => ?_⟩
      have := h4 i u hu
      rw [PrintWords.add_add, hc] at this
      exact this
    · intro x hx
      obtain ⟨y, hy, rfl⟩ := List.mem_map.1 hx
      obtain ⟨i, hi⟩ := List.mem_iff_getElem?.1 hy
      exact (hys i y hi).2.2

theorem len1 {l : List Value} (h : l.length = 1) : ∃ a, l = [a] := by
  match l, h with
  | [a], _ => exact ⟨a, rfl⟩
theorem len2 {l : List Value} (h : l.length = 2) : ∃ a b, l = [a, b] := by
  match l, h with
  | [a, b], _ => exact ⟨a, b, rfl⟩
theorem len3 {l : List Value} (h : l.length = 3) : ∃ a b c, l = [a, b, c] := by
  match l, h with
  | [a, b, c], _ => exact ⟨a, b, c, rfl⟩
theorem len4 {l : List Value} (h : l.length = 4) : ∃ a b c d, l = [a, b, c, d] := by
  match l, h with
  | [a, b, c, d], _ => exact ⟨a, b, c, d, rfl⟩

theorem fields_of {H : Type} {enc : TypeId × Value → H} {w : World} {base : Nat} {spare : Nat → Bool} {held : Bool} {fuel : Nat} {cs : List Value} {x : DataW H × List MemPlace} {fs : Array Field}
    (hs : P.underlying t = some (.struct fs)) (hone : oneCellFields P fs = true) (hC : P.cellsOf t = fs.size) (h : DataW.trod enc P w base spare held fuel t cs = some x) :
    cs.length = fs.size ∧ ∃ n, ∀ (i : Nat) (f : Field) (v : Value), fs[i]? = some f → cs[i]? = some v → ∃ y, DataW.trod enc P w base spare held n f.type [v] = some y := by
  obtain ⟨xs, n, _, _, hl, hx, hf⟩ := DataW.trod_struct hs h
  refine ⟨hl.trans hC, n, fun i f v hi hv => ?_⟩
  have h1 := hf i f hi
  obtain ⟨h2, h3⟩ := hone_of hone i f hi
  have hlt : i < fs.size := (Array.getElem?_eq_some_iff.1 hi).1
  have h4 : xs[i]? = some (xs[i]'(by omega)) := List.getElem?_eq_getElem (by omega)
  have h5 : (cs.drop f.offset).take (P.cellsOf f.type) = [v] := by
    rw [h2, h3]
    have hlt2 : i < cs.length := by omega
    rw [List.getElem?_eq_getElem hlt2] at hv
    injection hv with hv
    rw [List.drop_eq_getElem_cons hlt2, hv]
    simp
  rw [h5, h4] at h1
  exact ⟨_, h1⟩

theorem op_struct1 {α S : Type} {d0 : Kd α} {W0 : α → Prop} {f0 : Field} {f : S → α} (mk : α → S) (hf : ∀ a, f (mk a) = a)
    (hs : P.underlying t = some (.struct #[f0])) (hone : oneCellFields P #[f0] = true) (hC : P.cellsOf t = 1) (h0 : Op P f0.type d0 W0) :
    Op P t (Kd.iso d0 f) (fun x => W0 (f x)) := by
  intro H enc w base spare held fuel cs x h
  obtain ⟨hl, n, hF⟩ := fields_of hs hone hC h
  obtain ⟨c0, rfl⟩ := len1 hl
  obtain ⟨y0, k0⟩ := hF 0 f0 c0 rfl rfl
  obtain ⟨a0, q0, w0⟩ := h0 k0
  exact ⟨mk a0, by show d0.K w (f (mk a0)) [c0]; rw [hf]; exact q0, by show W0 (f (mk a0)); rw [hf]; exact w0⟩
theorem op_struct2 {α β S : Type} {d0 : Kd α} {d1 : Kd β} {W0 : α → Prop} {W1 : β → Prop} {f0 f1 : Field} {f : S → α × β} (mk : α → β → S) (hf : ∀ a b, f (mk a b) = (a, b))
    (hs : P.underlying t = some (.struct #[f0, f1])) (hone : oneCellFields P #[f0, f1] = true) (hC : P.cellsOf t = 2) (h0 : Op P f0.type d0 W0) (h1 : Op P f1.type d1 W1) :
    Op P t (Kd.iso (Kd.pair d0 d1) f) (fun x => W0 (f x).1 ∧ W1 (f x).2) := by
  intro H enc w base spare held fuel cs x h
  obtain ⟨hl, n, hF⟩ := fields_of hs hone hC h
  obtain ⟨c0, c1, rfl⟩ := len2 hl
  obtain ⟨y0, k0⟩ := hF 0 f0 c0 rfl rfl
  obtain ⟨y1, k1⟩ := hF 1 f1 c1 rfl rfl
  obtain ⟨a0, q0, w0⟩ := h0 k0
  obtain ⟨a1, q1, w1⟩ := h1 k1
  exact ⟨mk a0 a1, ⟨[c0], [c1], rfl, by rw [hf]; exact q0, by rw [hf]; exact q1⟩, by dsimp only; rw [hf]; exact ⟨w0, w1⟩⟩
theorem op_struct3 {α β γ S : Type} {d0 : Kd α} {d1 : Kd β} {d2 : Kd γ} {W0 : α → Prop} {W1 : β → Prop} {W2 : γ → Prop} {f0 f1 f2 : Field} {f : S → α × β × γ} (mk : α → β → γ → S) (hf : ∀ a b c, f (mk a b c) = (a, b, c))
    (hs : P.underlying t = some (.struct #[f0, f1, f2])) (hone : oneCellFields P #[f0, f1, f2] = true) (hC : P.cellsOf t = 3) (h0 : Op P f0.type d0 W0) (h1 : Op P f1.type d1 W1) (h2 : Op P f2.type d2 W2) :
    Op P t (Kd.iso (Kd.pair d0 (Kd.pair d1 d2)) f) (fun x => W0 (f x).1 ∧ W1 (f x).2.1 ∧ W2 (f x).2.2) := by
  intro H enc w base spare held fuel cs x h
  obtain ⟨hl, n, hF⟩ := fields_of hs hone hC h
  obtain ⟨c0, c1, c2, rfl⟩ := len3 hl
  obtain ⟨y0, k0⟩ := hF 0 f0 c0 rfl rfl
  obtain ⟨y1, k1⟩ := hF 1 f1 c1 rfl rfl
  obtain ⟨y2, k2⟩ := hF 2 f2 c2 rfl rfl
  obtain ⟨a0, q0, w0⟩ := h0 k0
  obtain ⟨a1, q1, w1⟩ := h1 k1
  obtain ⟨a2, q2, w2⟩ := h2 k2
  exact ⟨mk a0 a1 a2, ⟨[c0], [c1, c2], rfl, by rw [hf]; exact q0, [c1], [c2], rfl, by rw [hf]; exact q1, by rw [hf]; exact q2⟩, by dsimp only; rw [hf]; exact ⟨w0, w1, w2⟩⟩
theorem op_struct4 {α β γ δ S : Type} {d0 : Kd α} {d1 : Kd β} {d2 : Kd γ} {d3 : Kd δ} {W0 : α → Prop} {W1 : β → Prop} {W2 : γ → Prop} {W3 : δ → Prop} {f0 f1 f2 f3 : Field} {f : S → α × β × γ × δ} (mk : α → β → γ → δ → S) (hf : ∀ a b c d, f (mk a b c d) = (a, b, c, d))
    (hs : P.underlying t = some (.struct #[f0, f1, f2, f3])) (hone : oneCellFields P #[f0, f1, f2, f3] = true) (hC : P.cellsOf t = 4) (h0 : Op P f0.type d0 W0) (h1 : Op P f1.type d1 W1) (h2 : Op P f2.type d2 W2) (h3 : Op P f3.type d3 W3) :
    Op P t (Kd.iso (Kd.pair d0 (Kd.pair d1 (Kd.pair d2 d3))) f) (fun x => W0 (f x).1 ∧ W1 (f x).2.1 ∧ W2 (f x).2.2.1 ∧ W3 (f x).2.2.2) := by
  intro H enc w base spare held fuel cs x h
  obtain ⟨hl, n, hF⟩ := fields_of hs hone hC h
  obtain ⟨c0, c1, c2, c3, rfl⟩ := len4 hl
  obtain ⟨y0, k0⟩ := hF 0 f0 c0 rfl rfl
  obtain ⟨y1, k1⟩ := hF 1 f1 c1 rfl rfl
  obtain ⟨y2, k2⟩ := hF 2 f2 c2 rfl rfl
  obtain ⟨y3, k3⟩ := hF 3 f3 c3 rfl rfl
  obtain ⟨a0, q0, w0⟩ := h0 k0
  obtain ⟨a1, q1, w1⟩ := h1 k1
  obtain ⟨a2, q2, w2⟩ := h2 k2
  obtain ⟨a3, q3, w3⟩ := h3 k3
  exact ⟨mk a0 a1 a2 a3, ⟨[c0], [c1, c2, c3], rfl, by rw [hf]; exact q0, [c1], [c2, c3], rfl, by rw [hf]; exact q1, [c2], [c3], rfl, by rw [hf]; exact q2, by rw [hf]; exact q3⟩, by dsimp only; rw [hf]; exact ⟨w0, w1, w2, w3⟩⟩

/-- A struct's value, by its list of cells. -/
theorem agg_of {cs : Array Value} {l : List Value} (h : cs.toList = l) : cs = l.toArray := by
  cases cs
  simp at h
  simp [h]
end Go.Proofs.Ytpfgjjbkcifpfaa.OpenA
namespace Go.Proofs.Ytpfgjjbkcifpfaa.fnExactReadRow
open Go.ChangeShapes Go.WideShapes Go.ChangeAt Go.RowKit Go.Proofs.Ytpfgjjbkcifpfaa.Fn Go.Proofs.YtpfgjjbkcifpfaaW.PrintWords Go.Proofs.Ytpfgjjbkcifpfaa.OpenA
open Go.ChangeMaps (open_string shut_string)
set_option linter.unusedVariables false
theorem own : ownKnob Try.prog.godebug = none := by kernel_rfl
set_option maxRecDepth 100000 in
theorem lifted (os : Os) (started : os.Started) (H : Type) (enc : TypeId × Value → H) :
    ReturnsInHanded {} Try.checked os 4 .any (Rows.fnExactReadRowSpec.pre6 enc Try.prog Try.f4 Rows.fnExactReadRowRow.domain false) (Rows.fnExactReadRowSpec.post enc Try.prog Try.f4 false true false false) := by
  refine returnsInHanded_of_change_sized (C := Try.checked) own started (by kernel_rfl) Try.func4
    (ChangeSpec.witness6 (enc := enc) (C := Try.checked) false ⟨#[], #[.string ByteArray.empty], []⟩ 8 (by kernel_rfl) (by kernel_rfl) (by kernel_rfl) (by kernel_rfl)) ?_
  intro W base args ds gs before hval0 hW hcnd hsz0 _
  have hsz : (DataW.weightsEach Try.prog (Try.f4.params.toList ++ Rows.fnExactReadRowSpec.plain.varTypes Try.prog) (ds ++ gs)).all (· ≤ reachBytes) = true := hsz0
  have hval : ∀ (j : Nat) t v, Try.f4.params[j]? = some t → args[j]? = some v → Value.okWide Try.prog W .any base t v := hval0
  have hW' := hW
  obtain ⟨p, q, hA0, hV, rfl, hfz, hnd⟩ := hW
  have hA : DataW.TrodAll enc Try.prog W 0 (fun _ => true) true Try.f4.params.toList args.toList ds p := hA0
  rw [Try.params4] at hA hval hsz
  obtain ⟨v0, vs0, d0, ds0, p0, q0, hargs, rfl, rfl, h0, r0⟩ := trodAll_cons hA
  obtain ⟨rfl, rfl, rfl⟩ := trodAll_nil r0
  obtain rfl : args = #[v0] := by cases args; simp_all
  obtain ⟨rfl, rfl⟩ := trodVars_none hV
  obtain ⟨a0, rfl, rfl, rfl, y0⟩ := open_string Try.underlying9 (hval 0 9 v0 rfl rfl) h0
  have w0 : a0.size ≤ 140737488351232 := by
    have z := sized_string hsz (j := 0) (t := 9) rfl rfl
    rw [Array.length_toList] at z
    exact z
  clear hA0 hval0 hsz0 hsz
  obtain ⟨k, h⟩ := Pure.FnExactReadRow a0 w0
  refine (laws_FnExactReadRow.calls k a0 true W  h rfl).mono fun e W' ⟨he, bel0⟩ => ?_
  have bel : Below W.heap.size W W' := bel0
  subst he
  exact ⟨_, rfl, _, _, _, [], _, [], hW', trodAll_mk1 (shut_bool Try.underlying4 _), (trodAll_cons_mk (shut_string Try.underlying9 y0) trodAll_mk0), rfl, bel.frame _, fun h => by cases h⟩
theorem over : Rows.fnExactReadRowRow.holds Try.pinned (OpenSpec.ofChange Rows.fnExactReadRowSpec) :=
  OpenClaim.holds_of_wide 4 Try.f4 rfl rfl rfl rfl rfl rfl rfl ⟨rfl, rfl, rfl, rfl, rfl⟩ rfl rfl rfl rfl rfl (by kernel_rfl) Try.func4 (by kernel_rfl)
    (of_decide_eq_true (by kernel_rfl)) (by unfold Func.isWrapper; first | (rw [if_pos (by decide +kernel)]; kernel_rfl) | (rw [if_neg (by decide +kernel)]; exact ⟨rfl, rfl⟩))
    (fun os started H enc _ => lifted os started H enc)
theorem proved : Rows.FnExactReadRowSaid := over
#print axioms proved
end Go.Proofs.Ytpfgjjbkcifpfaa.fnExactReadRow
namespace Go.Proofs.Ytpfgjjbkcifpfaa
/-- The row, under a short name, for the claim. -/
theorem fnExactReadRow_holds : Rows.FnExactReadRowSaid := fnExactReadRow.proved
end Go.Proofs.Ytpfgjjbkcifpfaa
