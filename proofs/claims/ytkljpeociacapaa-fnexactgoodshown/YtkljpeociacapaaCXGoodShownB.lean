/- The law FnExactGoodShown holds of the given program: at every input it answers true and leaves its arguments as they were; no condition. -/
import Derived.Test.YtkljpeociacapaaWWords
import Derived.Test.YtkljpeociacapaaWMore
import Derived.OpenShut
import Derived.WideShapes
import Derived.Lib.Strings
import Derived.Laws.BitsLemmas
import Derived.Laws.BytesArg
import Derived.ChangeArms
import Derived.ChangeSame
import Derived.Deep.Slices
import Derived.Deep.Strs
import Derived.Deep.Fields
import Derived.Lib.SmallJoins
import Derived.Test.YtkljpeociacapaaRows
import Derived.WalkKit
import Derived.ProofKit
import Derived.ShutString
import Derived.ChangeOld
import Derived.Below
import Derived.SizedLaws
import Derived.Carry
import Derived.Test.YtkljpeociacapaaCXGoodShownA
namespace Go.Proofs.Ytkljpeociacapaa.Fn
open Go.RowKit Go.Proofs.YtkljpeociacapaaW.PrintWords Go.Proofs.YtkljpeociacapaaW.PrintLast Go.Proofs.YtkljpeociacapaaW.PrintMore
attribute [local go_sem] max2_int min2_int max_two min_two max_three min_three max_four min_four   -- for this text's walks alone
set_option linter.unusedVariables false
set_option linter.unusedSimpArgs false

/-! ### laws_FnExactGoodShown: function 3 -/
def laws_FnExactGoodShown.f (k : Nat) (l0_0 : List ByteArray) (l0_1 : List ByteArray) (l0_2 : List ByteArray) (a0_3 : Int) : Option (Bool) := (laws_szShown.f k l0_0 l0_1 l0_2 a0_3 1048576).bind fun t161 => (if t161 < 0 then (some true) else ((laws_toShown.f k l0_0 l0_1 l0_2 a0_3).bind fun bt162 => ((spec_GoodShown.f k bt162.1 bt162.2.1 bt162.2.2.1 bt162.2.2.2).bind fun t172 => ((laws_toShown.f k l0_0 l0_1 l0_2 a0_3).bind fun bt173 => ((impl_GoodShown.f k bt173.1 bt173.2.1 bt173.2.2.1 bt173.2.2.2).bind fun t184 => (if (t184 != t172) = true then (some false) else ((laws_toShown.f k l0_0 l0_1 l0_2 a0_3).bind fun bt185 => ((laws_eqShown.f k bt173.1 bt173.2.1 bt173.2.2.1 bt173.2.2.2 bt185.1 bt185.2.1 bt185.2.2.1 bt185.2.2.2).bind fun t195 => (if t195 = true then (some true) else (some false))))))))))
theorem laws_FnExactGoodShown.mono : ∀ a0 a1 a2 a3 k, LeO (laws_FnExactGoodShown.f k a0 a1 a2 a3) (laws_FnExactGoodShown.f (k + 1) a0 a1 a2 a3) := by
  intro a0 a1 a2 a3 k
  unfold laws_FnExactGoodShown.f
  repeat' first
      | (with_reducible exact impl_GoodShown.mono _ _ _ _ _)
      | (with_reducible exact laws_eqShown.mono _ _ _ _ _ _ _ _ _)
      | (with_reducible exact laws_szShown.mono _ _ _ _ _ _)
      | (with_reducible exact laws_toShown.mono _ _ _ _ _)
      | (with_reducible exact spec_GoodShown.mono _ _ _ _ _)
      | (with_reducible exact LeO.refl _)
      | (with_reducible exact LeO.none _)
      | (with_reducible refine LeO.ite ?_ ?_)
      | (with_reducible refine LeO.bind ?_ (fun _ => ?_))
      | exact impl_GoodShown.mono _ _ _ _ _
      | exact laws_eqShown.mono _ _ _ _ _ _ _ _ _
      | exact laws_szShown.mono _ _ _ _ _ _
      | exact laws_toShown.mono _ _ _ _ _
      | exact spec_GoodShown.mono _ _ _ _ _
      | exact LeO.none _
      | refine LeO.ite ?_ ?_
      | refine LeO.bind ?_ (fun _ => ?_)
set_option maxHeartbeats 8000000 in
set_option maxRecDepth 100000 in
theorem laws_FnExactGoodShown.calls (k : Nat) (A0_0 : Option Addr) (c0_0 : Nat) (l0_0 : List ByteArray) (A0_1 : Option Addr) (c0_1 : Nat) (l0_1 : List ByteArray) (A0_2 : Option Addr) (c0_2 : Nat) (l0_2 : List ByteArray) (a0_3 : Int) (r : Bool) (w : World) (hr0_0 : Kd.C Kd.string w A0_0 l0_0.length l0_0) (hc0_0 : l0_0.length ≤ c0_0) (hr0_1 : Kd.C Kd.string w A0_1 l0_1.length l0_1) (hc0_1 : l0_1.length ≤ c0_1) (hr0_2 : Kd.C Kd.string w A0_2 l0_2.length l0_2) (hc0_2 : l0_2.length ≤ c0_2) (h : laws_FnExactGoodShown.f k l0_0 l0_1 l0_2 a0_3 = some r) (ht : r = true) :
    Calls Try.prog 3 #[.agg #[.slice A0_0 l0_0.length c0_0, .slice A0_1 l0_1.length c0_1, .slice A0_2 l0_2.length c0_2, .int .i64 a0_3]] w fun e w' => e = .returned (.bool r) ∧ Below w.heap.size w w' := by
  have HT := Aside0.mk ht
  clear ht
  have hu24 := Try.underlying24
  have hu27 := Try.underlying27
  have HR0_0 := Aside0.mk hr0_0
  have HC0_0 := Aside0.mk hc0_0
  clear hr0_0 hc0_0
  have HR0_1 := Aside0.mk hr0_1
  have HC0_1 := Aside0.mk hc0_1
  clear hr0_1 hc0_1
  have HR0_2 := Aside0.mk hr0_2
  have HC0_2 := Aside0.mk hc0_2
  clear hr0_2 hc0_2
  have HB := Aside0.mk (Below.refl w.heap.size w)
  have H : ((laws_szShown.f k l0_0 l0_1 l0_2 a0_3 1048576).bind fun t161 => (if t161 < 0 then (some true) else ((laws_toShown.f k l0_0 l0_1 l0_2 a0_3).bind fun bt162 => ((spec_GoodShown.f k bt162.1 bt162.2.1 bt162.2.2.1 bt162.2.2.2).bind fun t172 => ((laws_toShown.f k l0_0 l0_1 l0_2 a0_3).bind fun bt173 => ((impl_GoodShown.f k bt173.1 bt173.2.1 bt173.2.2.1 bt173.2.2.2).bind fun t184 => (if (t184 != t172) = true then (some false) else ((laws_toShown.f k l0_0 l0_1 l0_2 a0_3).bind fun bt185 => ((laws_eqShown.f k bt173.1 bt173.2.1 bt173.2.2.1 bt173.2.2.2 bt185.1 bt185.2.1 bt185.2.2.1 bt185.2.2.2).bind fun t195 => (if t195 = true then (some true) else (some false))))))))))) = some r := h
  clear h
  replace H := Option.bind_eq_some_iff.mp H
  obtain ⟨t161, A20, H⟩ := H
  replace H : (if t161 < 0 then (some true) else ((laws_toShown.f k l0_0 l0_1 l0_2 a0_3).bind fun bt162 => ((spec_GoodShown.f k bt162.1 bt162.2.1 bt162.2.2.1 bt162.2.2.2).bind fun t172 => ((laws_toShown.f k l0_0 l0_1 l0_2 a0_3).bind fun bt173 => ((impl_GoodShown.f k bt173.1 bt173.2.1 bt173.2.2.1 bt173.2.2.2).bind fun t184 => (if (t184 != t172) = true then (some false) else ((laws_toShown.f k l0_0 l0_1 l0_2 a0_3).bind fun bt185 => ((laws_eqShown.f k bt173.1 bt173.2.1 bt173.2.2.1 bt173.2.2.2 bt185.1 bt185.2.1 bt185.2.2.1 bt185.2.2.2).bind fun t195 => (if t195 = true then (some true) else (some false)))))))))) = some r := H
  have A2 := Aside0.mk A20
  clear A20
  by_cases c3 : t161 < 0
  · rw [if_pos c3] at H
    have c3b0 : decide (t161 < 0) = true := decide_eq_true c3
    clear c3
    obtain rfl := Option.some.inj H
    go_enter Try.func3, Try.ntmps3
    go_wp2_with (first | ((with_reducible refine gate_dst (N := 1) rfl ?_); refine box_event ?hg (N := 1) ?hd (cs := #[.slice A0_0 l0_0.length c0_0, .slice A0_1 l0_1.length c0_1, .slice A0_2 l0_2.length c0_2, .int .i64 a0_3]) (t := 24) ?hr ?_; (case hd => rfl); (case hg => rfl); (case hr => first | (go_simp; done) | (go_simp; rfl)); intro gb160 hg w4 hbox hb; have n0_ := Aside0.mk (below_step (by repeat (first | (with_reducible first | exact HB.out | apply below_alloc | apply pw_below_drewN | apply below_drew1) | exact HB.out)) hb); have n1_ := Aside0.mk (hbox); have n2_ := Aside0.mk ((by rw [hg]; exact (below_size (by repeat (first | (with_reducible first | exact HB.out | apply below_alloc | apply pw_below_drewN | apply below_drew1) | exact HB.out))) : w.heap.size ≤ gb160)); have n3_ := Aside0.mk ((by rw [hg]; exact (below_size (by repeat (first | (with_reducible first | exact HB.out | apply below_alloc | apply pw_below_drewN | apply below_drew1) | exact HB.out))) : w.heap.size ≤ gb160)); clear HB; have HB := n0_; have BK160 := n1_; have GW160 := n2_; have GE160 := n3_; clear n0_ n1_ n2_ n3_; clear hb hbox hg; have hcz5_0 : w4.cell? ⟨gb160, 0, none⟩ = some (.slice A0_0 l0_0.length c0_0) := (blk_cell BK160.out 0).trans rfl; have hcz5_1 : w4.cell? ⟨gb160, 1, none⟩ = some (.slice A0_1 l0_1.length c0_1) := (blk_cell BK160.out 1).trans rfl; have hcz5_2 : w4.cell? ⟨gb160, 2, none⟩ = some (.slice A0_2 l0_2.length c0_2) := (blk_cell BK160.out 2).trans rfl; have hcz5_3 : w4.cell? ⟨gb160, 3, none⟩ = some (.int .i64 a0_3) := (blk_cell BK160.out 3).trans rfl; have hfz5_0 := blk_frozen BK160.out 0; have hfz5_1 := blk_frozen BK160.out 1; have hfz5_2 := blk_frozen BK160.out 2; have hfz5_3 := blk_frozen BK160.out 3) | ((with_reducible refine gate_callee (f := 6) rfl ?_); refine goesL_ (some 9) rfl rfl Try.func6 (by kernel_rfl) rfl #[.agg #[.slice A0_0 l0_0.length c0_0, .slice A0_1 l0_1.length c0_1, .slice A0_2 l0_2.length c0_2, .int .i64 a0_3], .int .i64 1048576] rfl (by (try simp only [List.map_toArray, List.map_cons, List.map_nil]); first | done | rfl | (simp only [List.length_drop, List.length_take]; rfl)) ?_; (with_reducible refine (laws_szShown.calls k _ _ l0_0 _ _ l0_1 _ _ l0_2 a0_3 1048576 t161 _ ?side1 ?side2 ?side3 ?side4 ?side5 ?side6 A2.out).mono ?_); (case side1 => repeat (first | exact (Kd.C_below HR0_0.out HB.out) | (with_reducible refine Kd.C_alloc ?_ _) | (with_reducible refine Kd.C_drewN ?_ _) | (with_reducible refine Kd.C_drew ?_))); (case side2 => exact HC0_0.out); (case side3 => repeat (first | exact (Kd.C_below HR0_1.out HB.out) | (with_reducible refine Kd.C_alloc ?_ _) | (with_reducible refine Kd.C_drewN ?_ _) | (with_reducible refine Kd.C_drew ?_))); (case side4 => exact HC0_1.out); (case side5 => repeat (first | exact (Kd.C_below HR0_2.out HB.out) | (with_reducible refine Kd.C_alloc ?_ _) | (with_reducible refine Kd.C_drewN ?_ _) | (with_reducible refine Kd.C_drew ?_))); (case side6 => exact HC0_2.out); rintro e w6 ⟨rfl, hb⟩; refine ⟨_, rfl, ?_⟩; have n0_ := Aside0.mk (blk_below (g := gb160) (o := .cells #[.slice A0_0 l0_0.length c0_0, .slice A0_1 l0_1.length c0_1, .slice A0_2 l0_2.length c0_2, .int .i64 a0_3] 24 (0, 0)) (by (with_reducible repeat (first | refine blk_drewN ?_ _ | refine blk_drew ?_ | refine blk_alloc ?_ _)); exact BK160.out) hb); have n1_ := Aside0.mk (below_step (by repeat (first | (with_reducible first | exact HB.out | apply below_alloc | apply pw_below_drewN | apply below_drew1 | refine below_set ?_ GE160.out) | exact HB.out)) hb); clear BK160; clear HB; have BK160 := n0_; have HB := n1_; clear n0_ n1_; (try clear hb); (try clear hb2); (try clear hk); (try clear hi)))
    go_ret
    exact ⟨by first | rfl | (simp [errW_none, errW_some] <;> rfl) | (simp [*, errW_none, errW_some] <;> rfl), by repeat (first | (with_reducible first | exact HB.out | apply below_alloc | apply pw_below_drewN | apply below_drew1 | refine below_set ?_ GE160.out) | exact HB.out)⟩
  · rw [if_neg c3] at H
    have c3b0 : decide (t161 < 0) = false := decide_eq_false c3
    clear c3
    replace H := Option.bind_eq_some_iff.mp H
    obtain ⟨⟨t162, t165, t168, t171⟩, A70, H⟩ := H
    replace H : ((spec_GoodShown.f k t162 t165 t168 t171).bind fun t172 => ((laws_toShown.f k l0_0 l0_1 l0_2 a0_3).bind fun bt173 => ((impl_GoodShown.f k bt173.1 bt173.2.1 bt173.2.2.1 bt173.2.2.2).bind fun t184 => (if (t184 != t172) = true then (some false) else ((laws_toShown.f k l0_0 l0_1 l0_2 a0_3).bind fun bt185 => ((laws_eqShown.f k bt173.1 bt173.2.1 bt173.2.2.1 bt173.2.2.2 bt185.1 bt185.2.1 bt185.2.2.1 bt185.2.2.2).bind fun t195 => (if t195 = true then (some true) else (some false)))))))) = some r := H
    have A7 := Aside0.mk A70
    clear A70
    replace H := Option.bind_eq_some_iff.mp H
    obtain ⟨t172, A80, H⟩ := H
    replace H : ((laws_toShown.f k l0_0 l0_1 l0_2 a0_3).bind fun bt173 => ((impl_GoodShown.f k bt173.1 bt173.2.1 bt173.2.2.1 bt173.2.2.2).bind fun t184 => (if (t184 != t172) = true then (some false) else ((laws_toShown.f k l0_0 l0_1 l0_2 a0_3).bind fun bt185 => ((laws_eqShown.f k bt173.1 bt173.2.1 bt173.2.2.1 bt173.2.2.2 bt185.1 bt185.2.1 bt185.2.2.1 bt185.2.2.2).bind fun t195 => (if t195 = true then (some true) else (some false))))))) = some r := H
    have A8 := Aside0.mk A80
    clear A80
    replace H := Option.bind_eq_some_iff.mp H
    obtain ⟨⟨t173, t176, t179, t182⟩, A90, H⟩ := H
    replace H : ((impl_GoodShown.f k t173 t176 t179 t182).bind fun t184 => (if (t184 != t172) = true then (some false) else ((laws_toShown.f k l0_0 l0_1 l0_2 a0_3).bind fun bt185 => ((laws_eqShown.f k t173 t176 t179 t182 bt185.1 bt185.2.1 bt185.2.2.1 bt185.2.2.2).bind fun t195 => (if t195 = true then (some true) else (some false)))))) = some r := H
    have A9 := Aside0.mk A90
    clear A90
    replace H := Option.bind_eq_some_iff.mp H
    obtain ⟨t184, A100, H⟩ := H
    replace H : (if (t184 != t172) = true then (some false) else ((laws_toShown.f k l0_0 l0_1 l0_2 a0_3).bind fun bt185 => ((laws_eqShown.f k t173 t176 t179 t182 bt185.1 bt185.2.1 bt185.2.2.1 bt185.2.2.2).bind fun t195 => (if t195 = true then (some true) else (some false))))) = some r := H
    have A10 := Aside0.mk A100
    clear A100
    by_cases c11 : (t184 != t172) = true
    · rw [if_pos c11] at H
      have c11b0 : (t184 != t172) = true := c11
      (try (have c11b1 : decide (t184 = t172) = false := by simpa using c11))
      (try (have c11b2 : (t184 == t172) = false := by simpa using c11))
      (try (have c11b3 : ¬ (t184 = t172) := by simpa using c11))
      clear c11
      exact absurd HT.out (by have H9 := Option.some.inj H; rw [← H9]; decide)
    · rw [if_neg c11] at H
      have c11b0 : (t184 != t172) = false := by simpa using c11
      (try (have c11b1 : decide (t184 = t172) = true := by simpa using c11))
      (try (have c11b2 : (t184 == t172) = true := by simpa using c11))
      clear c11
      replace H := Option.bind_eq_some_iff.mp H
      obtain ⟨⟨t185, t188, t191, t194⟩, A120, H⟩ := H
      replace H : ((laws_eqShown.f k t173 t176 t179 t182 t185 t188 t191 t194).bind fun t195 => (if t195 = true then (some true) else (some false))) = some r := H
      have A12 := Aside0.mk A120
      clear A120
      replace H := Option.bind_eq_some_iff.mp H
      obtain ⟨t195, A130, H⟩ := H
      replace H : (if t195 = true then (some true) else (some false)) = some r := H
      have A13 := Aside0.mk A130
      clear A130
      by_cases c14 : t195 = true
      · subst c14
        have H1 : (some true) = some r := by rw [if_pos rfl] at H; exact H
        clear H
        have H := H1
        clear H1
        obtain rfl := Option.some.inj H
        go_enter Try.func3, Try.ntmps3
        try go_wp2_with (first | ((with_reducible refine gate_dst (N := 1) rfl ?_); refine box_event ?hg (N := 1) ?hd (cs := #[.slice A0_0 l0_0.length c0_0, .slice A0_1 l0_1.length c0_1, .slice A0_2 l0_2.length c0_2, .int .i64 a0_3]) (t := 24) ?hr ?_; (case hd => rfl); (case hg => rfl); (case hr => first | (go_simp; done) | (go_simp; rfl)); intro gb160 hg w15 hbox hb; have n0_ := Aside0.mk (below_step (by repeat (first | (with_reducible first | exact HB.out | apply below_alloc | apply pw_below_drewN | apply below_drew1) | exact HB.out)) hb); have n1_ := Aside0.mk (hbox); have n2_ := Aside0.mk ((by rw [hg]; exact (below_size (by repeat (first | (with_reducible first | exact HB.out | apply below_alloc | apply pw_below_drewN | apply below_drew1) | exact HB.out))) : w.heap.size ≤ gb160)); have n3_ := Aside0.mk ((by rw [hg]; exact (below_size (by repeat (first | (with_reducible first | exact HB.out | apply below_alloc | apply pw_below_drewN | apply below_drew1) | exact HB.out))) : w.heap.size ≤ gb160)); clear HB; have HB := n0_; have BK160 := n1_; have GW160 := n2_; have GE160 := n3_; clear n0_ n1_ n2_ n3_; clear hb hbox hg; have hcz16_0 : w15.cell? ⟨gb160, 0, none⟩ = some (.slice A0_0 l0_0.length c0_0) := (blk_cell BK160.out 0).trans rfl; have hcz16_1 : w15.cell? ⟨gb160, 1, none⟩ = some (.slice A0_1 l0_1.length c0_1) := (blk_cell BK160.out 1).trans rfl; have hcz16_2 : w15.cell? ⟨gb160, 2, none⟩ = some (.slice A0_2 l0_2.length c0_2) := (blk_cell BK160.out 2).trans rfl; have hcz16_3 : w15.cell? ⟨gb160, 3, none⟩ = some (.int .i64 a0_3) := (blk_cell BK160.out 3).trans rfl; have hfz16_0 := blk_frozen BK160.out 0; have hfz16_1 := blk_frozen BK160.out 1; have hfz16_2 := blk_frozen BK160.out 2; have hfz16_3 := blk_frozen BK160.out 3) | ((with_reducible refine gate_callee (f := 6) rfl ?_); refine goesL_ (some 9) rfl rfl Try.func6 (by kernel_rfl) rfl #[.agg #[.slice A0_0 l0_0.length c0_0, .slice A0_1 l0_1.length c0_1, .slice A0_2 l0_2.length c0_2, .int .i64 a0_3], .int .i64 1048576] rfl (by (try simp only [List.map_toArray, List.map_cons, List.map_nil]); first | done | rfl | (simp only [List.length_drop, List.length_take]; rfl)) ?_; (with_reducible refine (laws_szShown.calls k _ _ l0_0 _ _ l0_1 _ _ l0_2 a0_3 1048576 t161 _ ?side1 ?side2 ?side3 ?side4 ?side5 ?side6 A2.out).mono ?_); (case side1 => repeat (first | exact (Kd.C_below HR0_0.out HB.out) | (with_reducible refine Kd.C_alloc ?_ _) | (with_reducible refine Kd.C_drewN ?_ _) | (with_reducible refine Kd.C_drew ?_))); (case side2 => exact HC0_0.out); (case side3 => repeat (first | exact (Kd.C_below HR0_1.out HB.out) | (with_reducible refine Kd.C_alloc ?_ _) | (with_reducible refine Kd.C_drewN ?_ _) | (with_reducible refine Kd.C_drew ?_))); (case side4 => exact HC0_1.out); (case side5 => repeat (first | exact (Kd.C_below HR0_2.out HB.out) | (with_reducible refine Kd.C_alloc ?_ _) | (with_reducible refine Kd.C_drewN ?_ _) | (with_reducible refine Kd.C_drew ?_))); (case side6 => exact HC0_2.out); rintro e w17 ⟨rfl, hb⟩; refine ⟨_, rfl, ?_⟩; have n0_ := Aside0.mk (blk_below (g := gb160) (o := .cells #[.slice A0_0 l0_0.length c0_0, .slice A0_1 l0_1.length c0_1, .slice A0_2 l0_2.length c0_2, .int .i64 a0_3] 24 (0, 0)) (by (with_reducible repeat (first | refine blk_drewN ?_ _ | refine blk_drew ?_ | refine blk_alloc ?_ _)); exact BK160.out) hb); have n1_ := Aside0.mk (below_step (by repeat (first | (with_reducible first | exact HB.out | apply below_alloc | apply pw_below_drewN | apply below_drew1 | refine below_set ?_ GE160.out) | exact HB.out)) hb); clear BK160; clear HB; have BK160 := n0_; have HB := n1_; clear n0_ n1_; (try clear hb); (try clear hb2); (try clear hk); (try clear hi); have hcz18_0 : w17.cell? ⟨gb160, 0, none⟩ = some (.slice A0_0 l0_0.length c0_0) := (blk_cell BK160.out 0).trans rfl; have hcz18_1 : w17.cell? ⟨gb160, 1, none⟩ = some (.slice A0_1 l0_1.length c0_1) := (blk_cell BK160.out 1).trans rfl; have hcz18_2 : w17.cell? ⟨gb160, 2, none⟩ = some (.slice A0_2 l0_2.length c0_2) := (blk_cell BK160.out 2).trans rfl; have hcz18_3 : w17.cell? ⟨gb160, 3, none⟩ = some (.int .i64 a0_3) := (blk_cell BK160.out 3).trans rfl; have hfz18_0 := blk_frozen BK160.out 0; have hfz18_1 := blk_frozen BK160.out 1; have hfz18_2 := blk_frozen BK160.out 2; have hfz18_3 := blk_frozen BK160.out 3) | ((with_reducible refine gate_callee (f := 8) rfl ?_); refine goesL_ (some 13) rfl rfl Try.func8 (by kernel_rfl) rfl #[.agg #[.slice A0_0 l0_0.length c0_0, .slice A0_1 l0_1.length c0_1, .slice A0_2 l0_2.length c0_2, .int .i64 a0_3]] rfl (by (try simp only [List.map_toArray, List.map_cons, List.map_nil]); first | done | rfl | (simp only [List.length_drop, List.length_take]; rfl)) ?_; (with_reducible refine (laws_toShown.calls k _ _ l0_0 _ _ l0_1 _ _ l0_2 a0_3 t162 t165 t168 t171 _ ?side1 ?side2 ?side3 ?side4 ?side5 ?side6 A7.out).mono ?_); (case side1 => repeat (first | exact (Kd.C_below HR0_0.out HB.out) | (with_reducible refine Kd.C_alloc ?_ _) | (with_reducible refine Kd.C_drewN ?_ _) | (with_reducible refine Kd.C_drew ?_))); (case side2 => exact HC0_0.out); (case side3 => repeat (first | exact (Kd.C_below HR0_1.out HB.out) | (with_reducible refine Kd.C_alloc ?_ _) | (with_reducible refine Kd.C_drewN ?_ _) | (with_reducible refine Kd.C_drew ?_))); (case side4 => exact HC0_1.out); (case side5 => repeat (first | exact (Kd.C_below HR0_2.out HB.out) | (with_reducible refine Kd.C_alloc ?_ _) | (with_reducible refine Kd.C_drewN ?_ _) | (with_reducible refine Kd.C_drew ?_))); (case side6 => exact HC0_2.out); rintro e w19 ⟨v163, v166, v169, rfl, ho0, ho1, ho2, hb⟩; refine ⟨_, rfl, ?_⟩; have n0_ := Aside0.mk (Kd.R_lower ho0 (below_size (by repeat (first | (with_reducible first | exact HB.out | apply below_alloc | apply pw_below_drewN | apply below_drew1 | refine below_set ?_ GE160.out) | exact HB.out)))); have n1_ := Aside0.mk (Kd.R_lower ho1 (below_size (by repeat (first | (with_reducible first | exact HB.out | apply below_alloc | apply pw_below_drewN | apply below_drew1 | refine below_set ?_ GE160.out) | exact HB.out)))); have n2_ := Aside0.mk (Kd.R_lower ho2 (below_size (by repeat (first | (with_reducible first | exact HB.out | apply below_alloc | apply pw_below_drewN | apply below_drew1 | refine below_set ?_ GE160.out) | exact HB.out)))); have n3_ := Aside0.mk (blk_below (g := gb160) (o := .cells #[.slice A0_0 l0_0.length c0_0, .slice A0_1 l0_1.length c0_1, .slice A0_2 l0_2.length c0_2, .int .i64 a0_3] 24 (0, 0)) (by (with_reducible repeat (first | refine blk_drewN ?_ _ | refine blk_drew ?_ | refine blk_alloc ?_ _)); exact BK160.out) hb); have n4_ := Aside0.mk (below_step (by repeat (first | (with_reducible first | exact HB.out | apply below_alloc | apply pw_below_drewN | apply below_drew1 | refine below_set ?_ GE160.out) | exact HB.out)) hb); clear BK160; clear HB; have HO164 := n0_; have HO167 := n1_; have HO170 := n2_; have BK160 := n3_; have HB := n4_; clear n0_ n1_ n2_ n3_ n4_; (try clear hb); (try clear hb2); (try clear hk); (try clear hi); (try clear ho0); (try clear ho1); (try clear ho2); obtain ⟨Ao20, co20, eo20⟩ := Kd.R_slice HO164.out; subst eo20; obtain ⟨Ao21, co21, eo21⟩ := Kd.R_slice HO167.out; subst eo21; obtain ⟨Ao22, co22, eo22⟩ := Kd.R_slice HO170.out; subst eo22) | ((with_reducible refine gate_callee (f := 7) rfl ?_); refine goesL_ (some 14) rfl rfl Try.func7 (by kernel_rfl) rfl #[.agg #[.slice Ao20 t162.length co20, .slice Ao21 t165.length co21, .slice Ao22 t168.length co22, .int .i64 t171]] rfl (by (try simp only [List.map_toArray, List.map_cons, List.map_nil]); first | done | rfl | (simp only [List.length_drop, List.length_take]; rfl)) ?_; (with_reducible refine (spec_GoodShown.calls k _ _ t162 _ _ t165 _ _ t168 t171 t172 _ ?side1 ?side2 ?side3 ?side4 ?side5 ?side6 A8.out).mono ?_); (case side1 => repeat (first | exact (Kd.R_reads' HO164.out).2.2 | (with_reducible refine Kd.C_alloc ?_ _) | (with_reducible refine Kd.C_drewN ?_ _) | (with_reducible refine Kd.C_drew ?_))); (case side2 => exact (Kd.R_reads' HO164.out).2.1); (case side3 => repeat (first | exact (Kd.R_reads' HO167.out).2.2 | (with_reducible refine Kd.C_alloc ?_ _) | (with_reducible refine Kd.C_drewN ?_ _) | (with_reducible refine Kd.C_drew ?_))); (case side4 => exact (Kd.R_reads' HO167.out).2.1); (case side5 => repeat (first | exact (Kd.R_reads' HO170.out).2.2 | (with_reducible refine Kd.C_alloc ?_ _) | (with_reducible refine Kd.C_drewN ?_ _) | (with_reducible refine Kd.C_drew ?_))); (case side6 => exact (Kd.R_reads' HO170.out).2.1); rintro e w23 ⟨rfl, hb⟩; refine ⟨_, rfl, ?_⟩; have n0_ := Aside0.mk (Kd.R_below (by (with_reducible repeat (first | apply Kd.R_alloc | apply Kd.R_drewN | apply Kd.R_drew)); exact HO164.out) hb); have n1_ := Aside0.mk (Kd.R_below (by (with_reducible repeat (first | apply Kd.R_alloc | apply Kd.R_drewN | apply Kd.R_drew)); exact HO167.out) hb); have n2_ := Aside0.mk (Kd.R_below (by (with_reducible repeat (first | apply Kd.R_alloc | apply Kd.R_drewN | apply Kd.R_drew)); exact HO170.out) hb); have n3_ := Aside0.mk (blk_below (g := gb160) (o := .cells #[.slice A0_0 l0_0.length c0_0, .slice A0_1 l0_1.length c0_1, .slice A0_2 l0_2.length c0_2, .int .i64 a0_3] 24 (0, 0)) (by (with_reducible repeat (first | refine blk_drewN ?_ _ | refine blk_drew ?_ | refine blk_alloc ?_ _)); exact BK160.out) hb); have n4_ := Aside0.mk (below_step (by repeat (first | (with_reducible first | exact HB.out | apply below_alloc | apply pw_below_drewN | apply below_drew1 | refine below_set ?_ GE160.out) | exact HB.out)) hb); clear HO164; clear HO167; clear HO170; clear BK160; clear HB; have HO164 := n0_; have HO167 := n1_; have HO170 := n2_; have BK160 := n3_; have HB := n4_; clear n0_ n1_ n2_ n3_ n4_; (try clear hb); (try clear hb2); (try clear hk); (try clear hi); have hcz24_0 : w23.cell? ⟨gb160, 0, none⟩ = some (.slice A0_0 l0_0.length c0_0) := (blk_cell BK160.out 0).trans rfl; have hcz24_1 : w23.cell? ⟨gb160, 1, none⟩ = some (.slice A0_1 l0_1.length c0_1) := (blk_cell BK160.out 1).trans rfl; have hcz24_2 : w23.cell? ⟨gb160, 2, none⟩ = some (.slice A0_2 l0_2.length c0_2) := (blk_cell BK160.out 2).trans rfl; have hcz24_3 : w23.cell? ⟨gb160, 3, none⟩ = some (.int .i64 a0_3) := (blk_cell BK160.out 3).trans rfl; have hfz24_0 := blk_frozen BK160.out 0; have hfz24_1 := blk_frozen BK160.out 1; have hfz24_2 := blk_frozen BK160.out 2; have hfz24_3 := blk_frozen BK160.out 3) | ((with_reducible refine gate_callee (f := 8) rfl ?_); refine goesL_ (some 16) rfl rfl Try.func8 (by kernel_rfl) rfl #[.agg #[.slice A0_0 l0_0.length c0_0, .slice A0_1 l0_1.length c0_1, .slice A0_2 l0_2.length c0_2, .int .i64 a0_3]] rfl (by (try simp only [List.map_toArray, List.map_cons, List.map_nil]); first | done | rfl | (simp only [List.length_drop, List.length_take]; rfl)) ?_; (with_reducible refine (laws_toShown.calls k _ _ l0_0 _ _ l0_1 _ _ l0_2 a0_3 t173 t176 t179 t182 _ ?side1 ?side2 ?side3 ?side4 ?side5 ?side6 A9.out).mono ?_); (case side1 => repeat (first | exact (Kd.C_below HR0_0.out HB.out) | (with_reducible refine Kd.C_alloc ?_ _) | (with_reducible refine Kd.C_drewN ?_ _) | (with_reducible refine Kd.C_drew ?_))); (case side2 => exact HC0_0.out); (case side3 => repeat (first | exact (Kd.C_below HR0_1.out HB.out) | (with_reducible refine Kd.C_alloc ?_ _) | (with_reducible refine Kd.C_drewN ?_ _) | (with_reducible refine Kd.C_drew ?_))); (case side4 => exact HC0_1.out); (case side5 => repeat (first | exact (Kd.C_below HR0_2.out HB.out) | (with_reducible refine Kd.C_alloc ?_ _) | (with_reducible refine Kd.C_drewN ?_ _) | (with_reducible refine Kd.C_drew ?_))); (case side6 => exact HC0_2.out); rintro e w25 ⟨v174, v177, v180, rfl, ho0, ho1, ho2, hb⟩; refine ⟨_, rfl, ?_⟩; have n0_ := Aside0.mk (Kd.R_mono (Kd.R_told (Kd.R_told (Kd.R_told (Kd.R_old (by (with_reducible repeat (first | apply Kd.R_alloc | apply Kd.R_drewN | apply Kd.R_drew)); exact HO164.out) hb) (Kd.R_base ho0)) (Kd.R_base ho1)) (Kd.R_base ho2)) (fun _ h_ => h_.1)); have n1_ := Aside0.mk (Kd.R_mono (Kd.R_told (Kd.R_told (Kd.R_told (Kd.R_old (by (with_reducible repeat (first | apply Kd.R_alloc | apply Kd.R_drewN | apply Kd.R_drew)); exact HO167.out) hb) (Kd.R_base ho0)) (Kd.R_base ho1)) (Kd.R_base ho2)) (fun _ h_ => h_.1)); have n2_ := Aside0.mk (Kd.R_mono (Kd.R_told (Kd.R_told (Kd.R_told (Kd.R_old (by (with_reducible repeat (first | apply Kd.R_alloc | apply Kd.R_drewN | apply Kd.R_drew)); exact HO170.out) hb) (Kd.R_base ho0)) (Kd.R_base ho1)) (Kd.R_base ho2)) (fun _ h_ => h_.1)); have n3_ := Aside0.mk (Kd.R_lower (Kd.R_new' (Kd.R_new' (Kd.R_new' ho0 (Kd.R_lt (by (with_reducible repeat (first | apply Kd.R_alloc | apply Kd.R_drewN | apply Kd.R_drew)); exact HO164.out))) (Kd.R_lt (by (with_reducible repeat (first | apply Kd.R_alloc | apply Kd.R_drewN | apply Kd.R_drew)); exact HO167.out))) (Kd.R_lt (by (with_reducible repeat (first | apply Kd.R_alloc | apply Kd.R_drewN | apply Kd.R_drew)); exact HO170.out))) (below_size (by repeat (first | (with_reducible first | exact HB.out | apply below_alloc | apply pw_below_drewN | apply below_drew1 | refine below_set ?_ GE160.out) | exact HB.out)))); have n4_ := Aside0.mk (Kd.R_lower (Kd.R_new' (Kd.R_new' (Kd.R_new' ho1 (Kd.R_lt (by (with_reducible repeat (first | apply Kd.R_alloc | apply Kd.R_drewN | apply Kd.R_drew)); exact HO164.out))) (Kd.R_lt (by (with_reducible repeat (first | apply Kd.R_alloc | apply Kd.R_drewN | apply Kd.R_drew)); exact HO167.out))) (Kd.R_lt (by (with_reducible repeat (first | apply Kd.R_alloc | apply Kd.R_drewN | apply Kd.R_drew)); exact HO170.out))) (below_size (by repeat (first | (with_reducible first | exact HB.out | apply below_alloc | apply pw_below_drewN | apply below_drew1 | refine below_set ?_ GE160.out) | exact HB.out)))); have n5_ := Aside0.mk (Kd.R_lower (Kd.R_new' (Kd.R_new' (Kd.R_new' ho2 (Kd.R_lt (by (with_reducible repeat (first | apply Kd.R_alloc | apply Kd.R_drewN | apply Kd.R_drew)); exact HO164.out))) (Kd.R_lt (by (with_reducible repeat (first | apply Kd.R_alloc | apply Kd.R_drewN | apply Kd.R_drew)); exact HO167.out))) (Kd.R_lt (by (with_reducible repeat (first | apply Kd.R_alloc | apply Kd.R_drewN | apply Kd.R_drew)); exact HO170.out))) (below_size (by repeat (first | (with_reducible first | exact HB.out | apply below_alloc | apply pw_below_drewN | apply below_drew1 | refine below_set ?_ GE160.out) | exact HB.out)))); have n6_ := Aside0.mk (blk_below (g := gb160) (o := .cells #[.slice A0_0 l0_0.length c0_0, .slice A0_1 l0_1.length c0_1, .slice A0_2 l0_2.length c0_2, .int .i64 a0_3] 24 (0, 0)) (by (with_reducible repeat (first | refine blk_drewN ?_ _ | refine blk_drew ?_ | refine blk_alloc ?_ _)); exact BK160.out) hb); have n7_ := Aside0.mk (below_step (by repeat (first | (with_reducible first | exact HB.out | apply below_alloc | apply pw_below_drewN | apply below_drew1 | refine below_set ?_ GE160.out) | exact HB.out)) hb); clear HO164; clear HO167; clear HO170; clear BK160; clear HB; have HO164 := n0_; have HO167 := n1_; have HO170 := n2_; have HO175 := n3_; have HO178 := n4_; have HO181 := n5_; have BK160 := n6_; have HB := n7_; clear n0_ n1_ n2_ n3_ n4_ n5_ n6_ n7_; (try clear hb); (try clear hb2); (try clear hk); (try clear hi); (try clear ho0); (try clear ho1); (try clear ho2)) | ((with_reducible refine gate_dst (N := 5) rfl ?_); refine box_event ?hg (N := 5) ?hd (cs := #[.slice none 0 0, .slice none 0 0, .slice none 0 0, .int .i64 0]) (t := 27) ?hr ?_; (case hd => rfl); (case hg => rfl); (case hr => first | (go_simp; done) | (go_simp; rfl)); intro gb183 hg w26 hbox hb; have n0_ := Aside0.mk (Kd.R_below (by (with_reducible repeat (first | apply Kd.R_alloc | apply Kd.R_drewN | apply Kd.R_drew)); exact HO164.out) hb); have n1_ := Aside0.mk (Kd.R_below (by (with_reducible repeat (first | apply Kd.R_alloc | apply Kd.R_drewN | apply Kd.R_drew)); exact HO167.out) hb); have n2_ := Aside0.mk (Kd.R_below (by (with_reducible repeat (first | apply Kd.R_alloc | apply Kd.R_drewN | apply Kd.R_drew)); exact HO170.out) hb); have n3_ := Aside0.mk (Kd.R_below (by (with_reducible repeat (first | apply Kd.R_alloc | apply Kd.R_drewN | apply Kd.R_drew)); exact HO175.out) hb); have n4_ := Aside0.mk (Kd.R_below (by (with_reducible repeat (first | apply Kd.R_alloc | apply Kd.R_drewN | apply Kd.R_drew)); exact HO178.out) hb); have n5_ := Aside0.mk (Kd.R_below (by (with_reducible repeat (first | apply Kd.R_alloc | apply Kd.R_drewN | apply Kd.R_drew)); exact HO181.out) hb); have n6_ := Aside0.mk (blk_below (g := gb160) (o := .cells #[.slice A0_0 l0_0.length c0_0, .slice A0_1 l0_1.length c0_1, .slice A0_2 l0_2.length c0_2, .int .i64 a0_3] 24 (0, 0)) (by (with_reducible repeat (first | refine blk_drewN ?_ _ | refine blk_drew ?_ | refine blk_alloc ?_ _)); exact BK160.out) hb); have n7_ := Aside0.mk (below_step (by repeat (first | (with_reducible first | exact HB.out | apply below_alloc | apply pw_below_drewN | apply below_drew1 | refine below_set ?_ GE160.out) | exact HB.out)) hb); have n8_ := Aside0.mk (hbox); have n9_ := Aside0.mk ((by rw [hg]; exact (below_size (by repeat (first | (with_reducible first | exact HB.out | apply below_alloc | apply pw_below_drewN | apply below_drew1 | refine below_set ?_ GE160.out) | exact HB.out))) : w.heap.size ≤ gb183)); have n10_ := Aside0.mk ((by rw [hg]; exact (below_size (by repeat (first | (with_reducible first | exact HB.out | apply below_alloc | apply pw_below_drewN | apply below_drew1 | refine below_set ?_ GE160.out) | exact HB.out))) : w.heap.size ≤ gb183)); have n11_ := Aside0.mk ((by rw [hg]; exact Nat.ne_of_lt (blk_lt (g := gb160) (o := .cells #[.slice A0_0 l0_0.length c0_0, .slice A0_1 l0_1.length c0_1, .slice A0_2 l0_2.length c0_2, .int .i64 a0_3] 24 (0, 0)) (by (with_reducible repeat (first | refine blk_drewN ?_ _ | refine blk_drew ?_ | refine blk_alloc ?_ _)); exact BK160.out)) : gb160 ≠ gb183)); have n12_ := Aside0.mk ((by rw [hg]; exact Nat.ne_of_gt (blk_lt (g := gb160) (o := .cells #[.slice A0_0 l0_0.length c0_0, .slice A0_1 l0_1.length c0_1, .slice A0_2 l0_2.length c0_2, .int .i64 a0_3] 24 (0, 0)) (by (with_reducible repeat (first | refine blk_drewN ?_ _ | refine blk_drew ?_ | refine blk_alloc ?_ _)); exact BK160.out)) : gb183 ≠ gb160)); clear HO164; clear HO167; clear HO170; clear HO175; clear HO178; clear HO181; clear BK160; clear HB; have HO164 := n0_; have HO167 := n1_; have HO170 := n2_; have HO175 := n3_; have HO178 := n4_; have HO181 := n5_; have BK160 := n6_; have HB := n7_; have BK183 := n8_; have GW183 := n9_; have GE183 := n10_; have NB160_183 := n11_; have NB183_160 := n12_; clear n0_ n1_ n2_ n3_ n4_ n5_ n6_ n7_ n8_ n9_ n10_ n11_ n12_; clear hb hbox hg; obtain ⟨Ao27, co27, eo27⟩ := Kd.R_slice HO175.out; subst eo27; have hnb28 := NB183_160.out; have hnc28 := NB160_183.out; have hcz29_0 : w26.cell? ⟨gb183, 0, none⟩ = some (.slice none 0 0) := (blk_cell BK183.out 0).trans rfl; have hcz29_1 : w26.cell? ⟨gb183, 1, none⟩ = some (.slice none 0 0) := (blk_cell BK183.out 1).trans rfl; have hcz29_2 : w26.cell? ⟨gb183, 2, none⟩ = some (.slice none 0 0) := (blk_cell BK183.out 2).trans rfl; have hcz29_3 : w26.cell? ⟨gb183, 3, none⟩ = some (.int .i64 0) := (blk_cell BK183.out 3).trans rfl; have hfz29_0 := blk_frozen BK183.out 0; have hfz29_1 := blk_frozen BK183.out 1; have hfz29_2 := blk_frozen BK183.out 2; have hfz29_3 := blk_frozen BK183.out 3; obtain ⟨Ao30, co30, eo30⟩ := Kd.R_slice HO178.out; subst eo30; obtain ⟨Ao31, co31, eo31⟩ := Kd.R_slice HO181.out; subst eo31) | ((with_reducible refine gate_callee (f := 9) rfl ?_); refine goesL_ (some 18) rfl rfl Try.func9 (by kernel_rfl) rfl #[.agg #[.slice Ao27 t173.length co27, .slice Ao30 t176.length co30, .slice Ao31 t179.length co31, .int .i64 t182]] rfl (by (try simp only [List.map_toArray, List.map_cons, List.map_nil]); first | done | rfl | (simp only [List.length_drop, List.length_take]; rfl)) ?_; (with_reducible refine (impl_GoodShown.calls k _ _ t173 _ _ t176 _ _ t179 t182 t184 _ ?side1 ?side2 ?side3 ?side4 ?side5 ?side6 A10.out).mono ?_); (case side1 => refine (Kd.R_reads' (e := 9) (base := w.heap.size) (ok := fun k_ => ((((some k_ ≠ (.slice Ao30 t176.length co30 : Value).ownBlock ∧ some k_ ≠ (.slice Ao31 t179.length co31 : Value).ownBlock) ∧ some k_ ≠ (.slice Ao20 t162.length co20 : Value).ownBlock) ∧ some k_ ≠ (.slice Ao21 t165.length co21 : Value).ownBlock) ∧ some k_ ≠ (.slice Ao22 t168.length co22 : Value).ownBlock)) (n := t173.length) (c := co27) ?_).2.2; exact (by (with_reducible repeat (first | apply Kd.R_alloc | apply Kd.R_drewN | apply Kd.R_drew)); exact (Kd.R_mono (Kd.R_far (p := ⟨gb183, 3, none⟩) (Kd.R_far (p := ⟨gb183, 2, none⟩) (Kd.R_far (p := ⟨gb183, 1, none⟩) (Kd.R_far (p := ⟨gb183, 0, none⟩) (Kd.R_types HO175.out BK183.out (by decide)) (fun _ hk => hk.2) (.slice Ao27 t173.length co27)) (fun _ hk => hk.2) (.slice Ao30 t176.length co30)) (fun _ hk => hk.2) (.slice Ao31 t179.length co31)) (fun _ hk => hk.2) (.int .i64 t182)) (fun _ h_ => h_.1)))); (case side2 => exact (Kd.R_reads' HO175.out).2.1); (case side3 => refine (Kd.R_reads' (e := 9) (base := w.heap.size) (ok := fun k_ => ((((some k_ ≠ (.slice Ao27 t173.length co27 : Value).ownBlock ∧ some k_ ≠ (.slice Ao31 t179.length co31 : Value).ownBlock) ∧ some k_ ≠ (.slice Ao20 t162.length co20 : Value).ownBlock) ∧ some k_ ≠ (.slice Ao21 t165.length co21 : Value).ownBlock) ∧ some k_ ≠ (.slice Ao22 t168.length co22 : Value).ownBlock)) (n := t176.length) (c := co30) ?_).2.2; exact (by (with_reducible repeat (first | apply Kd.R_alloc | apply Kd.R_drewN | apply Kd.R_drew)); exact (Kd.R_mono (Kd.R_far (p := ⟨gb183, 3, none⟩) (Kd.R_far (p := ⟨gb183, 2, none⟩) (Kd.R_far (p := ⟨gb183, 1, none⟩) (Kd.R_far (p := ⟨gb183, 0, none⟩) (Kd.R_types HO178.out BK183.out (by decide)) (fun _ hk => hk.2) (.slice Ao27 t173.length co27)) (fun _ hk => hk.2) (.slice Ao30 t176.length co30)) (fun _ hk => hk.2) (.slice Ao31 t179.length co31)) (fun _ hk => hk.2) (.int .i64 t182)) (fun _ h_ => h_.1)))); (case side4 => exact (Kd.R_reads' HO178.out).2.1); (case side5 => refine (Kd.R_reads' (e := 9) (base := w.heap.size) (ok := fun k_ => ((((some k_ ≠ (.slice Ao27 t173.length co27 : Value).ownBlock ∧ some k_ ≠ (.slice Ao30 t176.length co30 : Value).ownBlock) ∧ some k_ ≠ (.slice Ao20 t162.length co20 : Value).ownBlock) ∧ some k_ ≠ (.slice Ao21 t165.length co21 : Value).ownBlock) ∧ some k_ ≠ (.slice Ao22 t168.length co22 : Value).ownBlock)) (n := t179.length) (c := co31) ?_).2.2; exact (by (with_reducible repeat (first | apply Kd.R_alloc | apply Kd.R_drewN | apply Kd.R_drew)); exact (Kd.R_mono (Kd.R_far (p := ⟨gb183, 3, none⟩) (Kd.R_far (p := ⟨gb183, 2, none⟩) (Kd.R_far (p := ⟨gb183, 1, none⟩) (Kd.R_far (p := ⟨gb183, 0, none⟩) (Kd.R_types HO181.out BK183.out (by decide)) (fun _ hk => hk.2) (.slice Ao27 t173.length co27)) (fun _ hk => hk.2) (.slice Ao30 t176.length co30)) (fun _ hk => hk.2) (.slice Ao31 t179.length co31)) (fun _ hk => hk.2) (.int .i64 t182)) (fun _ h_ => h_.1)))); (case side6 => exact (Kd.R_reads' HO181.out).2.1); rintro e w32 ⟨rfl, hb⟩; refine ⟨_, rfl, ?_⟩; have n0_ := Aside0.mk (Kd.R_below (by (with_reducible repeat (first | apply Kd.R_alloc | apply Kd.R_drewN | apply Kd.R_drew)); exact (Kd.R_mono (Kd.R_far (p := ⟨gb183, 3, none⟩) (Kd.R_far (p := ⟨gb183, 2, none⟩) (Kd.R_far (p := ⟨gb183, 1, none⟩) (Kd.R_far (p := ⟨gb183, 0, none⟩) (Kd.R_types HO164.out BK183.out (by decide)) (fun _ hk => hk.2) (.slice Ao27 t173.length co27)) (fun _ hk => hk.2) (.slice Ao30 t176.length co30)) (fun _ hk => hk.2) (.slice Ao31 t179.length co31)) (fun _ hk => hk.2) (.int .i64 t182)) (fun _ h_ => h_.1))) hb); have n1_ := Aside0.mk (Kd.R_below (by (with_reducible repeat (first | apply Kd.R_alloc | apply Kd.R_drewN | apply Kd.R_drew)); exact (Kd.R_mono (Kd.R_far (p := ⟨gb183, 3, none⟩) (Kd.R_far (p := ⟨gb183, 2, none⟩) (Kd.R_far (p := ⟨gb183, 1, none⟩) (Kd.R_far (p := ⟨gb183, 0, none⟩) (Kd.R_types HO167.out BK183.out (by decide)) (fun _ hk => hk.2) (.slice Ao27 t173.length co27)) (fun _ hk => hk.2) (.slice Ao30 t176.length co30)) (fun _ hk => hk.2) (.slice Ao31 t179.length co31)) (fun _ hk => hk.2) (.int .i64 t182)) (fun _ h_ => h_.1))) hb); have n2_ := Aside0.mk (Kd.R_below (by (with_reducible repeat (first | apply Kd.R_alloc | apply Kd.R_drewN | apply Kd.R_drew)); exact (Kd.R_mono (Kd.R_far (p := ⟨gb183, 3, none⟩) (Kd.R_far (p := ⟨gb183, 2, none⟩) (Kd.R_far (p := ⟨gb183, 1, none⟩) (Kd.R_far (p := ⟨gb183, 0, none⟩) (Kd.R_types HO170.out BK183.out (by decide)) (fun _ hk => hk.2) (.slice Ao27 t173.length co27)) (fun _ hk => hk.2) (.slice Ao30 t176.length co30)) (fun _ hk => hk.2) (.slice Ao31 t179.length co31)) (fun _ hk => hk.2) (.int .i64 t182)) (fun _ h_ => h_.1))) hb); have n3_ := Aside0.mk (Kd.R_below (by (with_reducible repeat (first | apply Kd.R_alloc | apply Kd.R_drewN | apply Kd.R_drew)); exact (Kd.R_mono (Kd.R_far (p := ⟨gb183, 3, none⟩) (Kd.R_far (p := ⟨gb183, 2, none⟩) (Kd.R_far (p := ⟨gb183, 1, none⟩) (Kd.R_far (p := ⟨gb183, 0, none⟩) (Kd.R_types HO175.out BK183.out (by decide)) (fun _ hk => hk.2) (.slice Ao27 t173.length co27)) (fun _ hk => hk.2) (.slice Ao30 t176.length co30)) (fun _ hk => hk.2) (.slice Ao31 t179.length co31)) (fun _ hk => hk.2) (.int .i64 t182)) (fun _ h_ => h_.1))) hb); have n4_ := Aside0.mk (Kd.R_below (by (with_reducible repeat (first | apply Kd.R_alloc | apply Kd.R_drewN | apply Kd.R_drew)); exact (Kd.R_mono (Kd.R_far (p := ⟨gb183, 3, none⟩) (Kd.R_far (p := ⟨gb183, 2, none⟩) (Kd.R_far (p := ⟨gb183, 1, none⟩) (Kd.R_far (p := ⟨gb183, 0, none⟩) (Kd.R_types HO178.out BK183.out (by decide)) (fun _ hk => hk.2) (.slice Ao27 t173.length co27)) (fun _ hk => hk.2) (.slice Ao30 t176.length co30)) (fun _ hk => hk.2) (.slice Ao31 t179.length co31)) (fun _ hk => hk.2) (.int .i64 t182)) (fun _ h_ => h_.1))) hb); have n5_ := Aside0.mk (Kd.R_below (by (with_reducible repeat (first | apply Kd.R_alloc | apply Kd.R_drewN | apply Kd.R_drew)); exact (Kd.R_mono (Kd.R_far (p := ⟨gb183, 3, none⟩) (Kd.R_far (p := ⟨gb183, 2, none⟩) (Kd.R_far (p := ⟨gb183, 1, none⟩) (Kd.R_far (p := ⟨gb183, 0, none⟩) (Kd.R_types HO181.out BK183.out (by decide)) (fun _ hk => hk.2) (.slice Ao27 t173.length co27)) (fun _ hk => hk.2) (.slice Ao30 t176.length co30)) (fun _ hk => hk.2) (.slice Ao31 t179.length co31)) (fun _ hk => hk.2) (.int .i64 t182)) (fun _ h_ => h_.1))) hb); have n6_ := Aside0.mk (blk_below (g := gb160) (o := .cells #[.slice A0_0 l0_0.length c0_0, .slice A0_1 l0_1.length c0_1, .slice A0_2 l0_2.length c0_2, .int .i64 a0_3] 24 (0, 0)) (by (with_reducible repeat (first | refine blk_drewN ?_ _ | refine blk_drew ?_ | refine blk_alloc ?_ _)); refine blk_far ?_ NB160_183.out _; (with_reducible repeat (first | refine blk_drewN ?_ _ | refine blk_drew ?_ | refine blk_alloc ?_ _)); refine blk_far ?_ NB160_183.out _; (with_reducible repeat (first | refine blk_drewN ?_ _ | refine blk_drew ?_ | refine blk_alloc ?_ _)); refine blk_far ?_ NB160_183.out _; (with_reducible repeat (first | refine blk_drewN ?_ _ | refine blk_drew ?_ | refine blk_alloc ?_ _)); refine blk_far ?_ NB160_183.out _; (with_reducible repeat (first | refine blk_drewN ?_ _ | refine blk_drew ?_ | refine blk_alloc ?_ _)); exact BK160.out) hb); have n7_ := Aside0.mk (blk_below (g := gb183) (o := .cells #[.slice Ao27 t173.length co27, .slice Ao30 t176.length co30, .slice Ao31 t179.length co31, .int .i64 t182] 27 (0, 0)) (by (with_reducible repeat (first | refine blk_drewN ?_ _ | refine blk_drew ?_ | refine blk_alloc ?_ _)); refine blk_put (cs := #[.slice Ao27 t173.length co27, .slice Ao30 t176.length co30, .slice Ao31 t179.length co31, .int .i64 0]) ?_ 3 _ rfl; (with_reducible repeat (first | refine blk_drewN ?_ _ | refine blk_drew ?_ | refine blk_alloc ?_ _)); refine blk_put (cs := #[.slice Ao27 t173.length co27, .slice Ao30 t176.length co30, .slice none 0 0, .int .i64 0]) ?_ 2 _ rfl; (with_reducible repeat (first | refine blk_drewN ?_ _ | refine blk_drew ?_ | refine blk_alloc ?_ _)); refine blk_put (cs := #[.slice Ao27 t173.length co27, .slice none 0 0, .slice none 0 0, .int .i64 0]) ?_ 1 _ rfl; (with_reducible repeat (first | refine blk_drewN ?_ _ | refine blk_drew ?_ | refine blk_alloc ?_ _)); refine blk_put (cs := #[.slice none 0 0, .slice none 0 0, .slice none 0 0, .int .i64 0]) ?_ 0 _ rfl; (with_reducible repeat (first | refine blk_drewN ?_ _ | refine blk_drew ?_ | refine blk_alloc ?_ _)); exact BK183.out) hb); have n8_ := Aside0.mk (below_step (by repeat (first | (with_reducible first | exact HB.out | apply below_alloc | apply pw_below_drewN | apply below_drew1 | refine below_set ?_ GE160.out | refine below_set ?_ GE183.out) | exact HB.out)) hb); clear HO164; clear HO167; clear HO170; clear HO175; clear HO178; clear HO181; clear BK160; clear BK183; clear HB; have HO164 := n0_; have HO167 := n1_; have HO170 := n2_; have HO175 := n3_; have HO178 := n4_; have HO181 := n5_; have BK160 := n6_; have BK183 := n7_; have HB := n8_; clear n0_ n1_ n2_ n3_ n4_ n5_ n6_ n7_ n8_; (try clear hb); (try clear hb2); (try clear hk); (try clear hi)))
        have n0_ := Aside0.mk (Kd.R_drew HO164.out)
        have n1_ := Aside0.mk (Kd.R_drew HO167.out)
        have n2_ := Aside0.mk (Kd.R_drew HO170.out)
        have n3_ := Aside0.mk (Kd.R_drew HO175.out)
        have n4_ := Aside0.mk (Kd.R_drew HO178.out)
        have n5_ := Aside0.mk (Kd.R_drew HO181.out)
        have n6_ := Aside0.mk (blk_drew BK160.out)
        have n7_ := Aside0.mk (blk_drew BK183.out)
        have n8_ := Aside0.mk (below_drew1 HB.out)
        clear HO164
        clear HO167
        clear HO170
        clear HO175
        clear HO178
        clear HO181
        clear BK160
        clear BK183
        clear HB
        have HO164 := n0_
        have HO167 := n1_
        have HO170 := n2_
        have HO175 := n3_
        have HO178 := n4_
        have HO181 := n5_
        have BK160 := n6_
        have BK183 := n7_
        have HB := n8_
        clear n0_ n1_ n2_ n3_ n4_ n5_ n6_ n7_ n8_
        refine start_ (n := 5) (S := fun w' => w'.cell? ⟨gb183, 0, none⟩ = some (.slice Ao27 t173.length co27) ∧ w'.cell? ⟨gb183, 1, none⟩ = some (.slice Ao30 t176.length co30) ∧ w'.cell? ⟨gb183, 2, none⟩ = some (.slice Ao31 t179.length co31) ∧ w'.cell? ⟨gb183, 3, none⟩ = some (.int .i64 t182) ∧ w'.cell? ⟨gb160, 0, none⟩ = some (.slice A0_0 l0_0.length c0_0) ∧ w'.cell? ⟨gb160, 1, none⟩ = some (.slice A0_1 l0_1.length c0_1) ∧ w'.cell? ⟨gb160, 2, none⟩ = some (.slice A0_2 l0_2.length c0_2) ∧ w'.cell? ⟨gb160, 3, none⟩ = some (.int .i64 a0_3)) (ds := []) #[false, false, false, false, false] (by kernel_rfl) rfl rfl ⟨(blk_cell BK183.out 0).trans rfl, (blk_cell BK183.out 1).trans rfl, (blk_cell BK183.out 2).trans rfl, (blk_cell BK183.out 3).trans rfl, (blk_cell BK160.out 0).trans rfl, (blk_cell BK160.out 1).trans rfl, (blk_cell BK160.out 2).trans rfl, (blk_cell BK160.out 3).trans rfl⟩ (fun hHeld => ?_)
        generalize w32.drew = w33 at HO164 HO167 HO170 HO175 HO178 HO181 BK160 BK183 HB hHeld ⊢
        refine take_ (i := 0) (N := some 22) (v := ?_) (a' := ?_) #[true, false, false, false, false] rfl rfl (by kernel_rfl) (fun _ _ _ h => h) (Or.inl ⟨by rfl, ?_⟩) hHeld ?_ ?_
        rotate_left
        · rintro w' ⟨s0, s1, s2, s3, s4, s5, s6, s7⟩
          go_simp
          with_reducible rfl
        rotate_left
        · simp only [Act.put, List.setIfInBounds_toArray, List.set_cons_zero, List.set_cons_succ, i64_w, i32_w]
          rfl
        refine take_ (i := 1) (N := some 23) (v := ?_) (a' := ?_) #[true, true, false, false, false] rfl rfl (by kernel_rfl) (fun _ _ _ h => h) (Or.inl ⟨by rfl, ?_⟩) hHeld ?_ ?_
        rotate_left
        · rintro w' ⟨s0, s1, s2, s3, s4, s5, s6, s7⟩
          go_simp
          with_reducible rfl
        rotate_left
        · simp only [Act.put, List.setIfInBounds_toArray, List.set_cons_zero, List.set_cons_succ, i64_w, i32_w]
          rfl
        refine one_ (i := 2) (N := some 24) #[true, true, true, false, false] rfl rfl (by kernel_rfl) (by decide) (fun K hK => ?_)
        refine goes_ Try.func8 (by kernel_rfl) rfl #[.agg #[.slice A0_0 l0_0.length c0_0, .slice A0_1 l0_1.length c0_1, .slice A0_2 l0_2.length c0_2, .int .i64 a0_3]] (by rfl) rfl rfl (by (try simp only [List.map_toArray, List.map_cons, List.map_nil]); first | done | rfl | (simp only [List.length_drop, List.length_take]; rfl)) ?_
        with_reducible refine (laws_toShown.calls k _ _ l0_0 _ _ l0_1 _ _ l0_2 a0_3 t185 t188 t191 t194 _ ?side1 ?side2 ?side3 ?side4 ?side5 ?side6 A12.out).mono ?_
        (case side1 => repeat (first | exact (Kd.C_below HR0_0.out HB.out) | (with_reducible refine Kd.C_alloc ?_ _) | (with_reducible refine Kd.C_drewN ?_ _) | (with_reducible refine Kd.C_drew ?_)))
        (case side2 => exact HC0_0.out)
        (case side3 => repeat (first | exact (Kd.C_below HR0_1.out HB.out) | (with_reducible refine Kd.C_alloc ?_ _) | (with_reducible refine Kd.C_drewN ?_ _) | (with_reducible refine Kd.C_drew ?_)))
        (case side4 => exact HC0_1.out)
        (case side5 => repeat (first | exact (Kd.C_below HR0_2.out HB.out) | (with_reducible refine Kd.C_alloc ?_ _) | (with_reducible refine Kd.C_drewN ?_ _) | (with_reducible refine Kd.C_drew ?_)))
        (case side6 => exact HC0_2.out)
        rintro e w34 ⟨v186, v189, v192, rfl, ho0, ho1, ho2, hb⟩
        refine ⟨_, rfl, ?_⟩
        have n0_ := Aside0.mk (Kd.R_mono (Kd.R_told (Kd.R_told (Kd.R_told (Kd.R_old (by (with_reducible repeat (first | apply Kd.R_alloc | apply Kd.R_drewN | apply Kd.R_drew)); exact HO164.out) hb) (Kd.R_base ho0)) (Kd.R_base ho1)) (Kd.R_base ho2)) (fun _ h_ => h_.1))
        have n1_ := Aside0.mk (Kd.R_mono (Kd.R_told (Kd.R_told (Kd.R_told (Kd.R_old (by (with_reducible repeat (first | apply Kd.R_alloc | apply Kd.R_drewN | apply Kd.R_drew)); exact HO167.out) hb) (Kd.R_base ho0)) (Kd.R_base ho1)) (Kd.R_base ho2)) (fun _ h_ => h_.1))
        have n2_ := Aside0.mk (Kd.R_mono (Kd.R_told (Kd.R_told (Kd.R_told (Kd.R_old (by (with_reducible repeat (first | apply Kd.R_alloc | apply Kd.R_drewN | apply Kd.R_drew)); exact HO170.out) hb) (Kd.R_base ho0)) (Kd.R_base ho1)) (Kd.R_base ho2)) (fun _ h_ => h_.1))
        have n3_ := Aside0.mk (Kd.R_mono (Kd.R_told (Kd.R_told (Kd.R_told (Kd.R_old (by (with_reducible repeat (first | apply Kd.R_alloc | apply Kd.R_drewN | apply Kd.R_drew)); exact HO175.out) hb) (Kd.R_base ho0)) (Kd.R_base ho1)) (Kd.R_base ho2)) (fun _ h_ => h_.1))
        have n4_ := Aside0.mk (Kd.R_mono (Kd.R_told (Kd.R_told (Kd.R_told (Kd.R_old (by (with_reducible repeat (first | apply Kd.R_alloc | apply Kd.R_drewN | apply Kd.R_drew)); exact HO178.out) hb) (Kd.R_base ho0)) (Kd.R_base ho1)) (Kd.R_base ho2)) (fun _ h_ => h_.1))
        have n5_ := Aside0.mk (Kd.R_mono (Kd.R_told (Kd.R_told (Kd.R_told (Kd.R_old (by (with_reducible repeat (first | apply Kd.R_alloc | apply Kd.R_drewN | apply Kd.R_drew)); exact HO181.out) hb) (Kd.R_base ho0)) (Kd.R_base ho1)) (Kd.R_base ho2)) (fun _ h_ => h_.1))
        have n6_ := Aside0.mk (Kd.R_lower (Kd.R_new' (Kd.R_new' (Kd.R_new' (Kd.R_new' (Kd.R_new' (Kd.R_new' ho0 (Kd.R_lt (by (with_reducible repeat (first | apply Kd.R_alloc | apply Kd.R_drewN | apply Kd.R_drew)); exact HO164.out))) (Kd.R_lt (by (with_reducible repeat (first | apply Kd.R_alloc | apply Kd.R_drewN | apply Kd.R_drew)); exact HO167.out))) (Kd.R_lt (by (with_reducible repeat (first | apply Kd.R_alloc | apply Kd.R_drewN | apply Kd.R_drew)); exact HO170.out))) (Kd.R_lt (by (with_reducible repeat (first | apply Kd.R_alloc | apply Kd.R_drewN | apply Kd.R_drew)); exact HO175.out))) (Kd.R_lt (by (with_reducible repeat (first | apply Kd.R_alloc | apply Kd.R_drewN | apply Kd.R_drew)); exact HO178.out))) (Kd.R_lt (by (with_reducible repeat (first | apply Kd.R_alloc | apply Kd.R_drewN | apply Kd.R_drew)); exact HO181.out))) (below_size (by repeat (first | (with_reducible first | exact HB.out | apply below_alloc | apply pw_below_drewN | apply below_drew1 | refine below_set ?_ GE160.out | refine below_set ?_ GE183.out) | exact HB.out))))
        have n7_ := Aside0.mk (Kd.R_lower (Kd.R_new' (Kd.R_new' (Kd.R_new' (Kd.R_new' (Kd.R_new' (Kd.R_new' ho1 (Kd.R_lt (by (with_reducible repeat (first | apply Kd.R_alloc | apply Kd.R_drewN | apply Kd.R_drew)); exact HO164.out))) (Kd.R_lt (by (with_reducible repeat (first | apply Kd.R_alloc | apply Kd.R_drewN | apply Kd.R_drew)); exact HO167.out))) (Kd.R_lt (by (with_reducible repeat (first | apply Kd.R_alloc | apply Kd.R_drewN | apply Kd.R_drew)); exact HO170.out))) (Kd.R_lt (by (with_reducible repeat (first | apply Kd.R_alloc | apply Kd.R_drewN | apply Kd.R_drew)); exact HO175.out))) (Kd.R_lt (by (with_reducible repeat (first | apply Kd.R_alloc | apply Kd.R_drewN | apply Kd.R_drew)); exact HO178.out))) (Kd.R_lt (by (with_reducible repeat (first | apply Kd.R_alloc | apply Kd.R_drewN | apply Kd.R_drew)); exact HO181.out))) (below_size (by repeat (first | (with_reducible first | exact HB.out | apply below_alloc | apply pw_below_drewN | apply below_drew1 | refine below_set ?_ GE160.out | refine below_set ?_ GE183.out) | exact HB.out))))
        have n8_ := Aside0.mk (Kd.R_lower (Kd.R_new' (Kd.R_new' (Kd.R_new' (Kd.R_new' (Kd.R_new' (Kd.R_new' ho2 (Kd.R_lt (by (with_reducible repeat (first | apply Kd.R_alloc | apply Kd.R_drewN | apply Kd.R_drew)); exact HO164.out))) (Kd.R_lt (by (with_reducible repeat (first | apply Kd.R_alloc | apply Kd.R_drewN | apply Kd.R_drew)); exact HO167.out))) (Kd.R_lt (by (with_reducible repeat (first | apply Kd.R_alloc | apply Kd.R_drewN | apply Kd.R_drew)); exact HO170.out))) (Kd.R_lt (by (with_reducible repeat (first | apply Kd.R_alloc | apply Kd.R_drewN | apply Kd.R_drew)); exact HO175.out))) (Kd.R_lt (by (with_reducible repeat (first | apply Kd.R_alloc | apply Kd.R_drewN | apply Kd.R_drew)); exact HO178.out))) (Kd.R_lt (by (with_reducible repeat (first | apply Kd.R_alloc | apply Kd.R_drewN | apply Kd.R_drew)); exact HO181.out))) (below_size (by repeat (first | (with_reducible first | exact HB.out | apply below_alloc | apply pw_below_drewN | apply below_drew1 | refine below_set ?_ GE160.out | refine below_set ?_ GE183.out) | exact HB.out))))
        have n9_ := Aside0.mk (blk_below (g := gb160) (o := .cells #[.slice A0_0 l0_0.length c0_0, .slice A0_1 l0_1.length c0_1, .slice A0_2 l0_2.length c0_2, .int .i64 a0_3] 24 (0, 0)) (by (with_reducible repeat (first | refine blk_drewN ?_ _ | refine blk_drew ?_ | refine blk_alloc ?_ _)); exact BK160.out) hb)
        have n10_ := Aside0.mk (blk_below (g := gb183) (o := .cells #[.slice Ao27 t173.length co27, .slice Ao30 t176.length co30, .slice Ao31 t179.length co31, .int .i64 t182] 27 (0, 0)) (by (with_reducible repeat (first | refine blk_drewN ?_ _ | refine blk_drew ?_ | refine blk_alloc ?_ _)); exact BK183.out) hb)
        have n11_ := Aside0.mk (below_step (by repeat (first | (with_reducible first | exact HB.out | apply below_alloc | apply pw_below_drewN | apply below_drew1 | refine below_set ?_ GE160.out | refine below_set ?_ GE183.out) | exact HB.out)) hb)
        clear HO164
        clear HO167
        clear HO170
        clear HO175
        clear HO178
        clear HO181
        clear BK160
        clear BK183
        clear HB
        have HO164 := n0_
        have HO167 := n1_
        have HO170 := n2_
        have HO175 := n3_
        have HO178 := n4_
        have HO181 := n5_
        have HO187 := n6_
        have HO190 := n7_
        have HO193 := n8_
        have BK160 := n9_
        have BK183 := n10_
        have HB := n11_
        clear n0_ n1_ n2_ n3_ n4_ n5_ n6_ n7_ n8_ n9_ n10_ n11_
        (try clear hb)
        (try clear hb2)
        (try clear hk)
        (try clear hi)
        (try clear ho0)
        (try clear ho1)
        (try clear ho2)
        obtain ⟨Ao35, co35, eo35⟩ := Kd.R_slice HO187.out
        (first | subst eo35 | (injection eo35 with f1_ f2_ f3_; have f4_ := f1_.symm; have f5_ := f3_.symm; clear f1_ f2_ f3_; subst f4_; subst f5_))
        obtain ⟨Ao36, co36, eo36⟩ := Kd.R_slice HO190.out
        (first | subst eo36 | (injection eo36 with f1_ f2_ f3_; have f4_ := f1_.symm; have f5_ := f3_.symm; clear f1_ f2_ f3_; subst f4_; subst f5_))
        obtain ⟨Ao37, co37, eo37⟩ := Kd.R_slice HO193.out
        (first | subst eo37 | (injection eo37 with f1_ f2_ f3_; have f4_ := f1_.symm; have f5_ := f3_.symm; clear f1_ f2_ f3_; subst f4_; subst f5_))
        refine hK.out _ _ ⟨(blk_cell BK183.out 0).trans rfl, (blk_cell BK183.out 1).trans rfl, (blk_cell BK183.out 2).trans rfl, (blk_cell BK183.out 3).trans rfl, (blk_cell BK160.out 0).trans rfl, (blk_cell BK160.out 1).trans rfl, (blk_cell BK160.out 2).trans rfl, (blk_cell BK160.out 3).trans rfl⟩ (fun hHeld => ?_)
        clear hK K
        refine norm_ (a' := ?_) ?_ ?_
        rotate_left
        · show Act.put _ (some 24) _ = _
          simp only [Act.put, List.setIfInBounds_toArray, List.set_cons_zero, List.set_cons_succ, i64_w, i32_w]
          rfl
        refine one_ (i := 3) (N := some 25) #[true, true, true, true, false] rfl rfl (by kernel_rfl) (by decide) (fun K hK => ?_)
        refine goes_ Try.func10 (by kernel_rfl) rfl #[.agg #[.slice Ao27 t173.length co27, .slice Ao30 t176.length co30, .slice Ao31 t179.length co31, .int .i64 t182], .agg #[.slice Ao35 t185.length co35, .slice Ao36 t188.length co36, .slice Ao37 t191.length co37, .int .i64 t194]] (by rfl) rfl rfl (by (try simp only [List.map_toArray, List.map_cons, List.map_nil]); first | done | rfl | (simp only [List.length_drop, List.length_take]; rfl)) ?_
        with_reducible refine (laws_eqShown.calls k _ _ t173 _ _ t176 _ _ t179 t182 _ _ t185 _ _ t188 _ _ t191 t194 true _ ?side1 ?side2 ?side3 ?side4 ?side5 ?side6 ?side7 ?side8 ?side9 ?side10 ?side11 ?side12 A13.out).mono ?_
        (case side1 => repeat (first | exact (Kd.R_reads' HO175.out).2.2 | (with_reducible refine Kd.C_alloc ?_ _) | (with_reducible refine Kd.C_drewN ?_ _) | (with_reducible refine Kd.C_drew ?_)))
        (case side2 => exact (Kd.R_reads' HO175.out).2.1)
        (case side3 => repeat (first | exact (Kd.R_reads' HO178.out).2.2 | (with_reducible refine Kd.C_alloc ?_ _) | (with_reducible refine Kd.C_drewN ?_ _) | (with_reducible refine Kd.C_drew ?_)))
        (case side4 => exact (Kd.R_reads' HO178.out).2.1)
        (case side5 => repeat (first | exact (Kd.R_reads' HO181.out).2.2 | (with_reducible refine Kd.C_alloc ?_ _) | (with_reducible refine Kd.C_drewN ?_ _) | (with_reducible refine Kd.C_drew ?_)))
        (case side6 => exact (Kd.R_reads' HO181.out).2.1)
        (case side7 => repeat (first | exact (Kd.R_reads' HO187.out).2.2 | (with_reducible refine Kd.C_alloc ?_ _) | (with_reducible refine Kd.C_drewN ?_ _) | (with_reducible refine Kd.C_drew ?_)))
        (case side8 => exact (Kd.R_reads' HO187.out).2.1)
        (case side9 => repeat (first | exact (Kd.R_reads' HO190.out).2.2 | (with_reducible refine Kd.C_alloc ?_ _) | (with_reducible refine Kd.C_drewN ?_ _) | (with_reducible refine Kd.C_drew ?_)))
        (case side10 => exact (Kd.R_reads' HO190.out).2.1)
        (case side11 => repeat (first | exact (Kd.R_reads' HO193.out).2.2 | (with_reducible refine Kd.C_alloc ?_ _) | (with_reducible refine Kd.C_drewN ?_ _) | (with_reducible refine Kd.C_drew ?_)))
        (case side12 => exact (Kd.R_reads' HO193.out).2.1)
        rintro e w38 ⟨rfl, hb⟩
        refine ⟨_, rfl, ?_⟩
        have n0_ := Aside0.mk (Kd.R_below (by (with_reducible repeat (first | apply Kd.R_alloc | apply Kd.R_drewN | apply Kd.R_drew)); exact HO164.out) hb)
        have n1_ := Aside0.mk (Kd.R_below (by (with_reducible repeat (first | apply Kd.R_alloc | apply Kd.R_drewN | apply Kd.R_drew)); exact HO167.out) hb)
        have n2_ := Aside0.mk (Kd.R_below (by (with_reducible repeat (first | apply Kd.R_alloc | apply Kd.R_drewN | apply Kd.R_drew)); exact HO170.out) hb)
        have n3_ := Aside0.mk (Kd.R_below (by (with_reducible repeat (first | apply Kd.R_alloc | apply Kd.R_drewN | apply Kd.R_drew)); exact HO175.out) hb)
        have n4_ := Aside0.mk (Kd.R_below (by (with_reducible repeat (first | apply Kd.R_alloc | apply Kd.R_drewN | apply Kd.R_drew)); exact HO178.out) hb)
        have n5_ := Aside0.mk (Kd.R_below (by (with_reducible repeat (first | apply Kd.R_alloc | apply Kd.R_drewN | apply Kd.R_drew)); exact HO181.out) hb)
        have n6_ := Aside0.mk (Kd.R_below (by (with_reducible repeat (first | apply Kd.R_alloc | apply Kd.R_drewN | apply Kd.R_drew)); exact HO187.out) hb)
        have n7_ := Aside0.mk (Kd.R_below (by (with_reducible repeat (first | apply Kd.R_alloc | apply Kd.R_drewN | apply Kd.R_drew)); exact HO190.out) hb)
        have n8_ := Aside0.mk (Kd.R_below (by (with_reducible repeat (first | apply Kd.R_alloc | apply Kd.R_drewN | apply Kd.R_drew)); exact HO193.out) hb)
        have n9_ := Aside0.mk (blk_below (g := gb160) (o := .cells #[.slice A0_0 l0_0.length c0_0, .slice A0_1 l0_1.length c0_1, .slice A0_2 l0_2.length c0_2, .int .i64 a0_3] 24 (0, 0)) (by (with_reducible repeat (first | refine blk_drewN ?_ _ | refine blk_drew ?_ | refine blk_alloc ?_ _)); exact BK160.out) hb)
        have n10_ := Aside0.mk (blk_below (g := gb183) (o := .cells #[.slice Ao27 t173.length co27, .slice Ao30 t176.length co30, .slice Ao31 t179.length co31, .int .i64 t182] 27 (0, 0)) (by (with_reducible repeat (first | refine blk_drewN ?_ _ | refine blk_drew ?_ | refine blk_alloc ?_ _)); exact BK183.out) hb)
        have n11_ := Aside0.mk (below_step (by repeat (first | (with_reducible first | exact HB.out | apply below_alloc | apply pw_below_drewN | apply below_drew1 | refine below_set ?_ GE160.out | refine below_set ?_ GE183.out) | exact HB.out)) hb)
        clear HO164
        clear HO167
        clear HO170
        clear HO175
        clear HO178
        clear HO181
        clear HO187
        clear HO190
        clear HO193
        clear BK160
        clear BK183
        clear HB
        have HO164 := n0_
        have HO167 := n1_
        have HO170 := n2_
        have HO175 := n3_
        have HO178 := n4_
        have HO181 := n5_
        have HO187 := n6_
        have HO190 := n7_
        have HO193 := n8_
        have BK160 := n9_
        have BK183 := n10_
        have HB := n11_
        clear n0_ n1_ n2_ n3_ n4_ n5_ n6_ n7_ n8_ n9_ n10_ n11_
        (try clear hb)
        (try clear hb2)
        (try clear hk)
        (try clear hi)
        refine hK.out _ _ ⟨(blk_cell BK183.out 0).trans rfl, (blk_cell BK183.out 1).trans rfl, (blk_cell BK183.out 2).trans rfl, (blk_cell BK183.out 3).trans rfl, (blk_cell BK160.out 0).trans rfl, (blk_cell BK160.out 1).trans rfl, (blk_cell BK160.out 2).trans rfl, (blk_cell BK160.out 3).trans rfl⟩ (fun hHeld => ?_)
        clear hK K
        refine norm_ (a' := ?_) ?_ ?_
        rotate_left
        · show Act.put _ (some 25) _ = _
          simp only [Act.put, List.setIfInBounds_toArray, List.set_cons_zero, List.set_cons_succ, i64_w, i32_w]
          rfl
        refine pure_ (i := 4) (N := some 26) (v := ?_) (a' := ?_) #[true, true, true, true, true] rfl rfl (by kernel_rfl) (fun _ _ _ h => h) (Or.inl ⟨by rfl, ?_⟩) ?_ ?_
        rotate_left
        · intro w'
          go_simp
          with_reducible rfl
        rotate_left
        · simp only [Act.put, List.setIfInBounds_toArray, List.set_cons_zero, List.set_cons_succ, i64_w, i32_w]
          rfl
        refine done_ (by kernel_rfl) ?_
        try go_wp2
        go_ret
        exact ⟨by first | rfl | (simp [errW_none, errW_some] <;> rfl) | (simp [*, errW_none, errW_some] <;> rfl), by repeat (first | (with_reducible first | exact HB.out | apply below_alloc | apply pw_below_drewN | apply below_drew1 | refine below_set ?_ GE160.out | refine below_set ?_ GE183.out) | exact HB.out)⟩
      · replace c14 := Bool.eq_false_iff.mpr c14
        subst c14
        have H1 : (some false) = some r := by rw [if_neg (show ¬ (false = true) by decide)] at H; exact H
        clear H
        have H := H1
        clear H1
        exact absurd HT.out (by have H9 := Option.some.inj H; rw [← H9]; decide)

end Go.Proofs.Ytkljpeociacapaa.Fn
namespace Go.Proofs.Ytkljpeociacapaa.Pure
open Go.RowKit Go.Proofs.YtkljpeociacapaaW.PrintWords Go.Proofs.YtkljpeociacapaaW.PrintLast Go.Proofs.YtkljpeociacapaaW.PrintMore

theorem wrap_ok {n : Int} (h0 : -9223372036854775808 ≤ n) (h1 : n ≤ 9223372036854775807) : wrap64 n = n := IntWalk.wrap64_in n ⟨h0, h1⟩
theorem wrap_succ {i : Nat} (h : i ≤ 9223372036854775806) : wrap64 ((i : Int) + 1) = ((i + 1 : Nat) : Int) := by
  rw [wrap_ok (by omega) (by omega)]; omega
theorem nat_nonneg (i : Nat) : (0 : Int) ≤ (i : Int) := by omega
section
variable {α : Type} {l t : List α} {i : Nat} {x z : α}
theorem drop_nil (h : l.drop i = []) : ¬ ((i : Int) < (l.length : Int)) := by
  have := List.drop_eq_nil_iff.1 h
  omega
theorem drop_cons (h : l.drop i = x :: t) : ((i : Int) < (l.length : Int)) ∧ l[i]? = some x ∧ l.drop (i + 1) = t := by
  have hlt : i < l.length := by
    rcases Nat.lt_or_ge i l.length with h1 | h1
    · exact h1
    · rw [List.drop_eq_nil_of_le h1] at h; cases h
  rw [List.drop_eq_getElem_cons hlt] at h
  injection h with h1 h2
  exact ⟨by omega, by rw [List.getElem?_eq_getElem hlt, h1], h2⟩
theorem drop_len (h : l.drop i = t) (hi : i ≤ l.length) : i + t.length = l.length := by
  rw [← h, List.length_drop]; omega
theorem getD_at (h : l[i]? = some x) : l.getD ((i : Nat) : Int).toNat z = x := by
  rw [Int.toNat_natCast, List.getD_eq_getElem?_getD, h]; rfl
theorem take_drop_set {n : Nat} {y : α} (h : l.drop i = x :: t) : (l.take i ++ List.replicate (n + 1) z).set i y = l.take i ++ [y] ++ List.replicate n z := by
  have hlt : i < l.length := by have := (drop_cons h).1; omega
  have h0 : i = (l.take i).length := by rw [List.length_take]; omega
  rw [List.set_append_right _ _ (by omega)]
  have h1 : i - (l.take i).length = 0 := by omega
  rw [h1, List.replicate_succ]
  simp
theorem take_next (h : l.drop i = x :: t) : l.take (i + 1) = l.take i ++ [x] := by
  have hlt : i < l.length := by have := (drop_cons h).1; omega
  rw [List.take_succ_eq_append_getElem hlt]
  have := (drop_cons h).2.1
  rw [List.getElem?_eq_getElem hlt] at this
  injection this with this
  rw [this]
theorem take_all (h : l.drop i = []) : l.take i = l := List.take_of_length_le (List.drop_eq_nil_iff.1 h)
end
theorem rd_at {l : List Int} {i : Nat} {x : Int} (h : l[i]? = some x) : rd l (i : Int) = x := getD_at h
theorem rdOf_at {α : Type} {l : List α} {i : Nat} {x z : α} (h : l[i]? = some x) : rdOf z l (i : Int) = x := getD_at h
theorem toList_inj {a b : ByteArray} (h : a.toList = b.toList) : a = b := by
  have h1 : a.data.toList = b.data.toList := by rw [← Lib.toList_data, ← Lib.toList_data, h]
  exact WideShapes.bytes_inj h1
/-- The numbers from c on, as many as n. -/
def from_ (c : Int) : Nat → List Int
  | 0 => []
  | n + 1 => c :: from_ (c + 1) n
theorem from_length (c : Int) (n : Nat) : (from_ c n).length = n := by induction n generalizing c with
  | zero => rfl
  | succ n ih => simp [from_, ih]
end Go.Proofs.Ytkljpeociacapaa.Pure
namespace Go.Proofs.Ytkljpeociacapaa.Pure
open Go.RowKit Go.Proofs.YtkljpeociacapaaW.PrintWords Go.Proofs.YtkljpeociacapaaW.PrintLast Go.Proofs.YtkljpeociacapaaW.PrintMore
/-- From the end down to the begin. -/
theorem ev_down (n : Nat) (P : Nat → Prop) (hn : P n) (hs : ∀ i, i < n → P (i + 1) → P i) : P 0 := by
  have : ∀ d, d ≤ n → P (n - d) := by
    intro d
    induction d with
    | zero => intro _; simpa using hn
    | succ d ih =>
      intro hd
      refine hs _ (by omega) ?_
      have e : n - (d + 1) + 1 = n - d := by omega
      rw [e]
      exact ih (by omega)
  have := this n (Nat.le_refl _)
  simpa using this
theorem Ev.at_ {α : Type} {g : Nat → Option α} {r : α} {K : Nat} (h : ∀ k, K ≤ k → g k = some r) : Ev g r := ⟨K, h⟩
theorem Ev.all {α : Type} {g : Nat → Option α} {r : α} (h : ∀ k, g k = some r) : Ev g r := ⟨0, fun k _ => h k⟩
theorem Ev.next {α : Type} {g f : Nat → Option α} {r : α} {K : Nat} (h : ∀ k, K ≤ k → g (k + 1) = f k) (hf : Ev f r) : Ev g r := by
  obtain ⟨K', hf⟩ := hf
  refine ⟨max K K' + 1, fun k hk => ?_⟩
  obtain ⟨m, rfl⟩ : ∃ m, k = m + 1 := ⟨k - 1, by omega⟩
  rw [h m (by omega)]
  exact hf m (by omega)
theorem Ev.same {α : Type} {g f : Nat → Option α} {r : α} {K : Nat} (h : ∀ k, K ≤ k → g k = f k) (hf : Ev f r) : Ev g r := by
  obtain ⟨K', hf⟩ := hf
  exact ⟨max K K', fun k hk => (h k (by omega)).trans (hf k (by omega))⟩
/-- A copy, element by element, into a row that was made. -/
theorem copy_ev {α β : Type} (L : Nat → List β → Int → Option (List β)) (f : α → β) (z : β) (l : List α)
    (hend : ∀ k x3, L (k + 1) x3 (l.length : Int) = some x3)
    (hstep : ∀ (i : Nat) (x : α), l[i]? = some x → ∃ K, ∀ k (x3 : List β), K ≤ k → x3.length = l.length → L (k + 1) x3 (i : Int) = L k (x3.set i (f x)) ((i + 1 : Nat) : Int)) :
    Ev (fun k => L k (List.replicate l.length z) 0) (l.map f) := by
  have := ev_down l.length (fun i => Ev (fun k => L k ((l.take i).map f ++ List.replicate (l.length - i) z) (i : Int)) (l.map f)) ?_ ?_
  · simpa using this
  · refine ⟨1, fun k hk => ?_⟩
    obtain ⟨m, rfl⟩ : ∃ m, k = m + 1 := ⟨k - 1, by omega⟩
    dsimp only
    rw [hend]
    simp
  · intro i hi ih
    have hx : l[i]? = some l[i] := List.getElem?_eq_getElem hi
    obtain ⟨K, hK⟩ := hstep i _ hx
    refine Ev.next (K := K) (fun k hk => ?_) ih
    rw [hK k _ hk (by simp; omega)]
    congr 1
    have h0 : i = ((l.take i).map f).length := by simp; omega
    rw [List.set_append_right _ _ (by omega)]
    have h1 : i - ((l.take i).map f).length = 0 := by omega
    have h2 : l.length - i = (l.length - (i + 1)) + 1 := by omega
    rw [h1, h2, List.replicate_succ, List.set_cons_zero, List.take_succ_eq_append_getElem hi, List.map_append]
    simp
/-- All elements pass. -/
theorem all_ev {ρ : Type} (L : Nat → Int → Option ρ) (n : Nat) (r : ρ) (hend : ∀ k, L (k + 1) (n : Int) = some r)
    (hstep : ∀ (i : Nat), i < n → ∃ K, ∀ k, K ≤ k → L (k + 1) (i : Int) = L k ((i + 1 : Nat) : Int)) : Ev (fun k => L k 0) r := by
  have := ev_down n (fun i => Ev (fun k => L k (i : Int)) r) ⟨1, fun k hk => by obtain ⟨m, rfl⟩ : ∃ m, k = m + 1 := ⟨k - 1, by omega⟩; exact hend m⟩ (fun i hi ih => by
    obtain ⟨K, hK⟩ := hstep i hi
    exact Ev.next hK ih)
  simpa using this
end Go.Proofs.Ytkljpeociacapaa.Pure
namespace Go.Proofs.Ytkljpeociacapaa.Pure
open Go.RowKit Go.Proofs.YtkljpeociacapaaW.PrintWords Go.Proofs.YtkljpeociacapaaW.PrintLast Go.Proofs.YtkljpeociacapaaW.PrintMore
section
variable {α β γ δ : Type}
theorem Ev.up {g : Nat → Option α} {r : α} (h : Ev (fun k => g (k + 1)) r) : Ev g r := Ev.next (K := 0) (fun _ _ => rfl) h
theorem Ev.ifp {c : Prop} {dc : Decidable c} {A B : Nat → Option α} {r : α} (hc : c) (h : Ev A r) : Ev (fun k => if c then A k else B k) r :=
  Ev.same (K := 0) (fun k _ => by rw [if_pos hc]) h
theorem Ev.ifn {c : Prop} {dc : Decidable c} {A B : Nat → Option α} {r : α} (hc : ¬ c) (h : Ev B r) : Ev (fun k => if c then A k else B k) r :=
  Ev.same (K := 0) (fun k _ => by rw [if_neg hc]) h
theorem Ev.val {a r : α} (h : a = r) : Ev (fun _ => some a) r := Ev.all fun _ => by rw [h]
theorem Ev.bindS {a : α} {f : Nat → α → Option β} {r : β} (h : Ev (fun k => f k a) r) : Ev (fun k => (some a).bind (f k)) r := Ev.bind (Ev.val rfl) h
theorem Ev.some {g : Nat → Option α} {r : α} (h : Ev g r) : ∃ k, g k = some r := h.elim fun K h => ⟨K, h K (Nat.le_refl _)⟩
/-- Both come to an end, and R holds between what they answer. -/
def Twin (R : α → β → Prop) (A : Nat → Option α) (B : Nat → Option β) : Prop := ∃ a b, R a b ∧ Ev A a ∧ Ev B b
variable {R : α → β → Prop} {A A1 A2 : Nat → Option α} {B B1 B2 : Nat → Option β}
theorem Twin.of {a : α} {b : β} (h : R a b) (ha : Ev A a) (hb : Ev B b) : Twin R A B := ⟨a, b, h, ha, hb⟩
theorem Twin.val {a : α} {b : β} (h : R a b) : Twin R (fun _ => Option.some a) (fun _ => Option.some b) := ⟨a, b, h, Ev.val rfl, Ev.val rfl⟩
theorem Twin.up (h : Twin R (fun k => A (k + 1)) (fun k => B (k + 1))) : Twin R A B := by
  obtain ⟨a, b, h, ha, hb⟩ := h
  exact ⟨a, b, h, Ev.up ha, Ev.up hb⟩
theorem Twin.upL (h : Twin R (fun k => A (k + 1)) B) : Twin R A B := by
  obtain ⟨a, b, h, ha, hb⟩ := h
  exact ⟨a, b, h, Ev.up ha, hb⟩
theorem Twin.upR (h : Twin R A (fun k => B (k + 1))) : Twin R A B := by
  obtain ⟨a, b, h, ha, hb⟩ := h
  exact ⟨a, b, h, ha, Ev.up hb⟩
theorem Twin.ifpL {c : Prop} {dc : Decidable c} (hc : c) (h : Twin R A1 B) : Twin R (fun k => if c then A1 k else A2 k) B := by
  obtain ⟨a, b, h, ha, hb⟩ := h
  exact ⟨a, b, h, Ev.ifp hc ha, hb⟩
theorem Twin.ifnL {c : Prop} {dc : Decidable c} (hc : ¬ c) (h : Twin R A2 B) : Twin R (fun k => if c then A1 k else A2 k) B := by
  obtain ⟨a, b, h, ha, hb⟩ := h
  exact ⟨a, b, h, Ev.ifn hc ha, hb⟩
theorem Twin.ifpR {c : Prop} {dc : Decidable c} (hc : c) (h : Twin R A B1) : Twin R A (fun k => if c then B1 k else B2 k) := by
  obtain ⟨a, b, h, ha, hb⟩ := h
  exact ⟨a, b, h, ha, Ev.ifp hc hb⟩
theorem Twin.ifnR {c : Prop} {dc : Decidable c} (hc : ¬ c) (h : Twin R A B2) : Twin R A (fun k => if c then B1 k else B2 k) := by
  obtain ⟨a, b, h, ha, hb⟩ := h
  exact ⟨a, b, h, ha, Ev.ifn hc hb⟩
theorem Twin.bindL {g : Nat → Option γ} {a : γ} {f : Nat → γ → Option α} (hg : Ev g a) (h : Twin R (fun k => f k a) B) : Twin R (fun k => (g k).bind (f k)) B := by
  obtain ⟨x, b, h, ha, hb⟩ := h
  exact ⟨x, b, h, Ev.bind hg ha, hb⟩
theorem Twin.bindR {g : Nat → Option γ} {a : γ} {f : Nat → γ → Option β} (hg : Ev g a) (h : Twin R A (fun k => f k a)) : Twin R A (fun k => (g k).bind (f k)) := by
  obtain ⟨x, b, h, ha, hb⟩ := h
  exact ⟨x, b, h, ha, Ev.bind hg hb⟩
theorem Twin.bindSL {a : γ} {f : Nat → γ → Option α} (h : Twin R (fun k => f k a) B) : Twin R (fun k => (Option.some a).bind (f k)) B := Twin.bindL (Ev.val rfl) h
theorem Twin.bindSR {a : γ} {f : Nat → γ → Option β} (h : Twin R A (fun k => f k a)) : Twin R A (fun k => (Option.some a).bind (f k)) := Twin.bindR (Ev.val rfl) h
theorem Twin.bind {S : γ → δ → Prop} {g1 : Nat → Option γ} {g2 : Nat → Option δ} {f1 : Nat → γ → Option α} {f2 : Nat → δ → Option β} (hg : Twin S g1 g2)
    (h : ∀ a b, S a b → Twin R (fun k => f1 k a) (fun k => f2 k b)) : Twin R (fun k => (g1 k).bind (f1 k)) (fun k => (g2 k).bind (f2 k)) := by
  obtain ⟨x, y, hs, h1, h2⟩ := hg
  exact Twin.bindL h1 (Twin.bindR h2 (h x y hs))
theorem Twin.if2 {c c' : Prop} {dc : Decidable c} {dc' : Decidable c'} (e : c ↔ c') (hp : c → Twin R A1 B1) (hn : ¬ c → Twin R A2 B2) :
    Twin R (fun k => if c then A1 k else A2 k) (fun k => if c' then B1 k else B2 k) := by
  by_cases hc : c
  · exact Twin.ifpL hc (Twin.ifpR (e.1 hc) (hp hc))
  · exact Twin.ifnL hc (Twin.ifnR (fun h => hc (e.2 h)) (hn hc))
theorem Twin.same {A : Nat → Option α} {a : α} (h : Ev A a) : Twin Eq A A := ⟨a, a, rfl, h, h⟩
theorem Twin.swap (h : Twin (fun b a => R a b) B A) : Twin R A B := by
  obtain ⟨a, b, h, ha, hb⟩ := h
  exact ⟨b, a, h, hb, ha⟩
theorem Twin.mono {S : α → β → Prop} (h : Twin S A B) (i : ∀ a b, S a b → R a b) : Twin R A B := by
  obtain ⟨a, b, h, ha, hb⟩ := h
  exact ⟨a, b, i a b h, ha, hb⟩
end
theorem decT {p : Prop} [Decidable p] : (decide p = true) = p := decide_eq_true_eq
/-- A loop over an index: what holds at the end, and from each round to the one ahead of it. -/
theorem loop_down (n : Nat) {P : Nat → Prop} (hn : P n) (hs : ∀ i, i < n → P (i + 1) → P i) : ∀ i, i ≤ n → P i := by
  have : ∀ d i, i + d = n → P i := by
    intro d
    induction d with
    | zero => intro i h; have e : i = n := by omega
              rw [e]; exact hn
    | succ d ih => intro i h; exact hs i (by omega) (ih (i + 1) (by omega))
  exact fun i hi => this (n - i) i (by omega)
end Go.Proofs.Ytkljpeociacapaa.Pure
namespace Go.Proofs.Ytkljpeociacapaa.Pure
open Go.RowKit Go.Proofs.YtkljpeociacapaaW.PrintWords Go.Proofs.YtkljpeociacapaaW.PrintLast Go.Proofs.YtkljpeociacapaaW.PrintMore

/-- A string's bytes, as numbers. -/
def nm (s : ByteArray) : List Int := s.data.toList.map fun b => (b.toNat : Int)
theorem nm_length (s : ByteArray) : (nm s).length = s.size := by
  rw [nm, List.length_map, Array.length_toList]; rfl
theorem u8_inj {a b : UInt8} (h : (a.toNat : Int) = (b.toNat : Int)) : a = b := UInt8.toNat_inj.1 (by omega)
theorem nm_inj {s t : ByteArray} (h : nm s = nm t) : s = t := by
  have : s.data.toList = t.data.toList := List.map_inj_right (fun a b h => u8_inj h) |>.1 h
  exact WideShapes.bytes_inj this
theorem toList_iff {s t : ByteArray} : s.toList = t.toList ↔ nm s = nm t := by
  rw [Lib.toList_data, Lib.toList_data, nm, nm]
  exact ⟨fun h => by rw [h], fun h => List.map_inj_right (fun a b h => u8_inj h) |>.1 h⟩
theorem toList_nil {s : ByteArray} : s.toList = ([] : List UInt8) ↔ nm s = [] := by
  rw [Lib.toList_data, nm]
  simp
theorem nm_range {s : ByteArray} {x : Int} (h : x ∈ nm s) : 0 ≤ x ∧ x < 256 := by
  obtain ⟨b, _, rfl⟩ := List.mem_map.1 h
  have := UInt8.toNat_lt b
  omega
theorem bt_nm (s : ByteArray) (i : Int) : bt s i = rd (nm s) i := (rd_bytesOf s i).symm
theorem nm_get {s : ByteArray} {i : Nat} {x : Int} (h : (nm s)[i]? = some x) : bt s (i : Int) = x := by rw [bt_nm]; exact rd_at h
theorem nm_extract (s : ByteArray) (a b : Nat) : nm (s.extract a b) = ((nm s).drop a).take (b - a) := by
  rw [nm, ← Lib.toList_data, Lib.extract_toList, List.map_take, List.map_drop]; rfl
theorem nm_tail (s : ByteArray) (a : Nat) : nm (s.extract a s.size) = (nm s).drop a := by
  rw [nm_extract]
  exact List.take_of_length_le (by rw [List.length_drop, nm_length]; omega)
/-- Bytes of a tail. -/
theorem bt_tail (s : ByteArray) (a : Nat) (i : Nat) : bt (s.extract a s.size) (i : Int) = bt s ((a + i : Nat) : Int) := by
  rw [bt_nm, bt_nm, nm_tail]
  have e : ((a + i : Nat) : Int).toNat = a + i := by omega
  simp only [rd, List.getD_eq_getElem?_getD, e, Int.toNat_natCast, List.getElem?_drop]
theorem nm_nums (xs : List Int) (h : ∀ x ∈ xs, 0 ≤ x ∧ x < 256) : nm (strOfNums xs) = xs := by
  rw [nm, strOfNums_data, List.map_map]
  conv => rhs; rw [← List.map_id xs]
  refine List.map_congr_left fun x hx => ?_
  have := h x hx
  simp only [Function.comp, id, UInt8.toNat_ofNat']
  omega
theorem nums_nm (s : ByteArray) : strOfNums (nm s) = s := nm_inj (nm_nums _ fun _ h => nm_range h)
theorem nm_append (s t : ByteArray) : nm (s ++ t) = nm s ++ nm t := by
  simp [nm]
theorem nm_empty : nm (⟨#[]⟩ : ByteArray) = [] := rfl
theorem or64 (i : Nat) (x y : Int) (hx0 : 0 ≤ x) (hx : x % 2 ^ i = 0) (hx1 : x < 2 ^ 62) (hy0 : 0 ≤ y) (hy : y < 2 ^ i) (hy1 : y < 2 ^ 62) : Go.bits .or .i64 x y = x + y :=
  bits_join .i64 62 (by decide) (fun n h0 h1 => by rw [IntKind.wrap_i64]; omega) i x y hx0 hx hx1 hy0 hy hy1
/-- A row is marked, element by element: c is the next mark. -/
theorem mark_ev {α γ : Type} (L : Nat → List α → γ → Int → Option (γ × List α)) (cn : Nat → γ) (e : Nat → α → α) (l : List α)
    (hend : ∀ k x, x.length = l.length → L (k + 1) x (cn l.length) (l.length : Int) = some (cn l.length, x))
    (hstep : ∀ (i : Nat) (y : α), l[i]? = some y → ∃ K, ∀ k (x : List α), K ≤ k → x.length = l.length → x[i]? = some y → L (k + 1) x (cn i) (i : Int) = L k (x.set i (e i y)) (cn (i + 1)) ((i + 1 : Nat) : Int)) :
    Ev (fun k => L k l (cn 0) 0) (cn l.length, l.mapIdx e) := by
  have := ev_down l.length (fun i => Ev (fun k => L k ((l.mapIdx e).take i ++ l.drop i) (cn i) (i : Int)) (cn l.length, l.mapIdx e)) ?_ ?_
  · simpa using this
  · refine ⟨1, fun k hk => ?_⟩
    obtain ⟨m, rfl⟩ : ∃ m, k = m + 1 := ⟨k - 1, by omega⟩
    dsimp only
    rw [hend _ _ (by simp)]
    simp only [List.drop_length, List.append_nil]
    rw [List.take_of_length_le (by simp)]
  · intro i hi ih
    have hx : l[i]? = some l[i] := List.getElem?_eq_getElem hi
    have hm : i = ((l.mapIdx e).take i).length := by simp; omega
    obtain ⟨K, hK⟩ := hstep i _ hx
    refine Ev.next (K := K) (fun k hk => ?_) ih
    have hd : l.drop i = l[i] :: l.drop (i + 1) := List.drop_eq_getElem_cons hi
    have hat : ((l.mapIdx e).take i ++ l.drop i)[i]? = some l[i] := by
      rw [List.getElem?_append_right (by omega), hd]
      have h0 : i - ((l.mapIdx e).take i).length = 0 := by omega
      rw [h0]; rfl
    rw [hK k _ hk (by simp; omega) hat]
    congr 1
    rw [List.set_append_right _ _ (by omega)]
    have h1 : i - ((l.mapIdx e).take i).length = 0 := by omega
    rw [h1, hd, List.set_cons_zero, List.take_succ_eq_append_getElem (by simpa using hi)]
    simp
/-- Two rows of one length, compared element by element. -/
theorem same_ev {α : Type} [DecidableEq α] (L : Nat → Int → Option Bool) (a b : List α) (hlen : a.length = b.length) (hend : ∀ k, L (k + 1) (a.length : Int) = some true)
    (hyes : ∀ k (i : Nat) x, i < a.length → a[i]? = some x → b[i]? = some x → L (k + 1) (i : Int) = L k ((i + 1 : Nat) : Int))
    (hno : ∀ k (i : Nat) x y, i < a.length → a[i]? = some x → b[i]? = some y → x ≠ y → L (k + 1) (i : Int) = some false) : Ev (fun k => L k 0) (decide (a = b)) := by
  have key : ∀ (t u : List α) (i : Nat), a.drop i = t → b.drop i = u → i ≤ a.length → Ev (fun k => L k (i : Int)) (decide (t = u)) := by
    intro t
    induction t with
    | nil =>
      intro u i h1 h2 hi
      have h3 := drop_len h1 hi
      have h4 := drop_len h2 (by omega)
      have e : i = a.length := by simpa using h3
      have hu : u = [] := List.length_eq_zero_iff.1 (by omega)
      subst hu
      refine Ev.up ?_
      rw [e]
      exact Ev.same (K := 0) (fun k _ => hend k) (Ev.val (by simp))
    | cons x t ih =>
      intro u i h1 h2 hi
      have h3 := drop_len h1 hi
      have h4 := drop_len h2 (by omega)
      cases u with
      | nil => simp at h3 h4; omega
      | cons y u =>
        obtain ⟨p1, p2, p3⟩ := drop_cons h1
        obtain ⟨q1, q2, q3⟩ := drop_cons h2
        by_cases hxy : x = y
        · subst hxy
          have := ih u (i + 1) p3 q3 (by omega)
          have e : decide (x :: t = x :: u) = decide (t = u) := by simp
          rw [e]
          exact Ev.up (Ev.same (K := 0) (fun k _ => hyes k i x (by omega) p2 q2) this)
        · exact Ev.up (Ev.same (K := 0) (fun k _ => hno k i x y (by omega) p2 q2 hxy) (Ev.val (by simp [hxy])))
  have h := key a b 0 rfl rfl (by omega)
  exact h
end Go.Proofs.Ytkljpeociacapaa.Pure
namespace Go.Proofs.Ytkljpeociacapaa.Pure
open Go.RowKit Go.Proofs.Ytkljpeociacapaa.Fn Go.Proofs.YtkljpeociacapaaW.PrintWords Go.Proofs.YtkljpeociacapaaW.PrintLast Go.Proofs.YtkljpeociacapaaW.PrintMore
set_option linter.unusedSimpArgs false
set_option linter.unusedVariables false

abbrev eS : ByteArray := ByteArray.empty
theorem within_eq (a b c : Int) : impl_within.f a b c = some (decide (b ≤ a ∧ a ≤ c)) := by
  unfold impl_within.f
  by_cases h : b ≤ a
  · rw [if_pos h]; simp [h]
  · rw [if_neg h]; simp [h]
theorem specIn_eq (a b c : Int) : spec_l1In.f a b c = some (decide (b ≤ a ∧ a ≤ c)) := within_eq a b c
def keyOk (s : ByteArray) : Bool := decide (1 ≤ s.size ∧ s.size ≤ 12)
def valOk (s : ByteArray) : Bool := decide (s.size ≤ 12)
theorem isKey_eq (s : ByteArray) : impl_isKey.f s = some (keyOk s) := by
  simp only [impl_isKey.f, within_eq, Option.bind_some, keyOk, Option.some.injEq, decide_eq_decide]
  omega
theorem isVal_eq (s : ByteArray) : impl_isVal.f s = some (valOk s) := by
  simp only [impl_isVal.f, valOk, Option.some.injEq, decide_eq_decide]
  omega
theorem text_eq (s : ByteArray) : spec_l5Text.f s = some (valOk s) := isVal_eq s
theorem size_nil (s : ByteArray) : (s.toList != ([] : List UInt8)) = decide (1 ≤ s.size) := by
  rw [Bool.eq_iff_iff]
  simp only [bne_iff_ne, ne_eq, toList_nil, decide_eq_true_eq]
  rw [← nm_length]
  cases h : nm s with
  | nil => simp
  | cons x t => simp
theorem pair_eq (a b : ByteArray) : spec_l5Pair.f a b = some (keyOk a && valOk b) := by
  simp only [spec_l5Pair.f, text_eq, Option.bind_some, size_nil]
  cases ha : valOk a with
  | false =>
    have : keyOk a = false := by
      simp only [valOk, decide_eq_false_iff_not] at ha
      simp only [keyOk, decide_eq_false_iff_not]
      omega
    simp [this]
  | true =>
    have : keyOk a = decide (1 ≤ a.size) := by
      simp only [valOk, decide_eq_true_eq] at ha
      simp only [keyOk, decide_eq_decide]
      omega
    cases hb : valOk b <;> simp [this]
def less (a b : ByteArray) : Bool := Op.bytesLess a.toList b.toList
def riseFrom (K : List ByteArray) : List ByteArray → Nat → Bool
  | [], _ => true
  | x :: t, i => keyOk x && ((decide (i = 0) || less (rdOf eS K ((i - 1 : Nat) : Int)) x) && riseFrom K t (i + 1))
def pairsFrom (K V : List ByteArray) : List ByteArray → Nat → Bool
  | [], _ => true
  | x :: t, i => decide (i < V.length) && ((keyOk x && valOk (rdOf eS V i)) && ((decide (i = 0) || less (rdOf eS K ((i - 1 : Nat) : Int)) x) && pairsFrom K V t (i + 1)))
theorem pairs_split (K V : List ByteArray) (h : V.length = K.length) (t : List ByteArray) : ∀ (u : List ByteArray) (i : Nat), K.drop i = t → V.drop i = u → i ≤ K.length → pairsFrom K V t i = (riseFrom K t i && u.all valOk) := by
  induction t with
  | nil =>
    intro u i h1 h2 hi
    have a := drop_len h1 hi
    have b := drop_len h2 (by omega)
    simp only [List.length_nil] at a
    have : u = [] := List.length_eq_zero_iff.1 (by omega)
    subst this
    simp [pairsFrom, riseFrom]
  | cons x t ih =>
    intro u i h1 h2 hi
    have a := drop_len h1 hi
    have b := drop_len h2 (by omega)
    simp only [List.length_cons] at a
    obtain ⟨p1, p2, p3⟩ := drop_cons h1
    cases u with
    | nil => simp only [List.length_nil] at b; omega
    | cons y u =>
      obtain ⟨q1, q2, q3⟩ := drop_cons h2
      have e := ih u (i + 1) p3 q3 (by omega)
      simp only [pairsFrom, riseFrom, e, rdOf_at q2, List.all_cons]
      rw [decide_eq_true (p := i < V.length) (by omega), Bool.true_and]
      generalize (decide (i = 0) || less (rdOf eS K ((i - 1 : Nat) : Int)) x) = z
      cases keyOk x <;> cases valOk y <;> cases z <;> simp
def dig (s : ByteArray) : Bool := decide (s.size = 4)
/-- What is asked of the rest, the digests being fit. -/
def restOk (K V D : List ByteArray) (n : Int) : Bool :=
  decide (K.length ≤ 4) && (decide (V.length = K.length) && (decide (D.length = 0 ∨ D.length = K.length + 1) && decide (0 ≤ n ∧ n ≤ (K.length : Int))))
def goodShown (K V D : List ByteArray) (n : Int) : Bool := pairsFrom K V K 0 && (D.all dig && restOk K V D n)
theorem digs_ev (K V D : List ByteArray) (n : Int) (hK : K.length ≤ 1048576) (hD : D.length ≤ 1048576) (t : List ByteArray) : ∀ (i : Nat), D.drop i = t → i ≤ D.length →
    Ev (fun k => spec_GoodShown.l1 k D D.length i K V D n) (t.all dig && restOk K V D n) := by
  induction t with
  | nil =>
    intro i h hi
    have := drop_nil h
    have e : wrap64 ((K.length : Int) + 1) = (K.length : Int) + 1 := wrap_ok (by omega) (by omega)
    (refine Ev.up ?_; simp only [spec_GoodShown.l1, decT])
    simp only [specIn_eq, e]
    simp only [List.all_nil, Bool.true_and, restOk]
    (repeat (first | with_reducible refine Ev.bindS ?_ | (with_reducible refine Ev.ifp ?_ ?_; (· first | omega | assumption | rfl | (simp only [List.length_map, List.length_replicate, List.length_take, List.length_drop, List.length_append, List.length_cons, List.length_nil, List.length_set]; omega) | (simp; done))) | (with_reducible refine Ev.ifn ?_ ?_; (· first | omega | assumption | rfl | (simp only [List.length_map, List.length_replicate, List.length_take, List.length_drop, List.length_append, List.length_cons, List.length_nil, List.length_set]; omega) | (simp; done)))))
    by_cases a : K.length ≤ 4
    · rw [decide_eq_true a, Bool.true_and]
      (repeat (first | with_reducible refine Ev.bindS ?_ | (with_reducible refine Ev.ifp ?_ ?_; (· first | omega | assumption | rfl | (simp only [List.length_map, List.length_replicate, List.length_take, List.length_drop, List.length_append, List.length_cons, List.length_nil, List.length_set]; omega) | (simp; done))) | (with_reducible refine Ev.ifn ?_ ?_; (· first | omega | assumption | rfl | (simp only [List.length_map, List.length_replicate, List.length_take, List.length_drop, List.length_append, List.length_cons, List.length_nil, List.length_set]; omega) | (simp; done)))))
      by_cases b : V.length = K.length
      · rw [decide_eq_true b, Bool.true_and]
        (repeat (first | with_reducible refine Ev.bindS ?_ | (with_reducible refine Ev.ifp ?_ ?_; (· first | omega | assumption | rfl | (simp only [List.length_map, List.length_replicate, List.length_take, List.length_drop, List.length_append, List.length_cons, List.length_nil, List.length_set]; omega) | (simp; done))) | (with_reducible refine Ev.ifn ?_ ?_; (· first | omega | assumption | rfl | (simp only [List.length_map, List.length_replicate, List.length_take, List.length_drop, List.length_append, List.length_cons, List.length_nil, List.length_set]; omega) | (simp; done)))))
        by_cases c : D.length = 0
        · rw [decide_eq_true (p := D.length = 0 ∨ D.length = K.length + 1) (.inl c), Bool.true_and]
          (repeat (first | with_reducible refine Ev.bindS ?_ | (with_reducible refine Ev.ifp ?_ ?_; (· first | omega | assumption | rfl | (simp only [List.length_map, List.length_replicate, List.length_take, List.length_drop, List.length_append, List.length_cons, List.length_nil, List.length_set]; omega) | (simp; done))) | (with_reducible refine Ev.ifn ?_ ?_; (· first | omega | assumption | rfl | (simp only [List.length_map, List.length_replicate, List.length_take, List.length_drop, List.length_append, List.length_cons, List.length_nil, List.length_set]; omega) | (simp; done)))))
          exact Ev.val rfl
        · (repeat (first | with_reducible refine Ev.bindS ?_ | (with_reducible refine Ev.ifp ?_ ?_; (· first | omega | assumption | rfl | (simp only [List.length_map, List.length_replicate, List.length_take, List.length_drop, List.length_append, List.length_cons, List.length_nil, List.length_set]; omega) | (simp; done))) | (with_reducible refine Ev.ifn ?_ ?_; (· first | omega | assumption | rfl | (simp only [List.length_map, List.length_replicate, List.length_take, List.length_drop, List.length_append, List.length_cons, List.length_nil, List.length_set]; omega) | (simp; done)))))
          by_cases d : D.length = K.length + 1
          · rw [decide_eq_true (p := D.length = 0 ∨ D.length = K.length + 1) (.inr d), Bool.true_and]
            (repeat (first | with_reducible refine Ev.bindS ?_ | (with_reducible refine Ev.ifp ?_ ?_; (· first | omega | assumption | rfl | (simp only [List.length_map, List.length_replicate, List.length_take, List.length_drop, List.length_append, List.length_cons, List.length_nil, List.length_set]; omega) | (simp; done))) | (with_reducible refine Ev.ifn ?_ ?_; (· first | omega | assumption | rfl | (simp only [List.length_map, List.length_replicate, List.length_take, List.length_drop, List.length_append, List.length_cons, List.length_nil, List.length_set]; omega) | (simp; done)))))
            exact Ev.val rfl
          · rw [decide_eq_false (p := D.length = 0 ∨ D.length = K.length + 1) (by omega)]
            (repeat (first | with_reducible refine Ev.bindS ?_ | (with_reducible refine Ev.ifp ?_ ?_; (· first | omega | assumption | rfl | (simp only [List.length_map, List.length_replicate, List.length_take, List.length_drop, List.length_append, List.length_cons, List.length_nil, List.length_set]; omega) | (simp; done))) | (with_reducible refine Ev.ifn ?_ ?_; (· first | omega | assumption | rfl | (simp only [List.length_map, List.length_replicate, List.length_take, List.length_drop, List.length_append, List.length_cons, List.length_nil, List.length_set]; omega) | (simp; done)))))
            exact Ev.val rfl
      · rw [decide_eq_false b]
        (repeat (first | with_reducible refine Ev.bindS ?_ | (with_reducible refine Ev.ifp ?_ ?_; (· first | omega | assumption | rfl | (simp only [List.length_map, List.length_replicate, List.length_take, List.length_drop, List.length_append, List.length_cons, List.length_nil, List.length_set]; omega) | (simp; done))) | (with_reducible refine Ev.ifn ?_ ?_; (· first | omega | assumption | rfl | (simp only [List.length_map, List.length_replicate, List.length_take, List.length_drop, List.length_append, List.length_cons, List.length_nil, List.length_set]; omega) | (simp; done)))))
        exact Ev.val rfl
    · rw [decide_eq_false a]
      (repeat (first | with_reducible refine Ev.bindS ?_ | (with_reducible refine Ev.ifp ?_ ?_; (· first | omega | assumption | rfl | (simp only [List.length_map, List.length_replicate, List.length_take, List.length_drop, List.length_append, List.length_cons, List.length_nil, List.length_set]; omega) | (simp; done))) | (with_reducible refine Ev.ifn ?_ ?_; (· first | omega | assumption | rfl | (simp only [List.length_map, List.length_replicate, List.length_take, List.length_drop, List.length_append, List.length_cons, List.length_nil, List.length_set]; omega) | (simp; done)))))
      exact Ev.val rfl
  | cons x t ih =>
    intro i h hi
    obtain ⟨p1, p2, p3⟩ := drop_cons h
    have ih := ih (i + 1) p3 (by omega)
    (refine Ev.up ?_; simp only [spec_GoodShown.l1, decT])
    rw [rdOf_at p2, wrap_succ (by omega)]
    by_cases hx : x.size = 4
    · have e : dig x = true := decide_eq_true hx
      simp only [List.all_cons, e, Bool.true_and]
      (repeat (first | with_reducible refine Ev.bindS ?_ | (with_reducible refine Ev.ifp ?_ ?_; (· first | omega | assumption | rfl | (simp only [List.length_map, List.length_replicate, List.length_take, List.length_drop, List.length_append, List.length_cons, List.length_nil, List.length_set]; omega) | (simp; done))) | (with_reducible refine Ev.ifn ?_ ?_; (· first | omega | assumption | rfl | (simp only [List.length_map, List.length_replicate, List.length_take, List.length_drop, List.length_append, List.length_cons, List.length_nil, List.length_set]; omega) | (simp; done)))))
      exact ih
    · have e : dig x = false := decide_eq_false hx
      simp only [List.all_cons, e, Bool.false_and]
      (repeat (first | with_reducible refine Ev.bindS ?_ | (with_reducible refine Ev.ifp ?_ ?_; (· first | omega | assumption | rfl | (simp only [List.length_map, List.length_replicate, List.length_take, List.length_drop, List.length_append, List.length_cons, List.length_nil, List.length_set]; omega) | (simp; done))) | (with_reducible refine Ev.ifn ?_ ?_; (· first | omega | assumption | rfl | (simp only [List.length_map, List.length_replicate, List.length_take, List.length_drop, List.length_append, List.length_cons, List.length_nil, List.length_set]; omega) | (simp; done)))))
      exact Ev.val rfl
theorem specShown_ev (K V D : List ByteArray) (n : Int) (hK : K.length ≤ 1048576) (hV : V.length ≤ 1048576) (hD : D.length ≤ 1048576) : Ev (fun k => spec_GoodShown.f k K V D n) (goodShown K V D n) := by
  have key : ∀ (t : List ByteArray) (i : Nat), K.drop i = t → i ≤ K.length → Ev (fun k => spec_GoodShown.l0 k K K.length i K V D n) (pairsFrom K V t i && (D.all dig && restOk K V D n)) := by
    intro t
    induction t with
    | nil =>
      intro i h hi
      have := drop_nil h
      (refine Ev.up ?_; simp only [spec_GoodShown.l0, decT])
      (repeat (first | with_reducible refine Ev.bindS ?_ | (with_reducible refine Ev.ifp ?_ ?_; (· first | omega | assumption | rfl | (simp only [List.length_map, List.length_replicate, List.length_take, List.length_drop, List.length_append, List.length_cons, List.length_nil, List.length_set]; omega) | (simp; done))) | (with_reducible refine Ev.ifn ?_ ?_; (· first | omega | assumption | rfl | (simp only [List.length_map, List.length_replicate, List.length_take, List.length_drop, List.length_append, List.length_cons, List.length_nil, List.length_set]; omega) | (simp; done)))))
      exact digs_ev K V D n hK hD D 0 rfl (by omega)
    | cons x t ih =>
      intro i h hi
      obtain ⟨p1, p2, p3⟩ := drop_cons h
      have ih := ih (i + 1) p3 (by omega)
      (refine Ev.up ?_; simp only [spec_GoodShown.l0, decT])
      rw [rdOf_at p2, wrap_succ (by omega), pair_eq]
      simp only [pairsFrom]
      by_cases hlt : i < V.length
      · rw [decide_eq_true hlt, Bool.true_and]
        (repeat (first | with_reducible refine Ev.bindS ?_ | (with_reducible refine Ev.ifp ?_ ?_; (· first | omega | assumption | rfl | (simp only [List.length_map, List.length_replicate, List.length_take, List.length_drop, List.length_append, List.length_cons, List.length_nil, List.length_set]; omega) | (simp; done))) | (with_reducible refine Ev.ifn ?_ ?_; (· first | omega | assumption | rfl | (simp only [List.length_map, List.length_replicate, List.length_take, List.length_drop, List.length_append, List.length_cons, List.length_nil, List.length_set]; omega) | (simp; done)))))
        cases hp : keyOk x && valOk (rdOf eS V i) with
        | false =>
          (repeat (first | with_reducible refine Ev.bindS ?_ | (with_reducible refine Ev.ifp ?_ ?_; (· first | omega | assumption | rfl | (simp only [List.length_map, List.length_replicate, List.length_take, List.length_drop, List.length_append, List.length_cons, List.length_nil, List.length_set]; omega) | (simp; done))) | (with_reducible refine Ev.ifn ?_ ?_; (· first | omega | assumption | rfl | (simp only [List.length_map, List.length_replicate, List.length_take, List.length_drop, List.length_append, List.length_cons, List.length_nil, List.length_set]; omega) | (simp; done)))))
          exact Ev.val (by simp)
        | true =>
          rw [Bool.true_and]
          (repeat (first | with_reducible refine Ev.bindS ?_ | (with_reducible refine Ev.ifp ?_ ?_; (· first | omega | assumption | rfl | (simp only [List.length_map, List.length_replicate, List.length_take, List.length_drop, List.length_append, List.length_cons, List.length_nil, List.length_set]; omega) | (simp; done))) | (with_reducible refine Ev.ifn ?_ ?_; (· first | omega | assumption | rfl | (simp only [List.length_map, List.length_replicate, List.length_take, List.length_drop, List.length_append, List.length_cons, List.length_nil, List.length_set]; omega) | (simp; done)))))
          by_cases h0 : i = 0
          · rw [decide_eq_true h0, Bool.true_or, Bool.true_and]
            (repeat (first | with_reducible refine Ev.bindS ?_ | (with_reducible refine Ev.ifp ?_ ?_; (· first | omega | assumption | rfl | (simp only [List.length_map, List.length_replicate, List.length_take, List.length_drop, List.length_append, List.length_cons, List.length_nil, List.length_set]; omega) | (simp; done))) | (with_reducible refine Ev.ifn ?_ ?_; (· first | omega | assumption | rfl | (simp only [List.length_map, List.length_replicate, List.length_take, List.length_drop, List.length_append, List.length_cons, List.length_nil, List.length_set]; omega) | (simp; done)))))
            exact ih
          · have e : wrap64 ((i : Int) - 1) = ((i - 1 : Nat) : Int) := by rw [wrap_ok (by omega) (by omega)]; omega
            rw [decide_eq_false h0, Bool.false_or, e]
            (repeat (first | with_reducible refine Ev.bindS ?_ | (with_reducible refine Ev.ifp ?_ ?_; (· first | omega | assumption | rfl | (simp only [List.length_map, List.length_replicate, List.length_take, List.length_drop, List.length_append, List.length_cons, List.length_nil, List.length_set]; omega) | (simp; done))) | (with_reducible refine Ev.ifn ?_ ?_; (· first | omega | assumption | rfl | (simp only [List.length_map, List.length_replicate, List.length_take, List.length_drop, List.length_append, List.length_cons, List.length_nil, List.length_set]; omega) | (simp; done)))))
            cases hb : less (rdOf eS K ((i - 1 : Nat) : Int)) x with
            | true =>
              have hb' : Op.bytesLess (rdOf ByteArray.empty K ((i - 1 : Nat) : Int)).toList x.toList = true := hb
              rw [Bool.true_and]
              (repeat (first | with_reducible refine Ev.bindS ?_ | (with_reducible refine Ev.ifp ?_ ?_; (· first | omega | assumption | rfl | (simp only [List.length_map, List.length_replicate, List.length_take, List.length_drop, List.length_append, List.length_cons, List.length_nil, List.length_set]; omega) | (simp; done))) | (with_reducible refine Ev.ifn ?_ ?_; (· first | omega | assumption | rfl | (simp only [List.length_map, List.length_replicate, List.length_take, List.length_drop, List.length_append, List.length_cons, List.length_nil, List.length_set]; omega) | (simp; done)))))
              exact ih
            | false =>
              have hb' : ¬ Op.bytesLess (rdOf ByteArray.empty K ((i - 1 : Nat) : Int)).toList x.toList = true := by
                have : Op.bytesLess (rdOf ByteArray.empty K ((i - 1 : Nat) : Int)).toList x.toList = false := hb
                rw [this]; simp
              (repeat (first | with_reducible refine Ev.bindS ?_ | (with_reducible refine Ev.ifp ?_ ?_; (· first | omega | assumption | rfl | (simp only [List.length_map, List.length_replicate, List.length_take, List.length_drop, List.length_append, List.length_cons, List.length_nil, List.length_set]; omega) | (simp; done))) | (with_reducible refine Ev.ifn ?_ ?_; (· first | omega | assumption | rfl | (simp only [List.length_map, List.length_replicate, List.length_take, List.length_drop, List.length_append, List.length_cons, List.length_nil, List.length_set]; omega) | (simp; done)))))
              exact Ev.val (by simp)
      · rw [decide_eq_false hlt]
        (repeat (first | with_reducible refine Ev.bindS ?_ | (with_reducible refine Ev.ifp ?_ ?_; (· first | omega | assumption | rfl | (simp only [List.length_map, List.length_replicate, List.length_take, List.length_drop, List.length_append, List.length_cons, List.length_nil, List.length_set]; omega) | (simp; done))) | (with_reducible refine Ev.ifn ?_ ?_; (· first | omega | assumption | rfl | (simp only [List.length_map, List.length_replicate, List.length_take, List.length_drop, List.length_append, List.length_cons, List.length_nil, List.length_set]; omega) | (simp; done)))))
        exact Ev.val (by simp)
  exact key K 0 rfl (by omega)
end Go.Proofs.Ytkljpeociacapaa.Pure
namespace Go.Proofs.Ytkljpeociacapaa.Pure
open Go.RowKit Go.Proofs.Ytkljpeociacapaa.Fn Go.Proofs.YtkljpeociacapaaW.PrintWords Go.Proofs.YtkljpeociacapaaW.PrintLast Go.Proofs.YtkljpeociacapaaW.PrintMore
set_option linter.unusedSimpArgs false
set_option linter.unusedVariables false

theorem rising_ev (K : List ByteArray) (hK : K.length ≤ 1048576) : Ev (fun k => impl_areRising.f k K) (riseFrom K K 0) := by
  have key : ∀ (t : List ByteArray) (i : Nat), K.drop i = t → i ≤ K.length → Ev (fun k => impl_areRising.l0 k K K K.length i) (riseFrom K t i) := by
    intro t
    induction t with
    | nil =>
      intro i h hi
      have := drop_nil h
      (refine Ev.up ?_; simp only [impl_areRising.l0, decT])
      (repeat (first | with_reducible refine Ev.bindS ?_ | (with_reducible refine Ev.ifp ?_ ?_; (· first | omega | assumption | rfl | (simp only [List.length_map, List.length_replicate, List.length_take, List.length_drop, List.length_append, List.length_cons, List.length_nil, List.length_set]; omega) | (simp; done))) | (with_reducible refine Ev.ifn ?_ ?_; (· first | omega | assumption | rfl | (simp only [List.length_map, List.length_replicate, List.length_take, List.length_drop, List.length_append, List.length_cons, List.length_nil, List.length_set]; omega) | (simp; done)))))
      exact Ev.val rfl
    | cons x t ih =>
      intro i h hi
      obtain ⟨p1, p2, p3⟩ := drop_cons h
      have ih := ih (i + 1) p3 (by omega)
      (refine Ev.up ?_; simp only [impl_areRising.l0, decT])
      rw [rdOf_at p2, wrap_succ (by omega), isKey_eq]
      simp only [riseFrom]
      cases hp : keyOk x with
      | false =>
        (repeat (first | with_reducible refine Ev.bindS ?_ | (with_reducible refine Ev.ifp ?_ ?_; (· first | omega | assumption | rfl | (simp only [List.length_map, List.length_replicate, List.length_take, List.length_drop, List.length_append, List.length_cons, List.length_nil, List.length_set]; omega) | (simp; done))) | (with_reducible refine Ev.ifn ?_ ?_; (· first | omega | assumption | rfl | (simp only [List.length_map, List.length_replicate, List.length_take, List.length_drop, List.length_append, List.length_cons, List.length_nil, List.length_set]; omega) | (simp; done)))))
        exact Ev.val (by simp)
      | true =>
        rw [Bool.true_and]
        (repeat (first | with_reducible refine Ev.bindS ?_ | (with_reducible refine Ev.ifp ?_ ?_; (· first | omega | assumption | rfl | (simp only [List.length_map, List.length_replicate, List.length_take, List.length_drop, List.length_append, List.length_cons, List.length_nil, List.length_set]; omega) | (simp; done))) | (with_reducible refine Ev.ifn ?_ ?_; (· first | omega | assumption | rfl | (simp only [List.length_map, List.length_replicate, List.length_take, List.length_drop, List.length_append, List.length_cons, List.length_nil, List.length_set]; omega) | (simp; done)))))
        by_cases h0 : i = 0
        · rw [decide_eq_true h0, Bool.true_or, Bool.true_and]
          (repeat (first | with_reducible refine Ev.bindS ?_ | (with_reducible refine Ev.ifp ?_ ?_; (· first | omega | assumption | rfl | (simp only [List.length_map, List.length_replicate, List.length_take, List.length_drop, List.length_append, List.length_cons, List.length_nil, List.length_set]; omega) | (simp; done))) | (with_reducible refine Ev.ifn ?_ ?_; (· first | omega | assumption | rfl | (simp only [List.length_map, List.length_replicate, List.length_take, List.length_drop, List.length_append, List.length_cons, List.length_nil, List.length_set]; omega) | (simp; done)))))
          exact ih
        · have e : wrap64 ((i : Int) - 1) = ((i - 1 : Nat) : Int) := by rw [wrap_ok (by omega) (by omega)]; omega
          rw [decide_eq_false h0, Bool.false_or, e]
          (repeat (first | with_reducible refine Ev.bindS ?_ | (with_reducible refine Ev.ifp ?_ ?_; (· first | omega | assumption | rfl | (simp only [List.length_map, List.length_replicate, List.length_take, List.length_drop, List.length_append, List.length_cons, List.length_nil, List.length_set]; omega) | (simp; done))) | (with_reducible refine Ev.ifn ?_ ?_; (· first | omega | assumption | rfl | (simp only [List.length_map, List.length_replicate, List.length_take, List.length_drop, List.length_append, List.length_cons, List.length_nil, List.length_set]; omega) | (simp; done)))))
          cases hb : less (rdOf eS K ((i - 1 : Nat) : Int)) x with
          | true =>
            have hb' : Op.bytesLess (rdOf ByteArray.empty K ((i - 1 : Nat) : Int)).toList x.toList = true := hb
            rw [Bool.true_and]
            (repeat (first | with_reducible refine Ev.bindS ?_ | (with_reducible refine Ev.ifp ?_ ?_; (· first | omega | assumption | rfl | (simp only [List.length_map, List.length_replicate, List.length_take, List.length_drop, List.length_append, List.length_cons, List.length_nil, List.length_set]; omega) | (simp; done))) | (with_reducible refine Ev.ifn ?_ ?_; (· first | omega | assumption | rfl | (simp only [List.length_map, List.length_replicate, List.length_take, List.length_drop, List.length_append, List.length_cons, List.length_nil, List.length_set]; omega) | (simp; done)))))
            exact ih
          | false =>
            have hb' : ¬ Op.bytesLess (rdOf ByteArray.empty K ((i - 1 : Nat) : Int)).toList x.toList = true := by
              have : Op.bytesLess (rdOf ByteArray.empty K ((i - 1 : Nat) : Int)).toList x.toList = false := hb
              rw [this]; simp
            (repeat (first | with_reducible refine Ev.bindS ?_ | (with_reducible refine Ev.ifp ?_ ?_; (· first | omega | assumption | rfl | (simp only [List.length_map, List.length_replicate, List.length_take, List.length_drop, List.length_append, List.length_cons, List.length_nil, List.length_set]; omega) | (simp; done))) | (with_reducible refine Ev.ifn ?_ ?_; (· first | omega | assumption | rfl | (simp only [List.length_map, List.length_replicate, List.length_take, List.length_drop, List.length_append, List.length_cons, List.length_nil, List.length_set]; omega) | (simp; done)))))
            exact Ev.val (by simp)
  exact key K 0 rfl (by omega)
theorem find38_ev (l : List ByteArray) (hl : l.length ≤ 1048576) : Ev (fun k => slices_ContainsFunc_at38.f k l) (!(l.all valOk)) := by
  have key : ∀ (t : List ByteArray) (i : Nat), l.drop i = t → i ≤ l.length → ∃ r : Int, Ev (fun k => slices_IndexFunc_at38.l0 k l l.length i) r ∧ decide (r ≥ 0) = !(t.all valOk) := by
    intro t
    induction t with
    | nil =>
      intro i h hi
      have := drop_nil h
      refine ⟨-1, ?_, by simp⟩
      (refine Ev.up ?_; simp only [slices_IndexFunc_at38.l0, decT])
      (repeat (first | with_reducible refine Ev.bindS ?_ | (with_reducible refine Ev.ifp ?_ ?_; (· first | omega | assumption | rfl | (simp only [List.length_map, List.length_replicate, List.length_take, List.length_drop, List.length_append, List.length_cons, List.length_nil, List.length_set]; omega) | (simp; done))) | (with_reducible refine Ev.ifn ?_ ?_; (· first | omega | assumption | rfl | (simp only [List.length_map, List.length_replicate, List.length_take, List.length_drop, List.length_append, List.length_cons, List.length_nil, List.length_set]; omega) | (simp; done)))))
      exact Ev.val rfl
    | cons x t ih =>
      intro i h hi
      obtain ⟨p1, p2, p3⟩ := drop_cons h
      obtain ⟨r, ih, hr⟩ := ih (i + 1) p3 (by omega)
      cases hx : valOk x with
      | true =>
        refine ⟨r, ?_, by rw [List.all_cons, hx, hr]; simp⟩
        (refine Ev.up ?_; simp only [slices_IndexFunc_at38.l0, decT])
        simp only [rdOf_at p2, wrap_succ (i := i) (by omega), impl_arePairs_1.f, isVal_eq, hx, Option.bind_some]
        (repeat (first | with_reducible refine Ev.bindS ?_ | (with_reducible refine Ev.ifp ?_ ?_; (· first | omega | assumption | rfl | (simp only [List.length_map, List.length_replicate, List.length_take, List.length_drop, List.length_append, List.length_cons, List.length_nil, List.length_set]; omega) | (simp; done))) | (with_reducible refine Ev.ifn ?_ ?_; (· first | omega | assumption | rfl | (simp only [List.length_map, List.length_replicate, List.length_take, List.length_drop, List.length_append, List.length_cons, List.length_nil, List.length_set]; omega) | (simp; done)))))
        exact ih
      | false =>
        refine ⟨i, ?_, by rw [List.all_cons, hx]; simp⟩
        (refine Ev.up ?_; simp only [slices_IndexFunc_at38.l0, decT])
        simp only [rdOf_at p2, wrap_succ (i := i) (by omega), impl_arePairs_1.f, isVal_eq, hx, Option.bind_some]
        (repeat (first | with_reducible refine Ev.bindS ?_ | (with_reducible refine Ev.ifp ?_ ?_; (· first | omega | assumption | rfl | (simp only [List.length_map, List.length_replicate, List.length_take, List.length_drop, List.length_append, List.length_cons, List.length_nil, List.length_set]; omega) | (simp; done))) | (with_reducible refine Ev.ifn ?_ ?_; (· first | omega | assumption | rfl | (simp only [List.length_map, List.length_replicate, List.length_take, List.length_drop, List.length_append, List.length_cons, List.length_nil, List.length_set]; omega) | (simp; done)))))
        exact Ev.val rfl
  obtain ⟨r, h1, h2⟩ := key l 0 rfl (by omega)
  simp only [slices_ContainsFunc_at38.f]
  refine Ev.bind (g := fun k => slices_IndexFunc_at38.f k l) h1 ?_
  exact Ev.val h2
theorem find39_ev (l : List ByteArray) (hl : l.length ≤ 1048576) : Ev (fun k => slices_ContainsFunc_at39.f k l) (!(l.all dig)) := by
  have hd : ∀ x, impl_areDigests_1.f x = some (!dig x) := by
    intro x
    simp only [impl_areDigests_1.f, impl_isDigest.f, Option.bind_some, dig, Option.some.injEq]
    rw [Bool.eq_iff_iff]
    simp
    omega
  have key : ∀ (t : List ByteArray) (i : Nat), l.drop i = t → i ≤ l.length → ∃ r : Int, Ev (fun k => slices_IndexFunc_at39.l0 k l l.length i) r ∧ decide (r ≥ 0) = !(t.all dig) := by
    intro t
    induction t with
    | nil =>
      intro i h hi
      have := drop_nil h
      refine ⟨-1, ?_, by simp⟩
      (refine Ev.up ?_; simp only [slices_IndexFunc_at39.l0, decT])
      (repeat (first | with_reducible refine Ev.bindS ?_ | (with_reducible refine Ev.ifp ?_ ?_; (· first | omega | assumption | rfl | (simp only [List.length_map, List.length_replicate, List.length_take, List.length_drop, List.length_append, List.length_cons, List.length_nil, List.length_set]; omega) | (simp; done))) | (with_reducible refine Ev.ifn ?_ ?_; (· first | omega | assumption | rfl | (simp only [List.length_map, List.length_replicate, List.length_take, List.length_drop, List.length_append, List.length_cons, List.length_nil, List.length_set]; omega) | (simp; done)))))
      exact Ev.val rfl
    | cons x t ih =>
      intro i h hi
      obtain ⟨p1, p2, p3⟩ := drop_cons h
      obtain ⟨r, ih, hr⟩ := ih (i + 1) p3 (by omega)
      cases hx : dig x with
      | true =>
        refine ⟨r, ?_, by rw [List.all_cons, hx, hr]; simp⟩
        (refine Ev.up ?_; simp only [slices_IndexFunc_at39.l0, decT])
        simp only [rdOf_at p2, wrap_succ (i := i) (by omega), hd, hx]
        (repeat (first | with_reducible refine Ev.bindS ?_ | (with_reducible refine Ev.ifp ?_ ?_; (· first | omega | assumption | rfl | (simp only [List.length_map, List.length_replicate, List.length_take, List.length_drop, List.length_append, List.length_cons, List.length_nil, List.length_set]; omega) | (simp; done))) | (with_reducible refine Ev.ifn ?_ ?_; (· first | omega | assumption | rfl | (simp only [List.length_map, List.length_replicate, List.length_take, List.length_drop, List.length_append, List.length_cons, List.length_nil, List.length_set]; omega) | (simp; done)))))
        exact ih
      | false =>
        refine ⟨i, ?_, by rw [List.all_cons, hx]; simp⟩
        (refine Ev.up ?_; simp only [slices_IndexFunc_at39.l0, decT])
        simp only [rdOf_at p2, wrap_succ (i := i) (by omega), hd, hx]
        (repeat (first | with_reducible refine Ev.bindS ?_ | (with_reducible refine Ev.ifp ?_ ?_; (· first | omega | assumption | rfl | (simp only [List.length_map, List.length_replicate, List.length_take, List.length_drop, List.length_append, List.length_cons, List.length_nil, List.length_set]; omega) | (simp; done))) | (with_reducible refine Ev.ifn ?_ ?_; (· first | omega | assumption | rfl | (simp only [List.length_map, List.length_replicate, List.length_take, List.length_drop, List.length_append, List.length_cons, List.length_nil, List.length_set]; omega) | (simp; done)))))
        exact Ev.val rfl
  obtain ⟨r, h1, h2⟩ := key l 0 rfl (by omega)
  simp only [slices_ContainsFunc_at39.f]
  refine Ev.bind (g := fun k => slices_IndexFunc_at39.f k l) h1 ?_
  exact Ev.val h2
theorem digests_ev (D : List ByteArray) (hD : D.length ≤ 1048576) (a : Int) : Ev (fun k => impl_areDigests.f k D a) (decide ((D.length : Int) = a) && D.all dig) := by
  simp only [impl_areDigests.f]
  by_cases h4 : (D.length : Int) = a
  · rw [decide_eq_true h4]
    (repeat (first | with_reducible refine Ev.bindS ?_ | (with_reducible refine Ev.ifp ?_ ?_; (· first | omega | assumption | rfl | (simp only [List.length_map, List.length_replicate, List.length_take, List.length_drop, List.length_append, List.length_cons, List.length_nil, List.length_set]; omega) | (simp; done))) | (with_reducible refine Ev.ifn ?_ ?_; (· first | omega | assumption | rfl | (simp only [List.length_map, List.length_replicate, List.length_take, List.length_drop, List.length_append, List.length_cons, List.length_nil, List.length_set]; omega) | (simp; done)))))
    refine Ev.bind (find39_ev D hD) ?_
    exact Ev.val (by simp)
  · rw [decide_eq_false h4]
    (repeat (first | with_reducible refine Ev.bindS ?_ | (with_reducible refine Ev.ifp ?_ ?_; (· first | omega | assumption | rfl | (simp only [List.length_map, List.length_replicate, List.length_take, List.length_drop, List.length_append, List.length_cons, List.length_nil, List.length_set]; omega) | (simp; done))) | (with_reducible refine Ev.ifn ?_ ?_; (· first | omega | assumption | rfl | (simp only [List.length_map, List.length_replicate, List.length_take, List.length_drop, List.length_append, List.length_cons, List.length_nil, List.length_set]; omega) | (simp; done)))))
    exact Ev.val (by simp)
def pairsOk (K V : List ByteArray) : Bool := decide (K.length ≤ 40) && (decide (V.length = K.length) && (riseFrom K K 0 && V.all valOk))
theorem arePairs_ev (K V : List ByteArray) (hK : K.length ≤ 1048576) (hV : V.length ≤ 1048576) : Ev (fun k => impl_arePairs.f k K V) (pairsOk K V) := by
  simp only [impl_arePairs.f, pairsOk]
  by_cases h : K.length ≤ 40
  · rw [decide_eq_true h, Bool.true_and]
    (repeat (first | with_reducible refine Ev.bindS ?_ | (with_reducible refine Ev.ifp ?_ ?_; (· first | omega | assumption | rfl | (simp only [List.length_map, List.length_replicate, List.length_take, List.length_drop, List.length_append, List.length_cons, List.length_nil, List.length_set]; omega) | (simp; done))) | (with_reducible refine Ev.ifn ?_ ?_; (· first | omega | assumption | rfl | (simp only [List.length_map, List.length_replicate, List.length_take, List.length_drop, List.length_append, List.length_cons, List.length_nil, List.length_set]; omega) | (simp; done)))))
    by_cases h2 : V.length = K.length
    · rw [decide_eq_true h2, Bool.true_and]
      (repeat (first | with_reducible refine Ev.bindS ?_ | (with_reducible refine Ev.ifp ?_ ?_; (· first | omega | assumption | rfl | (simp only [List.length_map, List.length_replicate, List.length_take, List.length_drop, List.length_append, List.length_cons, List.length_nil, List.length_set]; omega) | (simp; done))) | (with_reducible refine Ev.ifn ?_ ?_; (· first | omega | assumption | rfl | (simp only [List.length_map, List.length_replicate, List.length_take, List.length_drop, List.length_append, List.length_cons, List.length_nil, List.length_set]; omega) | (simp; done)))))
      refine Ev.bind (rising_ev K hK) ?_
      cases riseFrom K K 0 with
      | false => (repeat (first | with_reducible refine Ev.bindS ?_ | (with_reducible refine Ev.ifp ?_ ?_; (· first | omega | assumption | rfl | (simp only [List.length_map, List.length_replicate, List.length_take, List.length_drop, List.length_append, List.length_cons, List.length_nil, List.length_set]; omega) | (simp; done))) | (with_reducible refine Ev.ifn ?_ ?_; (· first | omega | assumption | rfl | (simp only [List.length_map, List.length_replicate, List.length_take, List.length_drop, List.length_append, List.length_cons, List.length_nil, List.length_set]; omega) | (simp; done))))); exact Ev.val (by simp)
      | true =>
        (repeat (first | with_reducible refine Ev.bindS ?_ | (with_reducible refine Ev.ifp ?_ ?_; (· first | omega | assumption | rfl | (simp only [List.length_map, List.length_replicate, List.length_take, List.length_drop, List.length_append, List.length_cons, List.length_nil, List.length_set]; omega) | (simp; done))) | (with_reducible refine Ev.ifn ?_ ?_; (· first | omega | assumption | rfl | (simp only [List.length_map, List.length_replicate, List.length_take, List.length_drop, List.length_append, List.length_cons, List.length_nil, List.length_set]; omega) | (simp; done)))))
        refine Ev.bind (find38_ev V hV) ?_
        exact Ev.val (by simp)
    · rw [decide_eq_false h2]
      (repeat (first | with_reducible refine Ev.bindS ?_ | (with_reducible refine Ev.ifp ?_ ?_; (· first | omega | assumption | rfl | (simp only [List.length_map, List.length_replicate, List.length_take, List.length_drop, List.length_append, List.length_cons, List.length_nil, List.length_set]; omega) | (simp; done))) | (with_reducible refine Ev.ifn ?_ ?_; (· first | omega | assumption | rfl | (simp only [List.length_map, List.length_replicate, List.length_take, List.length_drop, List.length_append, List.length_cons, List.length_nil, List.length_set]; omega) | (simp; done)))))
      exact Ev.val (by simp)
  · rw [decide_eq_false h]
    (repeat (first | with_reducible refine Ev.bindS ?_ | (with_reducible refine Ev.ifp ?_ ?_; (· first | omega | assumption | rfl | (simp only [List.length_map, List.length_replicate, List.length_take, List.length_drop, List.length_append, List.length_cons, List.length_nil, List.length_set]; omega) | (simp; done))) | (with_reducible refine Ev.ifn ?_ ?_; (· first | omega | assumption | rfl | (simp only [List.length_map, List.length_replicate, List.length_take, List.length_drop, List.length_append, List.length_cons, List.length_nil, List.length_set]; omega) | (simp; done)))))
    exact Ev.val (by simp)
theorem implShown_ev (K V D : List ByteArray) (n : Int) (hK : K.length ≤ 1048576) (hV : V.length ≤ 1048576) (hD : D.length ≤ 1048576) : Ev (fun k => impl_GoodShown.f k K V D n) (goodShown K V D n) := by
  have e : wrap64 ((K.length : Int) + 1) = (K.length : Int) + 1 := wrap_ok (by omega) (by omega)
  simp only [impl_GoodShown.f, within_eq, e]
  by_cases h1 : K.length ≤ 4
  · (repeat (first | with_reducible refine Ev.bindS ?_ | (with_reducible refine Ev.ifp ?_ ?_; (· first | omega | assumption | rfl | (simp only [List.length_map, List.length_replicate, List.length_take, List.length_drop, List.length_append, List.length_cons, List.length_nil, List.length_set]; omega) | (simp; done))) | (with_reducible refine Ev.ifn ?_ ?_; (· first | omega | assumption | rfl | (simp only [List.length_map, List.length_replicate, List.length_take, List.length_drop, List.length_append, List.length_cons, List.length_nil, List.length_set]; omega) | (simp; done)))))
    refine Ev.bind (arePairs_ev K V hK hV) ?_
    by_cases h2 : V.length = K.length
    · have hp : pairsOk K V = (riseFrom K K 0 && V.all valOk) := by
        simp only [pairsOk, decide_eq_true (show K.length ≤ 40 by omega), decide_eq_true h2, Bool.true_and]
      have hg : goodShown K V D n = (pairsOk K V && (D.all dig && (decide (D.length = 0 ∨ D.length = K.length + 1) && decide (0 ≤ n ∧ n ≤ (K.length : Int))))) := by
        simp only [goodShown, pairs_split K V h2 K V 0 rfl rfl (by omega), hp, restOk, decide_eq_true h1, decide_eq_true h2, Bool.true_and]
      rw [hg]
      cases pairsOk K V with
      | false => (repeat (first | with_reducible refine Ev.bindS ?_ | (with_reducible refine Ev.ifp ?_ ?_; (· first | omega | assumption | rfl | (simp only [List.length_map, List.length_replicate, List.length_take, List.length_drop, List.length_append, List.length_cons, List.length_nil, List.length_set]; omega) | (simp; done))) | (with_reducible refine Ev.ifn ?_ ?_; (· first | omega | assumption | rfl | (simp only [List.length_map, List.length_replicate, List.length_take, List.length_drop, List.length_append, List.length_cons, List.length_nil, List.length_set]; omega) | (simp; done))))); exact Ev.val (by simp)
      | true =>
        rw [Bool.true_and]
        (repeat (first | with_reducible refine Ev.bindS ?_ | (with_reducible refine Ev.ifp ?_ ?_; (· first | omega | assumption | rfl | (simp only [List.length_map, List.length_replicate, List.length_take, List.length_drop, List.length_append, List.length_cons, List.length_nil, List.length_set]; omega) | (simp; done))) | (with_reducible refine Ev.ifn ?_ ?_; (· first | omega | assumption | rfl | (simp only [List.length_map, List.length_replicate, List.length_take, List.length_drop, List.length_append, List.length_cons, List.length_nil, List.length_set]; omega) | (simp; done)))))
        by_cases h3 : D.length = 0
        · (repeat (first | with_reducible refine Ev.bindS ?_ | (with_reducible refine Ev.ifp ?_ ?_; (· first | omega | assumption | rfl | (simp only [List.length_map, List.length_replicate, List.length_take, List.length_drop, List.length_append, List.length_cons, List.length_nil, List.length_set]; omega) | (simp; done))) | (with_reducible refine Ev.ifn ?_ ?_; (· first | omega | assumption | rfl | (simp only [List.length_map, List.length_replicate, List.length_take, List.length_drop, List.length_append, List.length_cons, List.length_nil, List.length_set]; omega) | (simp; done)))))
          have : D = [] := List.length_eq_zero_iff.1 h3
          subst this
          exact Ev.val (by simp)
        · (repeat (first | with_reducible refine Ev.bindS ?_ | (with_reducible refine Ev.ifp ?_ ?_; (· first | omega | assumption | rfl | (simp only [List.length_map, List.length_replicate, List.length_take, List.length_drop, List.length_append, List.length_cons, List.length_nil, List.length_set]; omega) | (simp; done))) | (with_reducible refine Ev.ifn ?_ ?_; (· first | omega | assumption | rfl | (simp only [List.length_map, List.length_replicate, List.length_take, List.length_drop, List.length_append, List.length_cons, List.length_nil, List.length_set]; omega) | (simp; done)))))
          refine Ev.bind (digests_ev D hD _) ?_
          by_cases h4 : D.length = K.length + 1
          · rw [decide_eq_true (p := D.length = 0 ∨ D.length = K.length + 1) (.inr h4), decide_eq_true (p := (D.length : Int) = (K.length : Int) + 1) (by omega), Bool.true_and, Bool.true_and]
            cases D.all dig with
            | false => (repeat (first | with_reducible refine Ev.bindS ?_ | (with_reducible refine Ev.ifp ?_ ?_; (· first | omega | assumption | rfl | (simp only [List.length_map, List.length_replicate, List.length_take, List.length_drop, List.length_append, List.length_cons, List.length_nil, List.length_set]; omega) | (simp; done))) | (with_reducible refine Ev.ifn ?_ ?_; (· first | omega | assumption | rfl | (simp only [List.length_map, List.length_replicate, List.length_take, List.length_drop, List.length_append, List.length_cons, List.length_nil, List.length_set]; omega) | (simp; done))))); exact Ev.val (by simp)
            | true => (repeat (first | with_reducible refine Ev.bindS ?_ | (with_reducible refine Ev.ifp ?_ ?_; (· first | omega | assumption | rfl | (simp only [List.length_map, List.length_replicate, List.length_take, List.length_drop, List.length_append, List.length_cons, List.length_nil, List.length_set]; omega) | (simp; done))) | (with_reducible refine Ev.ifn ?_ ?_; (· first | omega | assumption | rfl | (simp only [List.length_map, List.length_replicate, List.length_take, List.length_drop, List.length_append, List.length_cons, List.length_nil, List.length_set]; omega) | (simp; done))))); exact Ev.val (by simp)
          · rw [decide_eq_false (p := D.length = 0 ∨ D.length = K.length + 1) (by omega), decide_eq_false (p := (D.length : Int) = (K.length : Int) + 1) (by omega)]
            (repeat (first | with_reducible refine Ev.bindS ?_ | (with_reducible refine Ev.ifp ?_ ?_; (· first | omega | assumption | rfl | (simp only [List.length_map, List.length_replicate, List.length_take, List.length_drop, List.length_append, List.length_cons, List.length_nil, List.length_set]; omega) | (simp; done))) | (with_reducible refine Ev.ifn ?_ ?_; (· first | omega | assumption | rfl | (simp only [List.length_map, List.length_replicate, List.length_take, List.length_drop, List.length_append, List.length_cons, List.length_nil, List.length_set]; omega) | (simp; done)))))
            exact Ev.val (by simp)
    · have hp : pairsOk K V = false := by simp [pairsOk, h2]
      have hg : goodShown K V D n = false := by simp [goodShown, restOk, h2]
      rw [hp, hg]
      (repeat (first | with_reducible refine Ev.bindS ?_ | (with_reducible refine Ev.ifp ?_ ?_; (· first | omega | assumption | rfl | (simp only [List.length_map, List.length_replicate, List.length_take, List.length_drop, List.length_append, List.length_cons, List.length_nil, List.length_set]; omega) | (simp; done))) | (with_reducible refine Ev.ifn ?_ ?_; (· first | omega | assumption | rfl | (simp only [List.length_map, List.length_replicate, List.length_take, List.length_drop, List.length_append, List.length_cons, List.length_nil, List.length_set]; omega) | (simp; done)))))
      exact Ev.val rfl
  · have hg : goodShown K V D n = false := by simp [goodShown, restOk, h1]
    rw [hg]
    (repeat (first | with_reducible refine Ev.bindS ?_ | (with_reducible refine Ev.ifp ?_ ?_; (· first | omega | assumption | rfl | (simp only [List.length_map, List.length_replicate, List.length_take, List.length_drop, List.length_append, List.length_cons, List.length_nil, List.length_set]; omega) | (simp; done))) | (with_reducible refine Ev.ifn ?_ ?_; (· first | omega | assumption | rfl | (simp only [List.length_map, List.length_replicate, List.length_take, List.length_drop, List.length_append, List.length_cons, List.length_nil, List.length_set]; omega) | (simp; done)))))
    exact Ev.val rfl
end Go.Proofs.Ytkljpeociacapaa.Pure
namespace Go.Proofs.Ytkljpeociacapaa.Pure
open Go.RowKit Go.Proofs.Ytkljpeociacapaa.Fn Go.Proofs.YtkljpeociacapaaW.PrintWords Go.Proofs.YtkljpeociacapaaW.PrintLast Go.Proofs.YtkljpeociacapaaW.PrintMore
set_option linter.unusedSimpArgs false

theorem szStrs_ev (l : List ByteArray) (hl : l.length ≤ maxLen) (hs : ∀ y ∈ l, y.size ≤ maxLen) (a : Int) (h0 : 0 ≤ a) (h1 : a ≤ 1048576) :
    ∃ r : Int, Ev (fun k => laws_szStringS.f k l a) r ∧ r ≤ a ∧ (0 ≤ r → (l.length : Int) ≤ a ∧ ∀ y ∈ l, (y.size : Int) ≤ a) := by
  simp only [maxLen] at hl hs
  have key : ∀ (t : List ByteArray) (i : Nat) (m : Int), l.drop i = t → i ≤ l.length → 0 ≤ m → m ≤ a →
      ∃ r : Int, Ev (fun k => laws_szStringS.l0 k l m i) r ∧ r ≤ a ∧ (0 ≤ r → ∀ y ∈ t, (y.size : Int) ≤ a) := by
    intro t
    induction t with
    | nil =>
      intro i m h _ _ hm
      have := drop_nil h
      exact ⟨m, by (refine Ev.up ?_; simp only [laws_szStringS.l0, decT]); (repeat (first | with_reducible refine Ev.bindS ?_ | (with_reducible refine Ev.ifp ?_ ?_; (· first | omega | assumption | rfl | (simp only [List.length_map, List.length_replicate, List.length_take, List.length_drop, List.length_append, List.length_cons, List.length_nil, List.length_set]; omega) | (simp; done))) | (with_reducible refine Ev.ifn ?_ ?_; (· first | omega | assumption | rfl | (simp only [List.length_map, List.length_replicate, List.length_take, List.length_drop, List.length_append, List.length_cons, List.length_nil, List.length_set]; omega) | (simp; done))))); exact Ev.val rfl, hm, by simp⟩
    | cons x t ih =>
      intro i m h hi hm0 hm
      obtain ⟨p1, p2, p3⟩ := drop_cons h
      have hx := hs x (List.mem_of_getElem? p2)
      have e : wrap64 (m - (x.size : Int)) = m - (x.size : Int) := wrap_ok (by omega) (by omega)
      by_cases hlt : m - (x.size : Int) < 0
      · refine ⟨-1, ?_, by omega, by omega⟩
        (refine Ev.up ?_; simp only [laws_szStringS.l0, decT])
        rw [rdOf_at p2, e]
        (repeat (first | with_reducible refine Ev.bindS ?_ | (with_reducible refine Ev.ifp ?_ ?_; (· first | omega | assumption | rfl | (simp only [List.length_map, List.length_replicate, List.length_take, List.length_drop, List.length_append, List.length_cons, List.length_nil, List.length_set]; omega) | (simp; done))) | (with_reducible refine Ev.ifn ?_ ?_; (· first | omega | assumption | rfl | (simp only [List.length_map, List.length_replicate, List.length_take, List.length_drop, List.length_append, List.length_cons, List.length_nil, List.length_set]; omega) | (simp; done)))))
        exact Ev.val rfl
      · obtain ⟨r, q1, q2, q3⟩ := ih (i + 1) (m - x.size) p3 (by omega) (by omega) (by omega)
        refine ⟨r, ?_, q2, fun hr y hy => ?_⟩
        · (refine Ev.up ?_; simp only [laws_szStringS.l0, decT])
          rw [rdOf_at p2, e, wrap_succ (by omega)]
          (repeat (first | with_reducible refine Ev.bindS ?_ | (with_reducible refine Ev.ifp ?_ ?_; (· first | omega | assumption | rfl | (simp only [List.length_map, List.length_replicate, List.length_take, List.length_drop, List.length_append, List.length_cons, List.length_nil, List.length_set]; omega) | (simp; done))) | (with_reducible refine Ev.ifn ?_ ?_; (· first | omega | assumption | rfl | (simp only [List.length_map, List.length_replicate, List.length_take, List.length_drop, List.length_append, List.length_cons, List.length_nil, List.length_set]; omega) | (simp; done)))))
          exact q1
        · rcases List.mem_cons.1 hy with rfl | hy
          · omega
          · exact q3 hr y hy
  have e : wrap64 (a - (l.length : Int)) = a - (l.length : Int) := wrap_ok (by omega) (by omega)
  by_cases hlt : a - (l.length : Int) < 0
  · refine ⟨-1, ?_, by omega, by omega⟩
    simp only [laws_szStringS.f, e]
    (repeat (first | with_reducible refine Ev.bindS ?_ | (with_reducible refine Ev.ifp ?_ ?_; (· first | omega | assumption | rfl | (simp only [List.length_map, List.length_replicate, List.length_take, List.length_drop, List.length_append, List.length_cons, List.length_nil, List.length_set]; omega) | (simp; done))) | (with_reducible refine Ev.ifn ?_ ?_; (· first | omega | assumption | rfl | (simp only [List.length_map, List.length_replicate, List.length_take, List.length_drop, List.length_append, List.length_cons, List.length_nil, List.length_set]; omega) | (simp; done)))))
    exact Ev.val rfl
  · obtain ⟨r, q1, q2, q3⟩ := key l 0 (a - l.length) rfl (by omega) (by omega) (by omega)
    refine ⟨r, ?_, q2, fun hr => ⟨by omega, q3 hr⟩⟩
    simp only [laws_szStringS.f, e]
    (repeat (first | with_reducible refine Ev.bindS ?_ | (with_reducible refine Ev.ifp ?_ ?_; (· first | omega | assumption | rfl | (simp only [List.length_map, List.length_replicate, List.length_take, List.length_drop, List.length_append, List.length_cons, List.length_nil, List.length_set]; omega) | (simp; done))) | (with_reducible refine Ev.ifn ?_ ?_; (· first | omega | assumption | rfl | (simp only [List.length_map, List.length_replicate, List.length_take, List.length_drop, List.length_append, List.length_cons, List.length_nil, List.length_set]; omega) | (simp; done)))))
    exact q1
theorem toStrs_ev (l : List ByteArray) (hl : l.length ≤ 1048576) : Ev (fun k => laws_toStringS.f k l) l := by
  have h := copy_ev (fun k x3 i => laws_toStringS.l0 k l x3 i) id (⟨#[]⟩ : ByteArray) l ?_ ?_
  · rw [List.map_id] at h
    simp only [laws_toStringS.f, Int.toNat_natCast]
    (repeat (first | with_reducible refine Ev.bindS ?_ | (with_reducible refine Ev.ifp ?_ ?_; (· first | omega | assumption | rfl | (simp only [List.length_map, List.length_replicate, List.length_take, List.length_drop, List.length_append, List.length_cons, List.length_nil, List.length_set]; omega) | (simp; done))) | (with_reducible refine Ev.ifn ?_ ?_; (· first | omega | assumption | rfl | (simp only [List.length_map, List.length_replicate, List.length_take, List.length_drop, List.length_append, List.length_cons, List.length_nil, List.length_set]; omega) | (simp; done)))))
    exact h
  · intro k x3
    simp only [laws_toStringS.l0]
    rw [if_neg (by omega)]
  · intro i x hx
    have hlt := (List.getElem?_eq_some_iff.1 hx).1
    refine ⟨0, fun k x3 _ h3 => ?_⟩
    simp only [laws_toStringS.l0]
    rw [if_pos (by omega), if_pos (by omega), rdOf_at hx, if_pos (by omega), wrap_succ (by omega), Int.toNat_natCast]
    rfl
theorem eqStrs_ev (l : List ByteArray) (hl : l.length ≤ 1048576) : Ev (fun k => laws_eqStringS.f k l l) true := by
  have h := all_ev (fun k i => laws_eqStringS.l0 k l l i) l.length true ?_ ?_
  · simp only [laws_eqStringS.f]
    (repeat (first | with_reducible refine Ev.bindS ?_ | (with_reducible refine Ev.ifp ?_ ?_; (· first | omega | assumption | rfl | (simp only [List.length_map, List.length_replicate, List.length_take, List.length_drop, List.length_append, List.length_cons, List.length_nil, List.length_set]; omega) | (simp; done))) | (with_reducible refine Ev.ifn ?_ ?_; (· first | omega | assumption | rfl | (simp only [List.length_map, List.length_replicate, List.length_take, List.length_drop, List.length_append, List.length_cons, List.length_nil, List.length_set]; omega) | (simp; done)))))
    exact h
  · intro k
    simp only [laws_eqStringS.l0]
    rw [if_neg (by omega)]
  · intro i hi
    refine ⟨0, fun k _ => ?_⟩
    simp only [laws_eqStringS.l0]
    rw [if_pos (by omega), if_pos (by omega), if_pos (by omega), wrap_succ (by omega)]
    simp
end Go.Proofs.Ytkljpeociacapaa.Pure
namespace Go.Proofs.Ytkljpeociacapaa.Pure
open Go.RowKit Go.Proofs.Ytkljpeociacapaa.Fn Go.Proofs.YtkljpeociacapaaW.PrintWords Go.Proofs.YtkljpeociacapaaW.PrintLast Go.Proofs.YtkljpeociacapaaW.PrintMore
set_option linter.unusedSimpArgs false
set_option linter.unusedVariables false

theorem szShown_ev (K V D : List ByteArray) (n : Int) (hK : K.length ≤ maxLen ∧ ∀ y ∈ K, y.size ≤ maxLen) (hV : V.length ≤ maxLen ∧ ∀ y ∈ V, y.size ≤ maxLen) (hD : D.length ≤ maxLen ∧ ∀ y ∈ D, y.size ≤ maxLen) :
    ∃ r : Int, Ev (fun k => laws_szShown.f k K V D n 1048576) r ∧ (0 ≤ r → K.length ≤ 1048576 ∧ V.length ≤ 1048576 ∧ D.length ≤ 1048576) := by
  obtain ⟨r1, e1, l1, b1⟩ := szStrs_ev K hK.1 hK.2 1048576 (by omega) (by omega)
  simp only [laws_szShown.f]
  by_cases h1 : r1 < 0
  · refine ⟨-1, ?_, by omega⟩
    refine Ev.bind e1 ?_
    (repeat (first | with_reducible refine Ev.bindS ?_ | (with_reducible refine Ev.ifp ?_ ?_; (· first | omega | assumption | rfl | (simp only [List.length_map, List.length_replicate, List.length_take, List.length_drop, List.length_append, List.length_cons, List.length_nil, List.length_set]; omega) | (simp; done))) | (with_reducible refine Ev.ifn ?_ ?_; (· first | omega | assumption | rfl | (simp only [List.length_map, List.length_replicate, List.length_take, List.length_drop, List.length_append, List.length_cons, List.length_nil, List.length_set]; omega) | (simp; done)))))
    exact Ev.val rfl
  · obtain ⟨r2, e2, l2, b2⟩ := szStrs_ev V hV.1 hV.2 r1 (by omega) (by omega)
    by_cases h2 : r2 < 0
    · refine ⟨-1, ?_, by omega⟩
      refine Ev.bind e1 ?_
      (repeat (first | with_reducible refine Ev.bindS ?_ | (with_reducible refine Ev.ifp ?_ ?_; (· first | omega | assumption | rfl | (simp only [List.length_map, List.length_replicate, List.length_take, List.length_drop, List.length_append, List.length_cons, List.length_nil, List.length_set]; omega) | (simp; done))) | (with_reducible refine Ev.ifn ?_ ?_; (· first | omega | assumption | rfl | (simp only [List.length_map, List.length_replicate, List.length_take, List.length_drop, List.length_append, List.length_cons, List.length_nil, List.length_set]; omega) | (simp; done)))))
      refine Ev.bind e2 ?_
      (repeat (first | with_reducible refine Ev.bindS ?_ | (with_reducible refine Ev.ifp ?_ ?_; (· first | omega | assumption | rfl | (simp only [List.length_map, List.length_replicate, List.length_take, List.length_drop, List.length_append, List.length_cons, List.length_nil, List.length_set]; omega) | (simp; done))) | (with_reducible refine Ev.ifn ?_ ?_; (· first | omega | assumption | rfl | (simp only [List.length_map, List.length_replicate, List.length_take, List.length_drop, List.length_append, List.length_cons, List.length_nil, List.length_set]; omega) | (simp; done)))))
      exact Ev.val rfl
    · obtain ⟨r3, e3, l3, b3⟩ := szStrs_ev D hD.1 hD.2 r2 (by omega) (by omega)
      by_cases h3 : r3 < 0
      · refine ⟨-1, ?_, by omega⟩
        refine Ev.bind e1 ?_
        (repeat (first | with_reducible refine Ev.bindS ?_ | (with_reducible refine Ev.ifp ?_ ?_; (· first | omega | assumption | rfl | (simp only [List.length_map, List.length_replicate, List.length_take, List.length_drop, List.length_append, List.length_cons, List.length_nil, List.length_set]; omega) | (simp; done))) | (with_reducible refine Ev.ifn ?_ ?_; (· first | omega | assumption | rfl | (simp only [List.length_map, List.length_replicate, List.length_take, List.length_drop, List.length_append, List.length_cons, List.length_nil, List.length_set]; omega) | (simp; done)))))
        refine Ev.bind e2 ?_
        (repeat (first | with_reducible refine Ev.bindS ?_ | (with_reducible refine Ev.ifp ?_ ?_; (· first | omega | assumption | rfl | (simp only [List.length_map, List.length_replicate, List.length_take, List.length_drop, List.length_append, List.length_cons, List.length_nil, List.length_set]; omega) | (simp; done))) | (with_reducible refine Ev.ifn ?_ ?_; (· first | omega | assumption | rfl | (simp only [List.length_map, List.length_replicate, List.length_take, List.length_drop, List.length_append, List.length_cons, List.length_nil, List.length_set]; omega) | (simp; done)))))
        refine Ev.bind e3 ?_
        (repeat (first | with_reducible refine Ev.bindS ?_ | (with_reducible refine Ev.ifp ?_ ?_; (· first | omega | assumption | rfl | (simp only [List.length_map, List.length_replicate, List.length_take, List.length_drop, List.length_append, List.length_cons, List.length_nil, List.length_set]; omega) | (simp; done))) | (with_reducible refine Ev.ifn ?_ ?_; (· first | omega | assumption | rfl | (simp only [List.length_map, List.length_replicate, List.length_take, List.length_drop, List.length_append, List.length_cons, List.length_nil, List.length_set]; omega) | (simp; done)))))
        exact Ev.val rfl
      · have c1 := (b1 (by omega)).1
        have c2 := (b2 (by omega)).1
        have c3 := (b3 (by omega)).1
        refine ⟨r3, ?_, fun _ => ⟨by omega, by omega, by omega⟩⟩
        refine Ev.bind e1 ?_
        (repeat (first | with_reducible refine Ev.bindS ?_ | (with_reducible refine Ev.ifp ?_ ?_; (· first | omega | assumption | rfl | (simp only [List.length_map, List.length_replicate, List.length_take, List.length_drop, List.length_append, List.length_cons, List.length_nil, List.length_set]; omega) | (simp; done))) | (with_reducible refine Ev.ifn ?_ ?_; (· first | omega | assumption | rfl | (simp only [List.length_map, List.length_replicate, List.length_take, List.length_drop, List.length_append, List.length_cons, List.length_nil, List.length_set]; omega) | (simp; done)))))
        refine Ev.bind e2 ?_
        (repeat (first | with_reducible refine Ev.bindS ?_ | (with_reducible refine Ev.ifp ?_ ?_; (· first | omega | assumption | rfl | (simp only [List.length_map, List.length_replicate, List.length_take, List.length_drop, List.length_append, List.length_cons, List.length_nil, List.length_set]; omega) | (simp; done))) | (with_reducible refine Ev.ifn ?_ ?_; (· first | omega | assumption | rfl | (simp only [List.length_map, List.length_replicate, List.length_take, List.length_drop, List.length_append, List.length_cons, List.length_nil, List.length_set]; omega) | (simp; done)))))
        refine Ev.bind e3 ?_
        (repeat (first | with_reducible refine Ev.bindS ?_ | (with_reducible refine Ev.ifp ?_ ?_; (· first | omega | assumption | rfl | (simp only [List.length_map, List.length_replicate, List.length_take, List.length_drop, List.length_append, List.length_cons, List.length_nil, List.length_set]; omega) | (simp; done))) | (with_reducible refine Ev.ifn ?_ ?_; (· first | omega | assumption | rfl | (simp only [List.length_map, List.length_replicate, List.length_take, List.length_drop, List.length_append, List.length_cons, List.length_nil, List.length_set]; omega) | (simp; done)))))
        exact Ev.val rfl
theorem toShown_ev (K V D : List ByteArray) (n : Int) (hK : K.length ≤ 1048576) (hV : V.length ≤ 1048576) (hD : D.length ≤ 1048576) : Ev (fun k => laws_toShown.f k K V D n) (K, V, D, n) := by
  simp only [laws_toShown.f]
  refine Ev.bind (toStrs_ev K hK) (Ev.bind (toStrs_ev V hV) (Ev.bind (toStrs_ev D hD) ?_))
  exact Ev.val rfl
theorem eqShown_ev (K V D : List ByteArray) (n : Int) (hK : K.length ≤ 1048576) (hV : V.length ≤ 1048576) (hD : D.length ≤ 1048576) : Ev (fun k => laws_eqShown.f k K V D n K V D n) true := by
  simp only [laws_eqShown.f]
  refine Ev.bind (eqStrs_ev K hK) ?_
  (repeat (first | with_reducible refine Ev.bindS ?_ | (with_reducible refine Ev.ifp ?_ ?_; (· first | omega | assumption | rfl | (simp only [List.length_map, List.length_replicate, List.length_take, List.length_drop, List.length_append, List.length_cons, List.length_nil, List.length_set]; omega) | (simp; done))) | (with_reducible refine Ev.ifn ?_ ?_; (· first | omega | assumption | rfl | (simp only [List.length_map, List.length_replicate, List.length_take, List.length_drop, List.length_append, List.length_cons, List.length_nil, List.length_set]; omega) | (simp; done)))))
  refine Ev.bind (eqStrs_ev V hV) ?_
  (repeat (first | with_reducible refine Ev.bindS ?_ | (with_reducible refine Ev.ifp ?_ ?_; (· first | omega | assumption | rfl | (simp only [List.length_map, List.length_replicate, List.length_take, List.length_drop, List.length_append, List.length_cons, List.length_nil, List.length_set]; omega) | (simp; done))) | (with_reducible refine Ev.ifn ?_ ?_; (· first | omega | assumption | rfl | (simp only [List.length_map, List.length_replicate, List.length_take, List.length_drop, List.length_append, List.length_cons, List.length_nil, List.length_set]; omega) | (simp; done)))))
  refine Ev.bind (eqStrs_ev D hD) ?_
  (repeat (first | with_reducible refine Ev.bindS ?_ | (with_reducible refine Ev.ifp ?_ ?_; (· first | omega | assumption | rfl | (simp only [List.length_map, List.length_replicate, List.length_take, List.length_drop, List.length_append, List.length_cons, List.length_nil, List.length_set]; omega) | (simp; done))) | (with_reducible refine Ev.ifn ?_ ?_; (· first | omega | assumption | rfl | (simp only [List.length_map, List.length_replicate, List.length_take, List.length_drop, List.length_append, List.length_cons, List.length_nil, List.length_set]; omega) | (simp; done)))))
  exact Ev.val rfl
end Go.Proofs.Ytkljpeociacapaa.Pure
namespace Go.Proofs.Ytkljpeociacapaa.Pure
open Go.RowKit Go.Proofs.Ytkljpeociacapaa.Fn Go.Proofs.YtkljpeociacapaaW.PrintWords Go.Proofs.YtkljpeociacapaaW.PrintLast Go.Proofs.YtkljpeociacapaaW.PrintMore
set_option linter.unusedSimpArgs false

theorem FnExactGoodShown : ∀ (l0_0 : List ByteArray) (l0_1 : List ByteArray) (l0_2 : List ByteArray) (a0_3 : Int), (l0_0.length ≤ maxLen ∧ ∀ y1 ∈ l0_0, y1.size ≤ maxLen) → (l0_1.length ≤ maxLen ∧ ∀ y2 ∈ l0_1, y2.size ≤ maxLen) → (l0_2.length ≤ maxLen ∧ ∀ y3 ∈ l0_2, y3.size ≤ maxLen) → (Lit.int .i64 a0_3).wf = true → ∃ k, laws_FnExactGoodShown.f k l0_0 l0_1 l0_2 a0_3 = some true := by
  intro K V D n hK hV hD _
  refine Ev.some (g := fun k => laws_FnExactGoodShown.f k K V D n) ?_
  obtain ⟨r, e, hr⟩ := szShown_ev K V D n hK hV hD
  simp only [laws_FnExactGoodShown.f]
  refine Ev.bind e ?_
  by_cases h : r < 0
  · (repeat (first | with_reducible refine Ev.bindS ?_ | (with_reducible refine Ev.ifp ?_ ?_; (· first | omega | assumption | rfl | (simp only [List.length_map, List.length_replicate, List.length_take, List.length_drop, List.length_append, List.length_cons, List.length_nil, List.length_set]; omega) | (simp; done))) | (with_reducible refine Ev.ifn ?_ ?_; (· first | omega | assumption | rfl | (simp only [List.length_map, List.length_replicate, List.length_take, List.length_drop, List.length_append, List.length_cons, List.length_nil, List.length_set]; omega) | (simp; done))))); exact Ev.val rfl
  · obtain ⟨a, b, c⟩ := hr (by omega)
    have ht := toShown_ev K V D n a b c
    (repeat (first | with_reducible refine Ev.bindS ?_ | (with_reducible refine Ev.ifp ?_ ?_; (· first | omega | assumption | rfl | (simp only [List.length_map, List.length_replicate, List.length_take, List.length_drop, List.length_append, List.length_cons, List.length_nil, List.length_set]; omega) | (simp; done))) | (with_reducible refine Ev.ifn ?_ ?_; (· first | omega | assumption | rfl | (simp only [List.length_map, List.length_replicate, List.length_take, List.length_drop, List.length_append, List.length_cons, List.length_nil, List.length_set]; omega) | (simp; done)))))
    refine Ev.bind ht (Ev.bind (specShown_ev K V D n a b c) (Ev.bind ht (Ev.bind (implShown_ev K V D n a b c) ?_)))
    simp only [bne_self_eq_false]
    (repeat (first | with_reducible refine Ev.bindS ?_ | (with_reducible refine Ev.ifp ?_ ?_; (· first | omega | assumption | rfl | (simp only [List.length_map, List.length_replicate, List.length_take, List.length_drop, List.length_append, List.length_cons, List.length_nil, List.length_set]; omega) | (simp; done))) | (with_reducible refine Ev.ifn ?_ ?_; (· first | omega | assumption | rfl | (simp only [List.length_map, List.length_replicate, List.length_take, List.length_drop, List.length_append, List.length_cons, List.length_nil, List.length_set]; omega) | (simp; done)))))
    refine Ev.bind ht (Ev.bind (eqShown_ev K V D n a b c) ?_)
    (repeat (first | with_reducible refine Ev.bindS ?_ | (with_reducible refine Ev.ifp ?_ ?_; (· first | omega | assumption | rfl | (simp only [List.length_map, List.length_replicate, List.length_take, List.length_drop, List.length_append, List.length_cons, List.length_nil, List.length_set]; omega) | (simp; done))) | (with_reducible refine Ev.ifn ?_ ?_; (· first | omega | assumption | rfl | (simp only [List.length_map, List.length_replicate, List.length_take, List.length_drop, List.length_append, List.length_cons, List.length_nil, List.length_set]; omega) | (simp; done)))))
    exact Ev.val rfl
end Go.Proofs.Ytkljpeociacapaa.Pure
namespace Go.Proofs.Ytkljpeociacapaa.OpenA
open Go.RowKit Go.Deep Go.ChangeShapes Go.Joins Go.Proofs.YtkljpeociacapaaW Go.Proofs.YtkljpeociacapaaW.PrintWords

/-- What can be read as data of type t can be read as kind d, and is well formed. -/
def Op (P : Program) (t : TypeId) {α : Type} (d : Kd α) (Wf : α → Prop) : Prop :=
  ∀ {H : Type} {enc : TypeId × Value → H} {w : World} {base : Nat} {spare : Nat → Bool} {held : Bool} {fuel : Nat} {cs : List Value} {x : DataW H × List MemPlace},
    DataW.trod enc P w base spare held fuel t cs = some x → ∃ a : α, d.K w a cs ∧ Wf a

variable {P : Program} {t e : TypeId}

theorem op_int {k : IntKind} (hu : P.underlying t = some (.int k)) : Op P t (Kd.int k) (fun n => (Lit.int k n).wf = true) := by
  intro H enc w base spare held fuel cs x h
  obtain ⟨n, rfl, _, hw⟩ := DataW.trod_int hu h
  exact ⟨n, rfl, hw⟩
theorem op_bool (hu : P.underlying t = some .bool) : Op P t Kd.bool (fun _ => True) := by
  intro H enc w base spare held fuel cs x h
  obtain ⟨b, rfl, _⟩ := DataW.trod_bool hu h
  exact ⟨b, rfl, trivial⟩
theorem op_string (hu : P.underlying t = some .string) : Op P t Kd.string (fun s => s.size ≤ maxLen) := by
  intro H enc w base spare held fuel cs x h
  obtain ⟨s, rfl, _, hs⟩ := DataW.trod_string hu h
  exact ⟨s, rfl, hs⟩
theorem cells_of {w : World} {base : Nat} {a : Addr} {n : Nat} {cs : List Value} (h : w.cells? base a n = some cs) : cs.length = n ∧ ∀ j u, cs[j]? = some u → w.cell? (a.add j) = some u := by
  unfold World.cells? at h
  split at h
  · have hl := mapM_some_length h
    refine ⟨by simpa using hl, fun j u hj => ?_⟩
    have hlt : j < n := by
      have := (List.getElem?_eq_some_iff.1 hj).1
      have : cs.length = n := by simpa using hl
      omega
    have := mapM_some_get h j j (by simp [hlt])
    rw [hj] at this
    exact this
  · simp at h
theorem op_slice {α : Type} {d : Kd α} {Wf : α → Prop} (hu : P.underlying t = some (.slice e)) (hc : P.cellsOf e = d.sz) (h : Op P e d Wf) :
    Op P t (Kd.slice e d) (fun xs => xs.length ≤ maxLen ∧ ∀ x ∈ xs, Wf x) := by
  intro H enc w base spare held fuel cs x hf
  rcases open_slice hu hf with ⟨rfl, _⟩ | ⟨a, len, cap, m, n, D, Pl, rfl, _, hl, hm, hmm, hxe, hall⟩
  · exact ⟨[], ⟨none, 0, rfl, Nat.le_refl _, rfl, by simp, fun h => absurd h (by simp)⟩, by simp, by simp⟩
  · have hlm : len ≤ m := by rw [hmm]; split <;> omega
    have hx : ∀ i, i < len → ∃ y : α × List Value, w.cells? base (a.add (i * P.cellsOf e)) (P.cellsOf e) = some y.2 ∧ d.K w y.1 y.2 ∧ Wf y.1 := by
      intro i hi
      obtain ⟨cs', h1, h2⟩ := hall i (by omega)
      obtain ⟨y, h3, h4⟩ := h h2
      exact ⟨⟨y, cs'⟩, h1, h3, h4⟩
    have hx' : ∃ ys : List (α × List Value), ys.length = len ∧ ∀ i y, ys[i]? = some y → w.cells? base (a.add (i * P.cellsOf e)) (P.cellsOf e) = some y.2 ∧ d.K w y.1 y.2 ∧ Wf y.1 := by
      clear hall hf hmm hlm hl hm hxe
      induction len with
      | zero => exact ⟨[], rfl, by simp⟩
      | succ len ih =>
        obtain ⟨ys, h1, h2⟩ := ih (fun i hi => hx i (by omega))
        obtain ⟨y, hy⟩ := hx len (by omega)
        refine ⟨ys ++ [y], by simp [h1], fun i z hz => ?_⟩
        rcases Nat.lt_or_ge i ys.length with hi | hi
        · rw [List.getElem?_append_left hi] at hz
          exact h2 i z hz
        · rw [List.getElem?_append_right hi] at hz
          have h0 : i - ys.length = 0 := by
            rcases Nat.eq_zero_or_pos (i - ys.length) with h0 | h0
            · exact h0
            · rw [List.getElem?_eq_none (by simp; omega)] at hz
              cases hz
          rw [h0] at hz
          have hz' : y = z := by simpa using hz
          have : i = len := by omega
          subst this
          subst hz'
          exact hy
    obtain ⟨ys, hl2, hys⟩ := hx'
    have hlen : (ys.map (·.1)).length = len := by simp [hl2]
    refine ⟨ys.map (·.1), ⟨some a, cap, by rw [hlen], by omega, ?_⟩, by simp only [maxLen] at *; omega, ?_⟩
    · refine ⟨rfl, by rw [hlen]; simp only [maxLen] at hm; omega, fun _ => ⟨a, rfl, fun j p hj => ?_⟩⟩
      rw [List.getElem?_map] at hj
      obtain ⟨y, hy, rfl⟩ := Option.map_eq_some_iff.1 hj
      obtain ⟨h1, h2, _⟩ := hys j y hy
      obtain ⟨h3, h4⟩ := cells_of h1
      refine ⟨y.2, by rw [h3, hc], h2, fun i u hu => ?_⟩
      have := h4 i u hu
      rw [PrintWords.add_add, hc] at this
      exact this
    · intro x hx
      obtain ⟨y, hy, rfl⟩ := List.mem_map.1 hx
      obtain ⟨i, hi⟩ := List.mem_iff_getElem?.1 hy
      exact (hys i y hi).2.2

theorem len1 {l : List Value} (h : l.length = 1) : ∃ a, l = [a] := by
  match l, h with
  | [a], _ => exact ⟨a, rfl⟩
theorem len2 {l : List Value} (h : l.length = 2) : ∃ a b, l = [a, b] := by
  match l, h with
  | [a, b], _ => exact ⟨a, b, rfl⟩
theorem len3 {l : List Value} (h : l.length = 3) : ∃ a b c, l = [a, b, c] := by
  match l, h with
  | [a, b, c], _ => exact ⟨a, b, c, rfl⟩
theorem len4 {l : List Value} (h : l.length = 4) : ∃ a b c d, l = [a, b, c, d] := by
  match l, h with
  | [a, b, c, d], _ => exact ⟨a, b, c, d, rfl⟩

theorem fields_of {H : Type} {enc : TypeId × Value → H} {w : World} {base : Nat} {spare : Nat → Bool} {held : Bool} {fuel : Nat} {cs : List Value} {x : DataW H × List MemPlace} {fs : Array Field}
    (hs : P.underlying t = some (.struct fs)) (hone : oneCellFields P fs = true) (hC : P.cellsOf t = fs.size) (h : DataW.trod enc P w base spare held fuel t cs = some x) :
    cs.length = fs.size ∧ ∃ n, ∀ (i : Nat) (f : Field) (v : Value), fs[i]? = some f → cs[i]? = some v → ∃ y, DataW.trod enc P w base spare held n f.type [v] = some y := by
  obtain ⟨xs, n, _, _, hl, hx, hf⟩ := DataW.trod_struct hs h
  refine ⟨hl.trans hC, n, fun i f v hi hv => ?_⟩
  have h1 := hf i f hi
  obtain ⟨h2, h3⟩ := hone_of hone i f hi
  have hlt : i < fs.size := (Array.getElem?_eq_some_iff.1 hi).1
  have h4 : xs[i]? = some (xs[i]'(by omega)) := List.getElem?_eq_getElem (by omega)
  have h5 : (cs.drop f.offset).take (P.cellsOf f.type) = [v] := by
    rw [h2, h3]
    have hlt2 : i < cs.length := by omega
    rw [List.getElem?_eq_getElem hlt2] at hv
    injection hv with hv
    rw [List.drop_eq_getElem_cons hlt2, hv]
    simp
  rw [h5, h4] at h1
  exact ⟨_, h1⟩

theorem op_struct1 {α S : Type} {d0 : Kd α} {W0 : α → Prop} {f0 : Field} {f : S → α} (mk : α → S) (hf : ∀ a, f (mk a) = a)
    (hs : P.underlying t = some (.struct #[f0])) (hone : oneCellFields P #[f0] = true) (hC : P.cellsOf t = 1) (h0 : Op P f0.type d0 W0) :
    Op P t (Kd.iso d0 f) (fun x => W0 (f x)) := by
  intro H enc w base spare held fuel cs x h
  obtain ⟨hl, n, hF⟩ := fields_of hs hone hC h
  obtain ⟨c0, rfl⟩ := len1 hl
  obtain ⟨y0, k0⟩ := hF 0 f0 c0 rfl rfl
  obtain ⟨a0, q0, w0⟩ := h0 k0
  exact ⟨mk a0, by show d0.K w (f (mk a0)) [c0]; rw [hf]; exact q0, by show W0 (f (mk a0)); rw [hf]; exact w0⟩
theorem op_struct2 {α β S : Type} {d0 : Kd α} {d1 : Kd β} {W0 : α → Prop} {W1 : β → Prop} {f0 f1 : Field} {f : S → α × β} (mk : α → β → S) (hf : ∀ a b, f (mk a b) = (a, b))
    (hs : P.underlying t = some (.struct #[f0, f1])) (hone : oneCellFields P #[f0, f1] = true) (hC : P.cellsOf t = 2) (h0 : Op P f0.type d0 W0) (h1 : Op P f1.type d1 W1) :
    Op P t (Kd.iso (Kd.pair d0 d1) f) (fun x => W0 (f x).1 ∧ W1 (f x).2) := by
  intro H enc w base spare held fuel cs x h
  obtain ⟨hl, n, hF⟩ := fields_of hs hone hC h
  obtain ⟨c0, c1, rfl⟩ := len2 hl
  obtain ⟨y0, k0⟩ := hF 0 f0 c0 rfl rfl
  obtain ⟨y1, k1⟩ := hF 1 f1 c1 rfl rfl
  obtain ⟨a0, q0, w0⟩ := h0 k0
  obtain ⟨a1, q1, w1⟩ := h1 k1
  exact ⟨mk a0 a1, ⟨[c0], [c1], rfl, by rw [hf]; exact q0, by rw [hf]; exact q1⟩, by dsimp only; rw [hf]; exact ⟨w0, w1⟩⟩
theorem op_struct3 {α β γ S : Type} {d0 : Kd α} {d1 : Kd β} {d2 : Kd γ} {W0 : α → Prop} {W1 : β → Prop} {W2 : γ → Prop} {f0 f1 f2 : Field} {f : S → α × β × γ} (mk : α → β → γ → S) (hf : ∀ a b c, f (mk a b c) = (a, b, c))
    (hs : P.underlying t = some (.struct #[f0, f1, f2])) (hone : oneCellFields P #[f0, f1, f2] = true) (hC : P.cellsOf t = 3) (h0 : Op P f0.type d0 W0) (h1 : Op P f1.type d1 W1) (h2 : Op P f2.type d2 W2) :
    Op P t (Kd.iso (Kd.pair d0 (Kd.pair d1 d2)) f) (fun x => W0 (f x).1 ∧ W1 (f x).2.1 ∧ W2 (f x).2.2) := by
  intro H enc w base spare held fuel cs x h
  obtain ⟨hl, n, hF⟩ := fields_of hs hone hC h
  obtain ⟨c0, c1, c2, rfl⟩ := len3 hl
  obtain ⟨y0, k0⟩ := hF 0 f0 c0 rfl rfl
  obtain ⟨y1, k1⟩ := hF 1 f1 c1 rfl rfl
  obtain ⟨y2, k2⟩ := hF 2 f2 c2 rfl rfl
  obtain ⟨a0, q0, w0⟩ := h0 k0
  obtain ⟨a1, q1, w1⟩ := h1 k1
  obtain ⟨a2, q2, w2⟩ := h2 k2
  exact ⟨mk a0 a1 a2, ⟨[c0], [c1, c2], rfl, by rw [hf]; exact q0, [c1], [c2], rfl, by rw [hf]; exact q1, by rw [hf]; exact q2⟩, by dsimp only; rw [hf]; exact ⟨w0, w1, w2⟩⟩
theorem op_struct4 {α β γ δ S : Type} {d0 : Kd α} {d1 : Kd β} {d2 : Kd γ} {d3 : Kd δ} {W0 : α → Prop} {W1 : β → Prop} {W2 : γ → Prop} {W3 : δ → Prop} {f0 f1 f2 f3 : Field} {f : S → α × β × γ × δ} (mk : α → β → γ → δ → S) (hf : ∀ a b c d, f (mk a b c d) = (a, b, c, d))
    (hs : P.underlying t = some (.struct #[f0, f1, f2, f3])) (hone : oneCellFields P #[f0, f1, f2, f3] = true) (hC : P.cellsOf t = 4) (h0 : Op P f0.type d0 W0) (h1 : Op P f1.type d1 W1) (h2 : Op P f2.type d2 W2) (h3 : Op P f3.type d3 W3) :
    Op P t (Kd.iso (Kd.pair d0 (Kd.pair d1 (Kd.pair d2 d3))) f) (fun x => W0 (f x).1 ∧ W1 (f x).2.1 ∧ W2 (f x).2.2.1 ∧ W3 (f x).2.2.2) := by
  intro H enc w base spare held fuel cs x h
  obtain ⟨hl, n, hF⟩ := fields_of hs hone hC h
  obtain ⟨c0, c1, c2, c3, rfl⟩ := len4 hl
  obtain ⟨y0, k0⟩ := hF 0 f0 c0 rfl rfl
  obtain ⟨y1, k1⟩ := hF 1 f1 c1 rfl rfl
  obtain ⟨y2, k2⟩ := hF 2 f2 c2 rfl rfl
  obtain ⟨y3, k3⟩ := hF 3 f3 c3 rfl rfl
  obtain ⟨a0, q0, w0⟩ := h0 k0
  obtain ⟨a1, q1, w1⟩ := h1 k1
  obtain ⟨a2, q2, w2⟩ := h2 k2
  obtain ⟨a3, q3, w3⟩ := h3 k3
  exact ⟨mk a0 a1 a2 a3, ⟨[c0], [c1, c2, c3], rfl, by rw [hf]; exact q0, [c1], [c2, c3], rfl, by rw [hf]; exact q1, [c2], [c3], rfl, by rw [hf]; exact q2, by rw [hf]; exact q3⟩, by dsimp only; rw [hf]; exact ⟨w0, w1, w2, w3⟩⟩

/-- A struct's value, by its list of cells. -/
theorem agg_of {cs : Array Value} {l : List Value} (h : cs.toList = l) : cs = l.toArray := by
  cases cs
  simp at h
  simp [h]
end Go.Proofs.Ytkljpeociacapaa.OpenA
namespace Go.Proofs.Ytkljpeociacapaa.fnExactGoodShown
open Go.ChangeShapes Go.WideShapes Go.ChangeAt Go.RowKit Go.Proofs.Ytkljpeociacapaa.Fn Go.Proofs.YtkljpeociacapaaW.PrintWords Go.Proofs.Ytkljpeociacapaa.OpenA
open Go.ChangeMaps (open_string shut_string)
set_option linter.unusedVariables false
theorem own : ownKnob Try.prog.godebug = none := by kernel_rfl
theorem laidOut : laidOutB Try.prog = true := by kernel_rfl
set_option maxRecDepth 100000 in
theorem lifted (os : Os) (started : os.Started) (H : Type) (enc : TypeId × Value → H) :
    ReturnsInHanded {} Try.checked os 3 .any (Rows.fnExactGoodShownSpec.pre6 enc Try.prog Try.f3 Rows.fnExactGoodShownRow.domain false) (Rows.fnExactGoodShownSpec.post enc Try.prog Try.f3 false true false false) := by
  refine returnsInHanded_of_change_sized (C := Try.checked) own started (by kernel_rfl) Try.func3
    (ChangeSpec.witness6 (enc := enc) (C := Try.checked) false ⟨#[], #[.agg #[.slice none 0 0, .slice none 0 0, .slice none 0 0, .int .i64 0]], []⟩ 8 (by kernel_rfl) (by kernel_rfl) (by kernel_rfl) (by kernel_rfl)) ?_
  intro W base args ds gs before hval0 hW hcnd hsz0 _
  have hsz : (DataW.weightsEach Try.prog (Try.f3.params.toList ++ Rows.fnExactGoodShownSpec.plain.varTypes Try.prog) (ds ++ gs)).all (· ≤ reachBytes) = true := hsz0
  have hval : ∀ (j : Nat) t v, Try.f3.params[j]? = some t → args[j]? = some v → Value.okWide Try.prog W .any base t v := hval0
  have hW' := hW
  obtain ⟨p, q, hA0, hV, rfl, hfz, hnd⟩ := hW
  have hA : DataW.TrodAll enc Try.prog W 0 (fun _ => true) true Try.f3.params.toList args.toList ds p := hA0
  rw [Try.params3] at hA hval hsz
  obtain ⟨v0, vs0, d0, ds0, p0, q0, hargs, rfl, rfl, h0, r0⟩ := trodAll_cons hA
  obtain ⟨rfl, rfl, rfl⟩ := trodAll_nil r0
  obtain rfl : args = #[v0] := by cases args; simp_all
  obtain ⟨rfl, rfl⟩ := trodVars_none hV
  obtain ⟨cs0, rfl, hz0⟩ := okWide_struct Try.underlying24 (hval 0 24 v0 rfl rfl)
  have k0 := h0
  have lt0 : ∀ x ∈ p0, x.block < W.heap.size := by obtain ⟨m, hm⟩ := k0; exact DataW.trod_lt m _ _ _ hm
  obtain ⟨fuel0, hf0⟩ := h0
  obtain ⟨hl0, n0, hF0⟩ := fields_of Try.underlying24 (by kernel_rfl) (by kernel_rfl) hf0
  obtain ⟨c0_0, c0_1, c0_2, c0_3, e0⟩ := len4 hl0
  have e0' := agg_of (cs := cs0) (by simpa [Value.cells] using e0)
  obtain ⟨y0_0, k0_0⟩ := hF0 0 _ c0_0 rfl (by rw [e0]; rfl)
  obtain ⟨a0_0, q0_0, w0_0⟩ := (op_slice Try.underlying22 (by kernel_rfl) (op_string Try.underlying9)) k0_0
  obtain ⟨A0_0, b0_0, g0_0, hc0_0, hr0_0⟩ := q0_0
  obtain rfl := (List.cons.inj g0_0).1
  obtain ⟨y0_1, k0_1⟩ := hF0 1 _ c0_1 rfl (by rw [e0]; rfl)
  obtain ⟨a0_1, q0_1, w0_1⟩ := (op_slice Try.underlying22 (by kernel_rfl) (op_string Try.underlying9)) k0_1
  obtain ⟨A0_1, b0_1, g0_1, hc0_1, hr0_1⟩ := q0_1
  obtain rfl := (List.cons.inj g0_1).1
  obtain ⟨y0_2, k0_2⟩ := hF0 2 _ c0_2 rfl (by rw [e0]; rfl)
  obtain ⟨a0_2, q0_2, w0_2⟩ := (op_slice Try.underlying22 (by kernel_rfl) (op_string Try.underlying9)) k0_2
  obtain ⟨A0_2, b0_2, g0_2, hc0_2, hr0_2⟩ := q0_2
  obtain rfl := (List.cons.inj g0_2).1
  obtain ⟨y0_3, k0_3⟩ := hF0 3 _ c0_3 rfl (by rw [e0]; rfl)
  obtain ⟨a0_3, q0_3, w0_3⟩ := (op_int Try.underlying3) k0_3
  obtain rfl := (List.cons.inj q0_3).1
  clear hF0
  subst e0'
  clear hA0 hval0 hsz0 hsz
  obtain ⟨k, h⟩ := Pure.FnExactGoodShown a0_0 a0_1 a0_2 a0_3 w0_0 w0_1 w0_2 w0_3
  refine (laws_FnExactGoodShown.calls k _ _ a0_0 _ _ a0_1 _ _ a0_2 a0_3 true W hr0_0 hc0_0 hr0_1 hc0_1 hr0_2 hc0_2 h rfl).mono fun e W' ⟨he, bel0⟩ => ?_
  have bel : Below W.heap.size W W' := bel0
  subst he
  exact ⟨_, rfl, _, _, _, [], _, [], hW', trodAll_mk1 (shut_bool Try.underlying4 _), (trodAll_cons_mk (Below.trod laidOut (by kernel_rfl) (of_decide_eq_true (by kernel_rfl)) k0 bel lt0) trodAll_mk0), rfl, bel.frame _, fun h => by cases h⟩
theorem over : Rows.fnExactGoodShownRow.holds Try.pinned (OpenSpec.ofChange Rows.fnExactGoodShownSpec) :=
  OpenClaim.holds_of_wide 3 Try.f3 rfl rfl rfl rfl rfl rfl rfl ⟨rfl, rfl, rfl, rfl, rfl⟩ rfl rfl rfl rfl rfl (by kernel_rfl) Try.func3 (by kernel_rfl)
    (of_decide_eq_true (by kernel_rfl)) (by unfold Func.isWrapper; first | (rw [if_pos (by decide +kernel)]; kernel_rfl) | (rw [if_neg (by decide +kernel)]; exact ⟨rfl, rfl⟩))
    (fun os started H enc _ => lifted os started H enc)
theorem proved : Rows.FnExactGoodShownSaid := over
#print axioms proved
end Go.Proofs.Ytkljpeociacapaa.fnExactGoodShown
namespace Go.Proofs.Ytkljpeociacapaa
/-- The row, under a short name, for the claim. -/
theorem fnExactGoodShown_holds : Rows.FnExactGoodShownSaid := fnExactGoodShown.proved
end Go.Proofs.Ytkljpeociacapaa
