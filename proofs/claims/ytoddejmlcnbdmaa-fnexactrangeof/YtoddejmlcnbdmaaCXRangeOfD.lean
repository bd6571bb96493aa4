/- The law FnExactRangeOf holds of the given program: at every input it answers true and leaves its arguments as they were; no condition. -/
import Derived.Laws.BitsLemmas
import Derived.Laws.BytesArg
import Derived.Test.YtoddejmlcnbdmaaQWWords
import Derived.ChangeArms
import Derived.ChangeSame
import Derived.Deep.Slices
import Derived.Deep.Strs
import Derived.Deep.Fields
import Derived.Lib.SmallJoins
import Derived.WideShapes
import Derived.Test.YtoddejmlcnbdmaaRows
import Derived.WalkKit
import Derived.ProofKit
import Derived.OpenShut
import Derived.ShutString
import Derived.ChangeOld
import Derived.Below
import Derived.SizedLaws
import Derived.Carry
import Derived.Test.YtoddejmlcnbdmaaCXRangeOfA
import Derived.Test.YtoddejmlcnbdmaaCXRangeOfB
import Derived.Test.YtoddejmlcnbdmaaCXRangeOfC
namespace Go.Proofs.Ytoddejmlcnbdmaa.Fn
open Go.RowKit Go.Proofs.YtoddejmlcnbdmaaW.PrintWords Go.Proofs.YtoddejmlcnbdmaaW.PrintLast Go.Proofs.YtoddejmlcnbdmaaW.PrintMore
attribute [local go_sem] max2_int min2_int max_two min_two max_three min_three max_four min_four   -- for this text's walks alone
set_option linter.unusedVariables false
set_option linter.unusedSimpArgs false

/-! ### laws_eqPage: function 98 -/
def laws_eqPage.f (k : Nat) (l0_0 : List ByteArray) (l0_1 : List ByteArray) (l0_2 : List Int) (l1_0 : List ByteArray) (l1_1 : List ByteArray) (l1_2 : List Int) : Option (Bool) := (laws_eqStringS.f k l0_0 l1_0).bind fun t158 => (if t158 = true then ((laws_eqStringS.f k l0_1 l1_1).bind fun t159 => (if t159 = true then ((laws_eqIntS.f k l0_2 l1_2).bind fun t160 => (if t160 = true then (some true) else (some false))) else (some false))) else (some false))
theorem laws_eqPage.mono : ∀ a0 a1 a2 a3 a4 a5 k, LeO (laws_eqPage.f k a0 a1 a2 a3 a4 a5) (laws_eqPage.f (k + 1) a0 a1 a2 a3 a4 a5) := by
  intro a0 a1 a2 a3 a4 a5 k
  unfold laws_eqPage.f
  repeat' first
      | (with_reducible exact laws_eqIntS.mono _ _ _)
      | (with_reducible exact laws_eqStringS.mono _ _ _)
      | (with_reducible exact LeO.refl _)
      | (with_reducible exact LeO.none _)
      | (with_reducible refine LeO.ite ?_ ?_)
      | (with_reducible refine LeO.bind ?_ (fun _ => ?_))
      | exact laws_eqIntS.mono _ _ _
      | exact laws_eqStringS.mono _ _ _
      | exact LeO.none _
      | refine LeO.ite ?_ ?_
      | refine LeO.bind ?_ (fun _ => ?_)
set_option maxHeartbeats 8000000 in
set_option maxRecDepth 100000 in
theorem laws_eqPage.calls (k : Nat) (A0_0 : Option Addr) (c0_0 : Nat) (l0_0 : List ByteArray) (A0_1 : Option Addr) (c0_1 : Nat) (l0_1 : List ByteArray) (A0_2 : Option Addr) (c0_2 : Nat) (l0_2 : List Int) (A1_0 : Option Addr) (c1_0 : Nat) (l1_0 : List ByteArray) (A1_1 : Option Addr) (c1_1 : Nat) (l1_1 : List ByteArray) (A1_2 : Option Addr) (c1_2 : Nat) (l1_2 : List Int) (r : Bool) (w : World) (hr0_0 : Kd.C Kd.string w A0_0 l0_0.length l0_0) (hc0_0 : l0_0.length ≤ c0_0) (hr0_1 : Kd.C Kd.string w A0_1 l0_1.length l0_1) (hc0_1 : l0_1.length ≤ c0_1) (hr0_2 : Kd.C (Kd.int .i64) w A0_2 l0_2.length l0_2) (hc0_2 : l0_2.length ≤ c0_2) (hr1_0 : Kd.C Kd.string w A1_0 l1_0.length l1_0) (hc1_0 : l1_0.length ≤ c1_0) (hr1_1 : Kd.C Kd.string w A1_1 l1_1.length l1_1) (hc1_1 : l1_1.length ≤ c1_1) (hr1_2 : Kd.C (Kd.int .i64) w A1_2 l1_2.length l1_2) (hc1_2 : l1_2.length ≤ c1_2) (h : laws_eqPage.f k l0_0 l0_1 l0_2 l1_0 l1_1 l1_2 = some r) :
    Calls Try.prog 98 #[.agg #[.slice A0_0 l0_0.length c0_0, .slice A0_1 l0_1.length c0_1, .slice A0_2 l0_2.length c0_2], .agg #[.slice A1_0 l1_0.length c1_0, .slice A1_1 l1_1.length c1_1, .slice A1_2 l1_2.length c1_2]] w fun e w' => e = .returned (.bool r) ∧ Below w.heap.size w w' := by
  have hu110 := Try.underlying110
  have HR0_0 := Aside0.mk hr0_0
  have HC0_0 := Aside0.mk hc0_0
  clear hr0_0 hc0_0
  have HR0_1 := Aside0.mk hr0_1
  have HC0_1 := Aside0.mk hc0_1
  clear hr0_1 hc0_1
  have HR0_2 := Aside0.mk hr0_2
  have HC0_2 := Aside0.mk hc0_2
  clear hr0_2 hc0_2
  have HR1_0 := Aside0.mk hr1_0
  have HC1_0 := Aside0.mk hc1_0
  clear hr1_0 hc1_0
  have HR1_1 := Aside0.mk hr1_1
  have HC1_1 := Aside0.mk hc1_1
  clear hr1_1 hc1_1
  have HR1_2 := Aside0.mk hr1_2
  have HC1_2 := Aside0.mk hc1_2
  clear hr1_2 hc1_2
  have HB := Aside0.mk (Below.refl w.heap.size w)
  have H : ((laws_eqStringS.f k l0_0 l1_0).bind fun t158 => (if t158 = true then ((laws_eqStringS.f k l0_1 l1_1).bind fun t159 => (if t159 = true then ((laws_eqIntS.f k l0_2 l1_2).bind fun t160 => (if t160 = true then (some true) else (some false))) else (some false))) else (some false))) = some r := h
  clear h
  replace H := Option.bind_eq_some_iff.mp H
  obtain ⟨t158, A30, H⟩ := H
  replace H : (if t158 = true then ((laws_eqStringS.f k l0_1 l1_1).bind fun t159 => (if t159 = true then ((laws_eqIntS.f k l0_2 l1_2).bind fun t160 => (if t160 = true then (some true) else (some false))) else (some false))) else (some false)) = some r := H
  have A3 := Aside0.mk A30
  clear A30
  by_cases c4 : t158 = true
  · subst c4
    have H1 : ((laws_eqStringS.f k l0_1 l1_1).bind fun t159 => (if t159 = true then ((laws_eqIntS.f k l0_2 l1_2).bind fun t160 => (if t160 = true then (some true) else (some false))) else (some false))) = some r := by rw [if_pos rfl] at H; exact H
    clear H
    have H := H1
    clear H1
    replace H := Option.bind_eq_some_iff.mp H
    obtain ⟨t159, A50, H⟩ := H
    replace H : (if t159 = true then ((laws_eqIntS.f k l0_2 l1_2).bind fun t160 => (if t160 = true then (some true) else (some false))) else (some false)) = some r := H
    have A5 := Aside0.mk A50
    clear A50
    by_cases c6 : t159 = true
    · subst c6
      have H1 : ((laws_eqIntS.f k l0_2 l1_2).bind fun t160 => (if t160 = true then (some true) else (some false))) = some r := by rw [if_pos rfl] at H; exact H
      clear H
      have H := H1
      clear H1
      replace H := Option.bind_eq_some_iff.mp H
      obtain ⟨t160, A70, H⟩ := H
      replace H : (if t160 = true then (some true) else (some false)) = some r := H
      have A7 := Aside0.mk A70
      clear A70
      by_cases c8 : t160 = true
      · subst c8
        have H1 : (some true) = some r := by rw [if_pos rfl] at H; exact H
        clear H
        have H := H1
        clear H1
        obtain rfl := Option.some.inj H
        go_enter Try.func98, Try.ntmps98
        go_wp2_with (first | ((with_reducible refine gate_dst (N := 2) rfl ?_); refine box_event ?hg (N := 2) ?hd (cs := #[.slice A0_0 l0_0.length c0_0, .slice A0_1 l0_1.length c0_1, .slice A0_2 l0_2.length c0_2]) (t := 110) ?hr ?_; (case hd => rfl); (case hg => rfl); (case hr => first | (go_simp; done) | (go_simp; rfl)); intro gb156 hg w9 hbox hb; have n0_ := Aside0.mk (below_step (by repeat (first | (with_reducible first | exact HB.out | apply below_alloc | apply pw_below_drewN | apply below_drew1) | exact HB.out)) hb); have n1_ := Aside0.mk (hbox); have n2_ := Aside0.mk ((by rw [hg]; exact (below_size (by repeat (first | (with_reducible first | exact HB.out | apply below_alloc | apply pw_below_drewN | apply below_drew1) | exact HB.out))) : w.heap.size ≤ gb156)); have n3_ := Aside0.mk ((by rw [hg]; exact (below_size (by repeat (first | (with_reducible first | exact HB.out | apply below_alloc | apply pw_below_drewN | apply below_drew1) | exact HB.out))) : w.heap.size ≤ gb156)); clear HB; have HB := n0_; have BK156 := n1_; have GW156 := n2_; have GE156 := n3_; clear n0_ n1_ n2_ n3_; clear hb hbox hg) | ((with_reducible refine gate_dst (N := 3) rfl ?_); refine box_event ?hg (N := 3) ?hd (cs := #[.slice A1_0 l1_0.length c1_0, .slice A1_1 l1_1.length c1_1, .slice A1_2 l1_2.length c1_2]) (t := 110) ?hr ?_; (case hd => rfl); (case hg => rfl); (case hr => first | (go_simp; done) | (go_simp; rfl)); intro gb157 hg w10 hbox hb; have n0_ := Aside0.mk (blk_below (g := gb156) (o := .cells #[.slice A0_0 l0_0.length c0_0, .slice A0_1 l0_1.length c0_1, .slice A0_2 l0_2.length c0_2] 110 (0, 0)) (by (with_reducible repeat (first | refine blk_drewN ?_ _ | refine blk_drew ?_ | refine blk_alloc ?_ _)); exact BK156.out) hb); have n1_ := Aside0.mk (below_step (by repeat (first | (with_reducible first | exact HB.out | apply below_alloc | apply pw_below_drewN | apply below_drew1 | refine below_set ?_ GE156.out) | exact HB.out)) hb); have n2_ := Aside0.mk (hbox); have n3_ := Aside0.mk ((by rw [hg]; exact (below_size (by repeat (first | (with_reducible first | exact HB.out | apply below_alloc | apply pw_below_drewN | apply below_drew1 | refine below_set ?_ GE156.out) | exact HB.out))) : w.heap.size ≤ gb157)); have n4_ := Aside0.mk ((by rw [hg]; exact (below_size (by repeat (first | (with_reducible first | exact HB.out | apply below_alloc | apply pw_below_drewN | apply below_drew1 | refine below_set ?_ GE156.out) | exact HB.out))) : w.heap.size ≤ gb157)); have n5_ := Aside0.mk ((by rw [hg]; exact Nat.ne_of_lt (blk_lt (g := gb156) (o := .cells #[.slice A0_0 l0_0.length c0_0, .slice A0_1 l0_1.length c0_1, .slice A0_2 l0_2.length c0_2] 110 (0, 0)) (by (with_reducible repeat (first | refine blk_drewN ?_ _ | refine blk_drew ?_ | refine blk_alloc ?_ _)); exact BK156.out)) : gb156 ≠ gb157)); have n6_ := Aside0.mk ((by rw [hg]; exact Nat.ne_of_gt (blk_lt (g := gb156) (o := .cells #[.slice A0_0 l0_0.length c0_0, .slice A0_1 l0_1.length c0_1, .slice A0_2 l0_2.length c0_2] 110 (0, 0)) (by (with_reducible repeat (first | refine blk_drewN ?_ _ | refine blk_drew ?_ | refine blk_alloc ?_ _)); exact BK156.out)) : gb157 ≠ gb156)); clear BK156; clear HB; have BK156 := n0_; have HB := n1_; have BK157 := n2_; have GW157 := n3_; have GE157 := n4_; have NB156_157 := n5_; have NB157_156 := n6_; clear n0_ n1_ n2_ n3_ n4_ n5_ n6_; clear hb hbox hg; have hnb11 := NB156_157.out; have hnc11 := NB157_156.out; have hcz12_0 : w10.cell? ⟨gb156, 0, none⟩ = some (.slice A0_0 l0_0.length c0_0) := (blk_cell BK156.out 0).trans rfl; have hcz12_1 : w10.cell? ⟨gb156, 1, none⟩ = some (.slice A0_1 l0_1.length c0_1) := (blk_cell BK156.out 1).trans rfl; have hcz12_2 : w10.cell? ⟨gb156, 2, none⟩ = some (.slice A0_2 l0_2.length c0_2) := (blk_cell BK156.out 2).trans rfl; have hfz12_0 := blk_frozen BK156.out 0; have hfz12_1 := blk_frozen BK156.out 1; have hfz12_2 := blk_frozen BK156.out 2; have hcz13_0 : w10.cell? ⟨gb157, 0, none⟩ = some (.slice A1_0 l1_0.length c1_0) := (blk_cell BK157.out 0).trans rfl; have hcz13_1 : w10.cell? ⟨gb157, 1, none⟩ = some (.slice A1_1 l1_1.length c1_1) := (blk_cell BK157.out 1).trans rfl; have hcz13_2 : w10.cell? ⟨gb157, 2, none⟩ = some (.slice A1_2 l1_2.length c1_2) := (blk_cell BK157.out 2).trans rfl; have hfz13_0 := blk_frozen BK157.out 0; have hfz13_1 := blk_frozen BK157.out 1; have hfz13_2 := blk_frozen BK157.out 2) | ((with_reducible refine gate_callee (f := 26) rfl ?_); refine goesL_ (some 9) rfl rfl Try.func26 (by kernel_rfl) rfl #[.slice A0_0 l0_0.length c0_0, .slice A1_0 l1_0.length c1_0] rfl (by (try simp only [List.map_toArray, List.map_cons, List.map_nil]); first | done | rfl | (simp only [List.length_drop, List.length_take]; rfl)) ?_; (with_reducible refine (laws_eqStringS.calls k _ _ l0_0 _ _ l1_0 true _ ?side1 ?side2 ?side3 ?side4 A3.out).mono ?_); (case side1 => repeat (first | exact (Kd.C_below HR0_0.out HB.out) | (with_reducible refine Kd.C_alloc ?_ _) | (with_reducible refine Kd.C_drewN ?_ _) | (with_reducible refine Kd.C_drew ?_))); (case side2 => exact HC0_0.out); (case side3 => repeat (first | exact (Kd.C_below HR1_0.out HB.out) | (with_reducible refine Kd.C_alloc ?_ _) | (with_reducible refine Kd.C_drewN ?_ _) | (with_reducible refine Kd.C_drew ?_))); (case side4 => exact HC1_0.out); rintro e w' ⟨rfl, ⟨nd, rfl⟩⟩; refine ⟨_, rfl, ?_⟩) | ((with_reducible refine gate_callee (f := 26) rfl ?_); refine goesL_ (some 15) rfl rfl Try.func26 (by kernel_rfl) rfl #[.slice A0_1 l0_1.length c0_1, .slice A1_1 l1_1.length c1_1] rfl (by (try simp only [List.map_toArray, List.map_cons, List.map_nil]); first | done | rfl | (simp only [List.length_drop, List.length_take]; rfl)) ?_; (with_reducible refine (laws_eqStringS.calls k _ _ l0_1 _ _ l1_1 true _ ?side1 ?side2 ?side3 ?side4 A5.out).mono ?_); (case side1 => repeat (first | exact (Kd.C_below HR0_1.out (by repeat (first | (with_reducible first | exact HB.out | apply below_alloc | apply pw_below_drewN | apply below_drew1 | refine below_set ?_ GE156.out | refine below_set ?_ GE157.out) | exact HB.out))) | (with_reducible refine Kd.C_alloc ?_ _) | (with_reducible refine Kd.C_drewN ?_ _) | (with_reducible refine Kd.C_drew ?_))); (case side2 => exact HC0_1.out); (case side3 => repeat (first | exact (Kd.C_below HR1_1.out (by repeat (first | (with_reducible first | exact HB.out | apply below_alloc | apply pw_below_drewN | apply below_drew1 | refine below_set ?_ GE156.out | refine below_set ?_ GE157.out) | exact HB.out))) | (with_reducible refine Kd.C_alloc ?_ _) | (with_reducible refine Kd.C_drewN ?_ _) | (with_reducible refine Kd.C_drew ?_))); (case side4 => exact HC1_1.out); rintro e w' ⟨rfl, ⟨nd, rfl⟩⟩; refine ⟨_, rfl, ?_⟩) | ((with_reducible refine gate_callee (f := 121) rfl ?_); refine goesL_ (some 21) rfl rfl Try.func121 (by kernel_rfl) rfl #[.slice A0_2 l0_2.length c0_2, .slice A1_2 l1_2.length c1_2] rfl (by (try simp only [List.map_toArray, List.map_cons, List.map_nil]); first | done | rfl | (simp only [List.length_drop, List.length_take]; rfl)) ?_; (with_reducible refine (laws_eqIntS.calls k _ _ l0_2 _ _ l1_2 true _ ?side1 ?side2 ?side3 ?side4 A7.out).mono ?_); (case side1 => repeat (first | exact (Kd.C_below HR0_2.out (by repeat (first | (with_reducible first | exact HB.out | apply below_alloc | apply pw_below_drewN | apply below_drew1 | refine below_set ?_ GE156.out | refine below_set ?_ GE157.out) | exact HB.out))) | (with_reducible refine Kd.C_alloc ?_ _) | (with_reducible refine Kd.C_drewN ?_ _) | (with_reducible refine Kd.C_drew ?_))); (case side2 => exact HC0_2.out); (case side3 => repeat (first | exact (Kd.C_below HR1_2.out (by repeat (first | (with_reducible first | exact HB.out | apply below_alloc | apply pw_below_drewN | apply below_drew1 | refine below_set ?_ GE156.out | refine below_set ?_ GE157.out) | exact HB.out))) | (with_reducible refine Kd.C_alloc ?_ _) | (with_reducible refine Kd.C_drewN ?_ _) | (with_reducible refine Kd.C_drew ?_))); (case side4 => exact HC1_2.out); rintro e w' ⟨rfl, ⟨nd, rfl⟩⟩; refine ⟨_, rfl, ?_⟩))
        go_ret
        exact ⟨by first | rfl | (simp [errW_none, errW_some] <;> rfl) | (simp [*, errW_none, errW_some] <;> rfl), by repeat (first | (with_reducible first | exact HB.out | apply below_alloc | apply pw_below_drewN | apply below_drew1 | refine below_set ?_ GE156.out | refine below_set ?_ GE157.out) | exact HB.out)⟩
      · replace c8 := Bool.eq_false_iff.mpr c8
        subst c8
        have H1 : (some false) = some r := by rw [if_neg (show ¬ (false = true) by decide)] at H; exact H
        clear H
        have H := H1
        clear H1
        obtain rfl := Option.some.inj H
        go_enter Try.func98, Try.ntmps98
        go_wp2_with (first | ((with_reducible refine gate_dst (N := 2) rfl ?_); refine box_event ?hg (N := 2) ?hd (cs := #[.slice A0_0 l0_0.length c0_0, .slice A0_1 l0_1.length c0_1, .slice A0_2 l0_2.length c0_2]) (t := 110) ?hr ?_; (case hd => rfl); (case hg => rfl); (case hr => first | (go_simp; done) | (go_simp; rfl)); intro gb156 hg w14 hbox hb; have n0_ := Aside0.mk (below_step (by repeat (first | (with_reducible first | exact HB.out | apply below_alloc | apply pw_below_drewN | apply below_drew1) | exact HB.out)) hb); have n1_ := Aside0.mk (hbox); have n2_ := Aside0.mk ((by rw [hg]; exact (below_size (by repeat (first | (with_reducible first | exact HB.out | apply below_alloc | apply pw_below_drewN | apply below_drew1) | exact HB.out))) : w.heap.size ≤ gb156)); have n3_ := Aside0.mk ((by rw [hg]; exact (below_size (by repeat (first | (with_reducible first | exact HB.out | apply below_alloc | apply pw_below_drewN | apply below_drew1) | exact HB.out))) : w.heap.size ≤ gb156)); clear HB; have HB := n0_; have BK156 := n1_; have GW156 := n2_; have GE156 := n3_; clear n0_ n1_ n2_ n3_; clear hb hbox hg) | ((with_reducible refine gate_dst (N := 3) rfl ?_); refine box_event ?hg (N := 3) ?hd (cs := #[.slice A1_0 l1_0.length c1_0, .slice A1_1 l1_1.length c1_1, .slice A1_2 l1_2.length c1_2]) (t := 110) ?hr ?_; (case hd => rfl); (case hg => rfl); (case hr => first | (go_simp; done) | (go_simp; rfl)); intro gb157 hg w15 hbox hb; have n0_ := Aside0.mk (blk_below (g := gb156) (o := .cells #[.slice A0_0 l0_0.length c0_0, .slice A0_1 l0_1.length c0_1, .slice A0_2 l0_2.length c0_2] 110 (0, 0)) (by (with_reducible repeat (first | refine blk_drewN ?_ _ | refine blk_drew ?_ | refine blk_alloc ?_ _)); exact BK156.out) hb); have n1_ := Aside0.mk (below_step (by repeat (first | (with_reducible first | exact HB.out | apply below_alloc | apply pw_below_drewN | apply below_drew1 | refine below_set ?_ GE156.out) | exact HB.out)) hb); have n2_ := Aside0.mk (hbox); have n3_ := Aside0.mk ((by rw [hg]; exact (below_size (by repeat (first | (with_reducible first | exact HB.out | apply below_alloc | apply pw_below_drewN | apply below_drew1 | refine below_set ?_ GE156.out) | exact HB.out))) : w.heap.size ≤ gb157)); have n4_ := Aside0.mk ((by rw [hg]; exact (below_size (by repeat (first | (with_reducible first | exact HB.out | apply below_alloc | apply pw_below_drewN | apply below_drew1 | refine below_set ?_ GE156.out) | exact HB.out))) : w.heap.size ≤ gb157)); have n5_ := Aside0.mk ((by rw [hg]; exact Nat.ne_of_lt (blk_lt (g := gb156) (o := .cells #[.slice A0_0 l0_0.length c0_0, .slice A0_1 l0_1.length c0_1, .slice A0_2 l0_2.length c0_2] 110 (0, 0)) (by (with_reducible repeat (first | refine blk_drewN ?_ _ | refine blk_drew ?_ | refine blk_alloc ?_ _)); exact BK156.out)) : gb156 ≠ gb157)); have n6_ := Aside0.mk ((by rw [hg]; exact Nat.ne_of_gt (blk_lt (g := gb156) (o := .cells #[.slice A0_0 l0_0.length c0_0, .slice A0_1 l0_1.length c0_1, .slice A0_2 l0_2.length c0_2] 110 (0, 0)) (by (with_reducible repeat (first | refine blk_drewN ?_ _ | refine blk_drew ?_ | refine blk_alloc ?_ _)); exact BK156.out)) : gb157 ≠ gb156)); clear BK156; clear HB; have BK156 := n0_; have HB := n1_; have BK157 := n2_; have GW157 := n3_; have GE157 := n4_; have NB156_157 := n5_; have NB157_156 := n6_; clear n0_ n1_ n2_ n3_ n4_ n5_ n6_; clear hb hbox hg; have hnb16 := NB156_157.out; have hnc16 := NB157_156.out; have hcz17_0 : w15.cell? ⟨gb156, 0, none⟩ = some (.slice A0_0 l0_0.length c0_0) := (blk_cell BK156.out 0).trans rfl; have hcz17_1 : w15.cell? ⟨gb156, 1, none⟩ = some (.slice A0_1 l0_1.length c0_1) := (blk_cell BK156.out 1).trans rfl; have hcz17_2 : w15.cell? ⟨gb156, 2, none⟩ = some (.slice A0_2 l0_2.length c0_2) := (blk_cell BK156.out 2).trans rfl; have hfz17_0 := blk_frozen BK156.out 0; have hfz17_1 := blk_frozen BK156.out 1; have hfz17_2 := blk_frozen BK156.out 2; have hcz18_0 : w15.cell? ⟨gb157, 0, none⟩ = some (.slice A1_0 l1_0.length c1_0) := (blk_cell BK157.out 0).trans rfl; have hcz18_1 : w15.cell? ⟨gb157, 1, none⟩ = some (.slice A1_1 l1_1.length c1_1) := (blk_cell BK157.out 1).trans rfl; have hcz18_2 : w15.cell? ⟨gb157, 2, none⟩ = some (.slice A1_2 l1_2.length c1_2) := (blk_cell BK157.out 2).trans rfl; have hfz18_0 := blk_frozen BK157.out 0; have hfz18_1 := blk_frozen BK157.out 1; have hfz18_2 := blk_frozen BK157.out 2) | ((with_reducible refine gate_callee (f := 26) rfl ?_); refine goesL_ (some 9) rfl rfl Try.func26 (by kernel_rfl) rfl #[.slice A0_0 l0_0.length c0_0, .slice A1_0 l1_0.length c1_0] rfl (by (try simp only [List.map_toArray, List.map_cons, List.map_nil]); first | done | rfl | (simp only [List.length_drop, List.length_take]; rfl)) ?_; (with_reducible refine (laws_eqStringS.calls k _ _ l0_0 _ _ l1_0 true _ ?side1 ?side2 ?side3 ?side4 A3.out).mono ?_); (case side1 => repeat (first | exact (Kd.C_below HR0_0.out HB.out) | (with_reducible refine Kd.C_alloc ?_ _) | (with_reducible refine Kd.C_drewN ?_ _) | (with_reducible refine Kd.C_drew ?_))); (case side2 => exact HC0_0.out); (case side3 => repeat (first | exact (Kd.C_below HR1_0.out HB.out) | (with_reducible refine Kd.C_alloc ?_ _) | (with_reducible refine Kd.C_drewN ?_ _) | (with_reducible refine Kd.C_drew ?_))); (case side4 => exact HC1_0.out); rintro e w' ⟨rfl, ⟨nd, rfl⟩⟩; refine ⟨_, rfl, ?_⟩) | ((with_reducible refine gate_callee (f := 26) rfl ?_); refine goesL_ (some 15) rfl rfl Try.func26 (by kernel_rfl) rfl #[.slice A0_1 l0_1.length c0_1, .slice A1_1 l1_1.length c1_1] rfl (by (try simp only [List.map_toArray, List.map_cons, List.map_nil]); first | done | rfl | (simp only [List.length_drop, List.length_take]; rfl)) ?_; (with_reducible refine (laws_eqStringS.calls k _ _ l0_1 _ _ l1_1 true _ ?side1 ?side2 ?side3 ?side4 A5.out).mono ?_); (case side1 => repeat (first | exact (Kd.C_below HR0_1.out (by repeat (first | (with_reducible first | exact HB.out | apply below_alloc | apply pw_below_drewN | apply below_drew1 | refine below_set ?_ GE156.out | refine below_set ?_ GE157.out) | exact HB.out))) | (with_reducible refine Kd.C_alloc ?_ _) | (with_reducible refine Kd.C_drewN ?_ _) | (with_reducible refine Kd.C_drew ?_))); (case side2 => exact HC0_1.out); (case side3 => repeat (first | exact (Kd.C_below HR1_1.out (by repeat (first | (with_reducible first | exact HB.out | apply below_alloc | apply pw_below_drewN | apply below_drew1 | refine below_set ?_ GE156.out | refine below_set ?_ GE157.out) | exact HB.out))) | (with_reducible refine Kd.C_alloc ?_ _) | (with_reducible refine Kd.C_drewN ?_ _) | (with_reducible refine Kd.C_drew ?_))); (case side4 => exact HC1_1.out); rintro e w' ⟨rfl, ⟨nd, rfl⟩⟩; refine ⟨_, rfl, ?_⟩) | ((with_reducible refine gate_callee (f := 121) rfl ?_); refine goesL_ (some 21) rfl rfl Try.func121 (by kernel_rfl) rfl #[.slice A0_2 l0_2.length c0_2, .slice A1_2 l1_2.length c1_2] rfl (by (try simp only [List.map_toArray, List.map_cons, List.map_nil]); first | done | rfl | (simp only [List.length_drop, List.length_take]; rfl)) ?_; (with_reducible refine (laws_eqIntS.calls k _ _ l0_2 _ _ l1_2 false _ ?side1 ?side2 ?side3 ?side4 A7.out).mono ?_); (case side1 => repeat (first | exact (Kd.C_below HR0_2.out (by repeat (first | (with_reducible first | exact HB.out | apply below_alloc | apply pw_below_drewN | apply below_drew1 | refine below_set ?_ GE156.out | refine below_set ?_ GE157.out) | exact HB.out))) | (with_reducible refine Kd.C_alloc ?_ _) | (with_reducible refine Kd.C_drewN ?_ _) | (with_reducible refine Kd.C_drew ?_))); (case side2 => exact HC0_2.out); (case side3 => repeat (first | exact (Kd.C_below HR1_2.out (by repeat (first | (with_reducible first | exact HB.out | apply below_alloc | apply pw_below_drewN | apply below_drew1 | refine below_set ?_ GE156.out | refine below_set ?_ GE157.out) | exact HB.out))) | (with_reducible refine Kd.C_alloc ?_ _) | (with_reducible refine Kd.C_drewN ?_ _) | (with_reducible refine Kd.C_drew ?_))); (case side4 => exact HC1_2.out); rintro e w' ⟨rfl, ⟨nd, rfl⟩⟩; refine ⟨_, rfl, ?_⟩))
        go_ret
        exact ⟨by first | rfl | (simp [errW_none, errW_some] <;> rfl) | (simp [*, errW_none, errW_some] <;> rfl), by repeat (first | (with_reducible first | exact HB.out | apply below_alloc | apply pw_below_drewN | apply below_drew1 | refine below_set ?_ GE156.out | refine below_set ?_ GE157.out) | exact HB.out)⟩
    · replace c6 := Bool.eq_false_iff.mpr c6
      subst c6
      have H1 : (some false) = some r := by rw [if_neg (show ¬ (false = true) by decide)] at H; exact H
      clear H
      have H := H1
      clear H1
      obtain rfl := Option.some.inj H
      go_enter Try.func98, Try.ntmps98
      go_wp2_with (first | ((with_reducible refine gate_dst (N := 2) rfl ?_); refine box_event ?hg (N := 2) ?hd (cs := #[.slice A0_0 l0_0.length c0_0, .slice A0_1 l0_1.length c0_1, .slice A0_2 l0_2.length c0_2]) (t := 110) ?hr ?_; (case hd => rfl); (case hg => rfl); (case hr => first | (go_simp; done) | (go_simp; rfl)); intro gb156 hg w19 hbox hb; have n0_ := Aside0.mk (below_step (by repeat (first | (with_reducible first | exact HB.out | apply below_alloc | apply pw_below_drewN | apply below_drew1) | exact HB.out)) hb); have n1_ := Aside0.mk (hbox); have n2_ := Aside0.mk ((by rw [hg]; exact (below_size (by repeat (first | (with_reducible first | exact HB.out | apply below_alloc | apply pw_below_drewN | apply below_drew1) | exact HB.out))) : w.heap.size ≤ gb156)); have n3_ := Aside0.mk ((by rw [hg]; exact (below_size (by repeat (first | (with_reducible first | exact HB.out | apply below_alloc | apply pw_below_drewN | apply below_drew1) | exact HB.out))) : w.heap.size ≤ gb156)); clear HB; have HB := n0_; have BK156 := n1_; have GW156 := n2_; have GE156 := n3_; clear n0_ n1_ n2_ n3_; clear hb hbox hg) | ((with_reducible refine gate_dst (N := 3) rfl ?_); refine box_event ?hg (N := 3) ?hd (cs := #[.slice A1_0 l1_0.length c1_0, .slice A1_1 l1_1.length c1_1, .slice A1_2 l1_2.length c1_2]) (t := 110) ?hr ?_; (case hd => rfl); (case hg => rfl); (case hr => first | (go_simp; done) | (go_simp; rfl)); intro gb157 hg w20 hbox hb; have n0_ := Aside0.mk (blk_below (g := gb156) (o := .cells #[.slice A0_0 l0_0.length c0_0, .slice A0_1 l0_1.length c0_1, .slice A0_2 l0_2.length c0_2] 110 (0, 0)) (by (with_reducible repeat (first | refine blk_drewN ?_ _ | refine blk_drew ?_ | refine blk_alloc ?_ _)); exact BK156.out) hb); have n1_ := Aside0.mk (below_step (by repeat (first | (with_reducible first | exact HB.out | apply below_alloc | apply pw_below_drewN | apply below_drew1 | refine below_set ?_ GE156.out) | exact HB.out)) hb); have n2_ := Aside0.mk (hbox); have n3_ := Aside0.mk ((by rw [hg]; exact (below_size (by repeat (first | (with_reducible first | exact HB.out | apply below_alloc | apply pw_below_drewN | apply below_drew1 | refine below_set ?_ GE156.out) | exact HB.out))) : w.heap.size ≤ gb157)); have n4_ := Aside0.mk ((by rw [hg]; exact (below_size (by repeat (first | (with_reducible first | exact HB.out | apply below_alloc | apply pw_below_drewN | apply below_drew1 | refine below_set ?_ GE156.out) | exact HB.out))) : w.heap.size ≤ gb157)); have n5_ := Aside0.mk ((by rw [hg]; exact Nat.ne_of_lt (blk_lt (g := gb156) (o := .cells #[.slice A0_0 l0_0.length c0_0, .slice A0_1 l0_1.length c0_1, .slice A0_2 l0_2.length c0_2] 110 (0, 0)) (by (with_reducible repeat (first | refine blk_drewN ?_ _ | refine blk_drew ?_ | refine blk_alloc ?_ _)); exact BK156.out)) : gb156 ≠ gb157)); have n6_ := Aside0.mk ((by rw [hg]; exact Nat.ne_of_gt (blk_lt (g := gb156) (o := .cells #[.slice A0_0 l0_0.length c0_0, .slice A0_1 l0_1.length c0_1, .slice A0_2 l0_2.length c0_2] 110 (0, 0)) (by (with_reducible repeat (first | refine blk_drewN ?_ _ | refine blk_drew ?_ | refine blk_alloc ?_ _)); exact BK156.out)) : gb157 ≠ gb156)); clear BK156; clear HB; have BK156 := n0_; have HB := n1_; have BK157 := n2_; have GW157 := n3_; have GE157 := n4_; have NB156_157 := n5_; have NB157_156 := n6_; clear n0_ n1_ n2_ n3_ n4_ n5_ n6_; clear hb hbox hg; have hnb21 := NB156_157.out; have hnc21 := NB157_156.out; have hcz22_0 : w20.cell? ⟨gb156, 0, none⟩ = some (.slice A0_0 l0_0.length c0_0) := (blk_cell BK156.out 0).trans rfl; have hcz22_1 : w20.cell? ⟨gb156, 1, none⟩ = some (.slice A0_1 l0_1.length c0_1) := (blk_cell BK156.out 1).trans rfl; have hcz22_2 : w20.cell? ⟨gb156, 2, none⟩ = some (.slice A0_2 l0_2.length c0_2) := (blk_cell BK156.out 2).trans rfl; have hfz22_0 := blk_frozen BK156.out 0; have hfz22_1 := blk_frozen BK156.out 1; have hfz22_2 := blk_frozen BK156.out 2; have hcz23_0 : w20.cell? ⟨gb157, 0, none⟩ = some (.slice A1_0 l1_0.length c1_0) := (blk_cell BK157.out 0).trans rfl; have hcz23_1 : w20.cell? ⟨gb157, 1, none⟩ = some (.slice A1_1 l1_1.length c1_1) := (blk_cell BK157.out 1).trans rfl; have hcz23_2 : w20.cell? ⟨gb157, 2, none⟩ = some (.slice A1_2 l1_2.length c1_2) := (blk_cell BK157.out 2).trans rfl; have hfz23_0 := blk_frozen BK157.out 0; have hfz23_1 := blk_frozen BK157.out 1; have hfz23_2 := blk_frozen BK157.out 2) | ((with_reducible refine gate_callee (f := 26) rfl ?_); refine goesL_ (some 9) rfl rfl Try.func26 (by kernel_rfl) rfl #[.slice A0_0 l0_0.length c0_0, .slice A1_0 l1_0.length c1_0] rfl (by (try simp only [List.map_toArray, List.map_cons, List.map_nil]); first | done | rfl | (simp only [List.length_drop, List.length_take]; rfl)) ?_; (with_reducible refine (laws_eqStringS.calls k _ _ l0_0 _ _ l1_0 true _ ?side1 ?side2 ?side3 ?side4 A3.out).mono ?_); (case side1 => repeat (first | exact (Kd.C_below HR0_0.out HB.out) | (with_reducible refine Kd.C_alloc ?_ _) | (with_reducible refine Kd.C_drewN ?_ _) | (with_reducible refine Kd.C_drew ?_))); (case side2 => exact HC0_0.out); (case side3 => repeat (first | exact (Kd.C_below HR1_0.out HB.out) | (with_reducible refine Kd.C_alloc ?_ _) | (with_reducible refine Kd.C_drewN ?_ _) | (with_reducible refine Kd.C_drew ?_))); (case side4 => exact HC1_0.out); rintro e w' ⟨rfl, ⟨nd, rfl⟩⟩; refine ⟨_, rfl, ?_⟩) | ((with_reducible refine gate_callee (f := 26) rfl ?_); refine goesL_ (some 15) rfl rfl Try.func26 (by kernel_rfl) rfl #[.slice A0_1 l0_1.length c0_1, .slice A1_1 l1_1.length c1_1] rfl (by (try simp only [List.map_toArray, List.map_cons, List.map_nil]); first | done | rfl | (simp only [List.length_drop, List.length_take]; rfl)) ?_; (with_reducible refine (laws_eqStringS.calls k _ _ l0_1 _ _ l1_1 false _ ?side1 ?side2 ?side3 ?side4 A5.out).mono ?_); (case side1 => repeat (first | exact (Kd.C_below HR0_1.out (by repeat (first | (with_reducible first | exact HB.out | apply below_alloc | apply pw_below_drewN | apply below_drew1 | refine below_set ?_ GE156.out | refine below_set ?_ GE157.out) | exact HB.out))) | (with_reducible refine Kd.C_alloc ?_ _) | (with_reducible refine Kd.C_drewN ?_ _) | (with_reducible refine Kd.C_drew ?_))); (case side2 => exact HC0_1.out); (case side3 => repeat (first | exact (Kd.C_below HR1_1.out (by repeat (first | (with_reducible first | exact HB.out | apply below_alloc | apply pw_below_drewN | apply below_drew1 | refine below_set ?_ GE156.out | refine below_set ?_ GE157.out) | exact HB.out))) | (with_reducible refine Kd.C_alloc ?_ _) | (with_reducible refine Kd.C_drewN ?_ _) | (with_reducible refine Kd.C_drew ?_))); (case side4 => exact HC1_1.out); rintro e w' ⟨rfl, ⟨nd, rfl⟩⟩; refine ⟨_, rfl, ?_⟩))
      go_ret
      exact ⟨by first | rfl | (simp [errW_none, errW_some] <;> rfl) | (simp [*, errW_none, errW_some] <;> rfl), by repeat (first | (with_reducible first | exact HB.out | apply below_alloc | apply pw_below_drewN | apply below_drew1 | refine below_set ?_ GE156.out | refine below_set ?_ GE157.out) | exact HB.out)⟩
  · replace c4 := Bool.eq_false_iff.mpr c4
    subst c4
    have H1 : (some false) = some r := by rw [if_neg (show ¬ (false = true) by decide)] at H; exact H
    clear H
    have H := H1
    clear H1
    obtain rfl := Option.some.inj H
    go_enter Try.func98, Try.ntmps98
    go_wp2_with (first | ((with_reducible refine gate_dst (N := 2) rfl ?_); refine box_event ?hg (N := 2) ?hd (cs := #[.slice A0_0 l0_0.length c0_0, .slice A0_1 l0_1.length c0_1, .slice A0_2 l0_2.length c0_2]) (t := 110) ?hr ?_; (case hd => rfl); (case hg => rfl); (case hr => first | (go_simp; done) | (go_simp; rfl)); intro gb156 hg w24 hbox hb; have n0_ := Aside0.mk (below_step (by repeat (first | (with_reducible first | exact HB.out | apply below_alloc | apply pw_below_drewN | apply below_drew1) | exact HB.out)) hb); have n1_ := Aside0.mk (hbox); have n2_ := Aside0.mk ((by rw [hg]; exact (below_size (by repeat (first | (with_reducible first | exact HB.out | apply below_alloc | apply pw_below_drewN | apply below_drew1) | exact HB.out))) : w.heap.size ≤ gb156)); have n3_ := Aside0.mk ((by rw [hg]; exact (below_size (by repeat (first | (with_reducible first | exact HB.out | apply below_alloc | apply pw_below_drewN | apply below_drew1) | exact HB.out))) : w.heap.size ≤ gb156)); clear HB; have HB := n0_; have BK156 := n1_; have GW156 := n2_; have GE156 := n3_; clear n0_ n1_ n2_ n3_; clear hb hbox hg) | ((with_reducible refine gate_dst (N := 3) rfl ?_); refine box_event ?hg (N := 3) ?hd (cs := #[.slice A1_0 l1_0.length c1_0, .slice A1_1 l1_1.length c1_1, .slice A1_2 l1_2.length c1_2]) (t := 110) ?hr ?_; (case hd => rfl); (case hg => rfl); (case hr => first | (go_simp; done) | (go_simp; rfl)); intro gb157 hg w25 hbox hb; have n0_ := Aside0.mk (blk_below (g := gb156) (o := .cells #[.slice A0_0 l0_0.length c0_0, .slice A0_1 l0_1.length c0_1, .slice A0_2 l0_2.length c0_2] 110 (0, 0)) (by (with_reducible repeat (first | refine blk_drewN ?_ _ | refine blk_drew ?_ | refine blk_alloc ?_ _)); exact BK156.out) hb); have n1_ := Aside0.mk (below_step (by repeat (first | (with_reducible first | exact HB.out | apply below_alloc | apply pw_below_drewN | apply below_drew1 | refine below_set ?_ GE156.out) | exact HB.out)) hb); have n2_ := Aside0.mk (hbox); have n3_ := Aside0.mk ((by rw [hg]; exact (below_size (by repeat (first | (with_reducible first | exact HB.out | apply below_alloc | apply pw_below_drewN | apply below_drew1 | refine below_set ?_ GE156.out) | exact HB.out))) : w.heap.size ≤ gb157)); have n4_ := Aside0.mk ((by rw [hg]; exact (below_size (by repeat (first | (with_reducible first | exact HB.out | apply below_alloc | apply pw_below_drewN | apply below_drew1 | refine below_set ?_ GE156.out) | exact HB.out))) : w.heap.size ≤ gb157)); have n5_ := Aside0.mk ((by rw [hg]; exact Nat.ne_of_lt (blk_lt (g := gb156) (o := .cells #[.slice A0_0 l0_0.length c0_0, .slice A0_1 l0_1.length c0_1, .slice A0_2 l0_2.length c0_2] 110 (0, 0)) (by (with_reducible repeat (first | refine blk_drewN ?_ _ | refine blk_drew ?_ | refine blk_alloc ?_ _)); exact BK156.out)) : gb156 ≠ gb157)); have n6_ := Aside0.mk ((by rw [hg]; exact Nat.ne_of_gt (blk_lt (g := gb156) (o := .cells #[.slice A0_0 l0_0.length c0_0, .slice A0_1 l0_1.length c0_1, .slice A0_2 l0_2.length c0_2] 110 (0, 0)) (by (with_reducible repeat (first | refine blk_drewN ?_ _ | refine blk_drew ?_ | refine blk_alloc ?_ _)); exact BK156.out)) : gb157 ≠ gb156)); clear BK156; clear HB; have BK156 := n0_; have HB := n1_; have BK157 := n2_; have GW157 := n3_; have GE157 := n4_; have NB156_157 := n5_; have NB157_156 := n6_; clear n0_ n1_ n2_ n3_ n4_ n5_ n6_; clear hb hbox hg; have hnb26 := NB156_157.out; have hnc26 := NB157_156.out; have hcz27_0 : w25.cell? ⟨gb156, 0, none⟩ = some (.slice A0_0 l0_0.length c0_0) := (blk_cell BK156.out 0).trans rfl; have hcz27_1 : w25.cell? ⟨gb156, 1, none⟩ = some (.slice A0_1 l0_1.length c0_1) := (blk_cell BK156.out 1).trans rfl; have hcz27_2 : w25.cell? ⟨gb156, 2, none⟩ = some (.slice A0_2 l0_2.length c0_2) := (blk_cell BK156.out 2).trans rfl; have hfz27_0 := blk_frozen BK156.out 0; have hfz27_1 := blk_frozen BK156.out 1; have hfz27_2 := blk_frozen BK156.out 2; have hcz28_0 : w25.cell? ⟨gb157, 0, none⟩ = some (.slice A1_0 l1_0.length c1_0) := (blk_cell BK157.out 0).trans rfl; have hcz28_1 : w25.cell? ⟨gb157, 1, none⟩ = some (.slice A1_1 l1_1.length c1_1) := (blk_cell BK157.out 1).trans rfl; have hcz28_2 : w25.cell? ⟨gb157, 2, none⟩ = some (.slice A1_2 l1_2.length c1_2) := (blk_cell BK157.out 2).trans rfl; have hfz28_0 := blk_frozen BK157.out 0; have hfz28_1 := blk_frozen BK157.out 1; have hfz28_2 := blk_frozen BK157.out 2) | ((with_reducible refine gate_callee (f := 26) rfl ?_); refine goesL_ (some 9) rfl rfl Try.func26 (by kernel_rfl) rfl #[.slice A0_0 l0_0.length c0_0, .slice A1_0 l1_0.length c1_0] rfl (by (try simp only [List.map_toArray, List.map_cons, List.map_nil]); first | done | rfl | (simp only [List.length_drop, List.length_take]; rfl)) ?_; (with_reducible refine (laws_eqStringS.calls k _ _ l0_0 _ _ l1_0 false _ ?side1 ?side2 ?side3 ?side4 A3.out).mono ?_); (case side1 => repeat (first | exact (Kd.C_below HR0_0.out HB.out) | (with_reducible refine Kd.C_alloc ?_ _) | (with_reducible refine Kd.C_drewN ?_ _) | (with_reducible refine Kd.C_drew ?_))); (case side2 => exact HC0_0.out); (case side3 => repeat (first | exact (Kd.C_below HR1_0.out HB.out) | (with_reducible refine Kd.C_alloc ?_ _) | (with_reducible refine Kd.C_drewN ?_ _) | (with_reducible refine Kd.C_drew ?_))); (case side4 => exact HC1_0.out); rintro e w' ⟨rfl, ⟨nd, rfl⟩⟩; refine ⟨_, rfl, ?_⟩))
    go_ret
    exact ⟨by first | rfl | (simp [errW_none, errW_some] <;> rfl) | (simp [*, errW_none, errW_some] <;> rfl), by repeat (first | (with_reducible first | exact HB.out | apply below_alloc | apply pw_below_drewN | apply below_drew1 | refine below_set ?_ GE156.out | refine below_set ?_ GE157.out) | exact HB.out)⟩

end Go.Proofs.Ytoddejmlcnbdmaa.Fn
namespace Go.Proofs.Ytoddejmlcnbdmaa.Fn
open Go.RowKit Go.Proofs.YtoddejmlcnbdmaaW.PrintWords Go.Proofs.YtoddejmlcnbdmaaW.PrintLast Go.Proofs.YtoddejmlcnbdmaaW.PrintMore
attribute [local go_sem] max2_int min2_int max_two min_two max_three min_three max_four min_four   -- for this text's walks alone
set_option linter.unusedVariables false
set_option linter.unusedSimpArgs false

/-! ### laws_eqPageS: function 60 -/
def laws_eqPageS.l0 : Nat → List (S110) → List (S110) → Int → Option (Bool)
  | 0, _, _, _ => none
  | k + 1, x0, x1, x5 => if x5 < (x0.length : Int) then (if 0 ≤ x5 then (if x5 < (x1.length : Int) then ((laws_eqPage.f k ((rd_T110 x0 x5).f0) ((rd_T110 x0 x5).f1) ((rd_T110 x0 x5).f2) ((rd_T110 x1 x5).f0) ((rd_T110 x1 x5).f1) ((rd_T110 x1 x5).f2)).bind fun t163 => (if t163 = true then (laws_eqPageS.l0 k x0 x1 (wrap64 (x5 + 1))) else (some false))) else (none)) else (none)) else (some true)
def laws_eqPageS.f (k : Nat) (l0 : List (S110)) (l1 : List (S110)) : Option (Bool) := if (l0.length : Int) = (l1.length : Int) then (laws_eqPageS.l0 k l0 l1 0) else (some false)
theorem laws_eqPageS.mono_l : ∀ k, (∀ y0 y1 y2, LeO (laws_eqPageS.l0 k y0 y1 y2) (laws_eqPageS.l0 (k + 1) y0 y1 y2))
  | 0 => fun _ _ _ r h => by simp [laws_eqPageS.l0] at h
  | k + 1 => by
    have ih0 := laws_eqPageS.mono_l k
    · intro y0 y1 y2
      unfold laws_eqPageS.l0
      repeat' first
      | (with_reducible exact ih0 _ _ _)
      | (with_reducible exact laws_eqPage.mono _ _ _ _ _ _ _)
      | (with_reducible exact LeO.refl _)
      | (with_reducible exact LeO.none _)
      | (with_reducible refine LeO.ite ?_ ?_)
      | (with_reducible refine LeO.bind ?_ (fun _ => ?_))
      | exact ih0 _ _ _
      | exact laws_eqPage.mono _ _ _ _ _ _ _
      | exact LeO.none _
      | refine LeO.ite ?_ ?_
      | refine LeO.bind ?_ (fun _ => ?_)
theorem laws_eqPageS.mono : ∀ a0 a1 k, LeO (laws_eqPageS.f k a0 a1) (laws_eqPageS.f (k + 1) a0 a1) := by
  intro a0 a1 k
  have ih0 := laws_eqPageS.mono_l k
  unfold laws_eqPageS.f
  repeat' first
      | (with_reducible exact ih0 _ _ _)
      | (with_reducible exact laws_eqPage.mono _ _ _ _ _ _ _)
      | (with_reducible exact LeO.refl _)
      | (with_reducible exact LeO.none _)
      | (with_reducible refine LeO.ite ?_ ?_)
      | (with_reducible refine LeO.bind ?_ (fun _ => ?_))
      | exact ih0 _ _ _
      | exact laws_eqPage.mono _ _ _ _ _ _ _
      | exact LeO.none _
      | refine LeO.ite ?_ ?_
      | refine LeO.bind ?_ (fun _ => ?_)
def laws_eqPageS.T6 : Bool × List (List Nat × List Nat) := (true, [([], []), ([], []), ([0, 1], [0, 1]), ([2], [2]), ([], []), ([], []), ([4, 5], [4, 5]), ([6], [6]), ([3, 7], [3, 7]), ([8], [8])])
def laws_eqPageS.B6 : List Nat := [0, 0, 3, 7, 0, 0, 48, 112, 255, 511]
theorem laws_eqPageS.tab6 : rtab .any (opsOf Try.f60 6) = laws_eqPageS.T6 := by kernel_rfl
theorem laws_eqPageS.bits6 : waitsOk laws_eqPageS.T6.2 laws_eqPageS.B6 = true := by kernel_rfl
set_option maxHeartbeats 8000000 in
set_option maxRecDepth 100000 in
theorem laws_eqPageS.calls (k : Nat) (A0 : Option Addr) (c0 : Nat) (l0 : List (S110)) (A1 : Option Addr) (c1 : Nat) (l1 : List (S110)) (r : Bool) (w : World) (hr0 : Kd.C k110 w A0 l0.length l0) (hc0 : l0.length ≤ c0) (hr1 : Kd.C k110 w A1 l1.length l1) (hc1 : l1.length ≤ c1) (h : laws_eqPageS.f k l0 l1 = some r) :
    Calls Try.prog 60 #[.slice A0 l0.length c0, .slice A1 l1.length c1] w fun e w' => e = .returned (.bool r) ∧ Below w.heap.size w w' := by
  have hu110 := Try.underlying110
  have HR0 := Aside0.mk hr0
  have HC0 := Aside0.mk hc0
  clear hr0 hc0
  have HR1 := Aside0.mk hr1
  have HC1 := Aside0.mk hc1
  clear hr1 hc1
  have HB := Aside0.mk (Below.refl w.heap.size w)
  have H : (if (l0.length : Int) = (l1.length : Int) then (laws_eqPageS.l0 k l0 l1 0) else (some false)) = some r := h
  clear h
  by_cases c3 : (l0.length : Int) = (l1.length : Int)
  · rw [if_pos c3] at H
    have c3b0 : ((l0.length : Int) == (l1.length : Int)) = true := beq_iff_eq.mpr c3
    have c3b1 : ((l0.length : Int) != (l1.length : Int)) = false := bne_eq_false_iff_eq.mpr c3
    have c3b2 : (l0.length == l1.length) = true := by first | simpa using c3 | (simp at c3 ⊢; omega)
    clear c3
    have H' := Aside0.mk H
    clear H
    go_enter Try.func60, Try.ntmps60
    go_wp2
    go_loopg [5] k (fun kq v5 w' => ∃ (x5_1 : Int), v5 = .int .i64 x5_1 ∧ Aside0 (laws_eqPageS.l0 kq l0 l1 x5_1 = some r) ∧ Aside0 (kq ≤ k) ∧ Aside0 (Below w.heap.size w w'))
    case atStart => exact ⟨(0), (by first | rfl | (simp; done) | (simp [*]; done)), H', ⟨Nat.le_refl _⟩, ⟨by repeat (first | (with_reducible first | exact HB.out | apply below_alloc | apply pw_below_drewN | apply below_drew1) | exact HB.out)⟩⟩
    case round =>
      clear H'
      try clear c1
      try clear p2
      try clear c3
      try clear c3b0
      try clear c3b1
      try clear c3b2
      obtain ⟨x5_1, rfl, HA, HK1, HB⟩ := hrel
      cases gk with
      | zero => exact absurd HA.out (by simp [laws_eqPageS.l0])
      | succ k1 =>
        have H := HA.out
        clear HA
        simp only [laws_eqPageS.l0] at H
        by_cases c4 : x5_1 < (l0.length : Int)
        · rw [if_pos c4] at H
          have c4b0 : decide (x5_1 < (l0.length : Int)) = true := decide_eq_true c4
          clear c4
          by_cases c5 : 0 ≤ x5_1
          · rw [if_pos c5] at H
            have c5b0 : decide (0 ≤ x5_1) = true := decide_eq_true c5
            clear c5
            by_cases c6 : x5_1 < (l1.length : Int)
            · rw [if_pos c6] at H
              have c6b0 : decide (x5_1 < (l1.length : Int)) = true := decide_eq_true c6
              clear c6
              replace H := Option.bind_eq_some_iff.mp H
              obtain ⟨t163, A70, H⟩ := H
              replace H : (if t163 = true then (laws_eqPageS.l0 k1 l0 l1 (wrap64 (x5_1 + 1))) else (some false)) = some r := H
              have A7 := Aside0.mk A70
              clear A70
              by_cases c8 : t163 = true
              · subst c8
                have H1 : (laws_eqPageS.l0 k1 l0 l1 (wrap64 (x5_1 + 1))) = some r := by rw [if_pos rfl] at H; exact H
                clear H
                have H := H1
                clear H1
                have H' := Aside0.mk H
                clear H
                try go_wp2
                have n0_ := Aside0.mk (below_drew1 HB.out)
                clear HB
                have HB := n0_
                clear n0_
                have p161 : 0 ≤ (x5_1 : Int) := of_decide_eq_true (by first | (with_reducible assumption) | assumption)
                have q161 : x5_1 < (l0.length : Int) := of_decide_eq_true (by first | (with_reducible assumption) | assumption)
                obtain ⟨ad161, A161_0, c161_0, A161_1, c161_1, A161_2, c161_2, e161, hx161_0, hx161_1, hx161_2, hl161_0, hi161_0, hl161_1, hi161_1, hl161_2, hi161_2⟩ := at_T110 HR0.out x5_1 p161 q161
                have hw161_2 := hx161_2
                have hw161_1 := hx161_1
                have hw161_0 := hx161_0
                cases e161
                replace hx161_0 := (HB.out.cell (World.block_lt_of_cell? w _ hx161_0)).trans hx161_0
                replace hx161_1 := (HB.out.cell (World.block_lt_of_cell? w _ hx161_1)).trans hx161_1
                replace hx161_2 := (HB.out.cell (World.block_lt_of_cell? w _ hx161_2)).trans hx161_2
                have HR161_0 := Aside0.mk hi161_0
                have HC161_0 := Aside0.mk hl161_0
                clear hi161_0 hl161_0
                have HR161_1 := Aside0.mk hi161_1
                have HC161_1 := Aside0.mk hl161_1
                clear hi161_1 hl161_1
                have HR161_2 := Aside0.mk hi161_2
                have HC161_2 := Aside0.mk hl161_2
                clear hi161_2 hl161_2
                replace p161 := eq_true p161
                replace q161 := eq_true q161
                have p162 : 0 ≤ (x5_1 : Int) := of_decide_eq_true (by first | (with_reducible assumption) | assumption)
                have q162 : x5_1 < (l1.length : Int) := of_decide_eq_true (by first | (with_reducible assumption) | assumption)
                obtain ⟨ad162, A162_0, c162_0, A162_1, c162_1, A162_2, c162_2, e162, hx162_0, hx162_1, hx162_2, hl162_0, hi162_0, hl162_1, hi162_1, hl162_2, hi162_2⟩ := at_T110 HR1.out x5_1 p162 q162
                have hw162_2 := hx162_2
                have hw162_1 := hx162_1
                have hw162_0 := hx162_0
                cases e162
                replace hx162_0 := (HB.out.cell (World.block_lt_of_cell? w _ hx162_0)).trans hx162_0
                replace hx162_1 := (HB.out.cell (World.block_lt_of_cell? w _ hx162_1)).trans hx162_1
                replace hx162_2 := (HB.out.cell (World.block_lt_of_cell? w _ hx162_2)).trans hx162_2
                have HR162_0 := Aside0.mk hi162_0
                have HC162_0 := Aside0.mk hl162_0
                clear hi162_0 hl162_0
                have HR162_1 := Aside0.mk hi162_1
                have HC162_1 := Aside0.mk hl162_1
                clear hi162_1 hl162_1
                have HR162_2 := Aside0.mk hi162_2
                have HC162_2 := Aside0.mk hl162_2
                clear hi162_2 hl162_2
                replace p162 := eq_true p162
                replace q162 := eq_true q162
                refine start_ (n := 10) (S := fun w' => w'.cell? (ad161.add ((x5_1).toNat * 3)) = some (.slice A161_0 ((rd_T110 l0 x5_1).f0).length c161_0) ∧ w'.cell? ⟨(ad161.add ((x5_1).toNat * 3)).block, (ad161.add ((x5_1).toNat * 3)).off + 1, none⟩ = some (.slice A161_1 ((rd_T110 l0 x5_1).f1).length c161_1) ∧ w'.cell? ⟨(ad161.add ((x5_1).toNat * 3)).block, (ad161.add ((x5_1).toNat * 3)).off + 2, none⟩ = some (.slice A161_2 ((rd_T110 l0 x5_1).f2).length c161_2) ∧ w'.cell? (ad162.add ((x5_1).toNat * 3)) = some (.slice A162_0 ((rd_T110 l1 x5_1).f0).length c162_0) ∧ w'.cell? ⟨(ad162.add ((x5_1).toNat * 3)).block, (ad162.add ((x5_1).toNat * 3)).off + 1, none⟩ = some (.slice A162_1 ((rd_T110 l1 x5_1).f1).length c162_1) ∧ w'.cell? ⟨(ad162.add ((x5_1).toNat * 3)).block, (ad162.add ((x5_1).toNat * 3)).off + 2, none⟩ = some (.slice A162_2 ((rd_T110 l1 x5_1).f2).length c162_2)) (ds := []) #[false, false, false, false, false, false, false, false, false, false] (by kernel_rfl) rfl rfl ⟨((HB.out.cell (World.block_lt_of_cell? w _ hw161_0)).trans hw161_0), ((HB.out.cell (World.block_lt_of_cell? w _ hw161_1)).trans hw161_1), ((HB.out.cell (World.block_lt_of_cell? w _ hw161_2)).trans hw161_2), ((HB.out.cell (World.block_lt_of_cell? w _ hw162_0)).trans hw162_0), ((HB.out.cell (World.block_lt_of_cell? w _ hw162_1)).trans hw162_1), ((HB.out.cell (World.block_lt_of_cell? w _ hw162_2)).trans hw162_2)⟩ (fun hHeld => ?_); refine with_tabW laws_eqPageS.tab6 laws_eqPageS.bits6 (fun HT_ HW_ => ?_)
                generalize wr.drew = w9 at HB HR161_0 HR161_1 HR161_2 HR162_0 HR162_1 HR162_2 hx161_0 hx161_1 hx161_2 hx162_0 hx162_1 hx162_2 hHeld ⊢
                refine pure_ (i := 0) (N := some 17) (v := ?_) (a' := ?_) #[true, false, false, false, false, false, false, false, false, false] rfl rfl (any_of HT_.out (by kernel_rfl)) (fun _ _ _ h => h) (Or.inl ⟨by rfl, ?_⟩) ?_ ?_
                rotate_left
                · intro w'
                  go_simp
                  with_reducible rfl
                rotate_left
                · simp only [Act.put, List.setIfInBounds_toArray, List.set_cons_zero, List.set_cons_succ, i64_w, i32_w]
                  rfl
                refine pure_ (i := 1) (N := some 18) (v := ?_) (a' := ?_) #[true, true, false, false, false, false, false, false, false, false] rfl rfl (any_of HT_.out (by kernel_rfl)) (fun _ _ _ h => h) (Or.inl ⟨by rfl, ?_⟩) ?_ ?_
                rotate_left
                · intro w'
                  go_simp
                  with_reducible rfl
                rotate_left
                · simp only [Act.put, List.setIfInBounds_toArray, List.set_cons_zero, List.set_cons_succ, i64_w, i32_w]
                  rfl
                refine pure_ (i := 2) (N := some 19) (v := ?_) (a' := ?_) #[true, true, true, false, false, false, false, false, false, false] rfl rfl (any_of HT_.out (by kernel_rfl)) (fun _ _ _ h => h) (Or.inl ⟨by rfl, ?_⟩) ?_ ?_
                rotate_left
                · intro w'
                  go_simp
                  with_reducible rfl
                rotate_left
                · simp only [Act.put, List.setIfInBounds_toArray, List.set_cons_zero, List.set_cons_succ, i64_w, i32_w]
                  rfl
                refine pure_ (i := 4) (N := some 21) (v := ?_) (a' := ?_) #[true, true, true, false, true, false, false, false, false, false] rfl rfl (any_of HT_.out (by kernel_rfl)) (fun _ _ _ h => h) (Or.inl ⟨by rfl, ?_⟩) ?_ ?_
                rotate_left
                · intro w'
                  go_simp
                  with_reducible rfl
                rotate_left
                · simp only [Act.put, List.setIfInBounds_toArray, List.set_cons_zero, List.set_cons_succ, i64_w, i32_w]
                  rfl
                refine pure_ (i := 5) (N := some 22) (v := ?_) (a' := ?_) #[true, true, true, false, true, true, false, false, false, false] rfl rfl (any_of HT_.out (by kernel_rfl)) (fun _ _ _ h => h) (Or.inl ⟨by rfl, ?_⟩) ?_ ?_
                rotate_left
                · intro w'
                  go_simp
                  with_reducible rfl
                rotate_left
                · simp only [Act.put, List.setIfInBounds_toArray, List.set_cons_zero, List.set_cons_succ, i64_w, i32_w]
                  rfl
                refine pure_ (i := 6) (N := some 23) (v := ?_) (a' := ?_) #[true, true, true, false, true, true, true, false, false, false] rfl rfl (any_of HT_.out (by kernel_rfl)) (fun _ _ _ h => h) (Or.inl ⟨by rfl, ?_⟩) ?_ ?_
                rotate_left
                · intro w'
                  go_simp
                  with_reducible rfl
                rotate_left
                · simp only [Act.put, List.setIfInBounds_toArray, List.set_cons_zero, List.set_cons_succ, i64_w, i32_w]
                  rfl
                refine take_ (i := 3) (N := some 20) (v := ?_) (a' := ?_) #[true, true, true, true, true, true, true, false, false, false] rfl rfl (take_ofW HT_.out HW_.out (by kernel_rfl)) (fun _ _ _ h => h) (Or.inl ⟨by rfl, ?_⟩) hHeld ?_ ?_
                rotate_left
                · rintro w' ⟨s0, s1, s2, s3, s4, s5⟩
                  go_simp
                  with_reducible rfl
                rotate_left
                · simp only [Act.put, List.setIfInBounds_toArray, List.set_cons_zero, List.set_cons_succ, i64_w, i32_w]
                  rfl
                refine take_ (i := 7) (N := some 24) (v := ?_) (a' := ?_) #[true, true, true, true, true, true, true, true, false, false] rfl rfl (take_ofW HT_.out HW_.out (by kernel_rfl)) (fun _ _ _ h => h) (Or.inl ⟨by rfl, ?_⟩) hHeld ?_ ?_
                rotate_left
                · rintro w' ⟨s0, s1, s2, s3, s4, s5⟩
                  go_simp
                  with_reducible rfl
                rotate_left
                · simp only [Act.put, List.setIfInBounds_toArray, List.set_cons_zero, List.set_cons_succ, i64_w, i32_w]
                  rfl
                refine one_ (i := 8) (N := some 25) #[true, true, true, true, true, true, true, true, true, false] rfl rfl (one_of HT_.out (by kernel_rfl)) (by decide) (fun K hK => ?_)
                refine goes_ Try.func98 (by kernel_rfl) rfl #[.agg #[.slice A161_0 ((rd_T110 l0 x5_1).f0).length c161_0, .slice A161_1 ((rd_T110 l0 x5_1).f1).length c161_1, .slice A161_2 ((rd_T110 l0 x5_1).f2).length c161_2], .agg #[.slice A162_0 ((rd_T110 l1 x5_1).f0).length c162_0, .slice A162_1 ((rd_T110 l1 x5_1).f1).length c162_1, .slice A162_2 ((rd_T110 l1 x5_1).f2).length c162_2]] (by rfl) rfl rfl (by (try simp only [List.map_toArray, List.map_cons, List.map_nil]); first | done | rfl | (simp only [List.length_drop, List.length_take]; rfl)) ?_
                with_reducible refine (laws_eqPage.calls k1 _ _ ((rd_T110 l0 x5_1).f0) _ _ ((rd_T110 l0 x5_1).f1) _ _ ((rd_T110 l0 x5_1).f2) _ _ ((rd_T110 l1 x5_1).f0) _ _ ((rd_T110 l1 x5_1).f1) _ _ ((rd_T110 l1 x5_1).f2) true _ ?side1 ?side2 ?side3 ?side4 ?side5 ?side6 ?side7 ?side8 ?side9 ?side10 ?side11 ?side12 A7.out).mono ?_
                (case side1 => repeat (first | exact (Kd.C_below HR161_0.out HB.out) | (with_reducible refine Kd.C_alloc ?_ _) | (with_reducible refine Kd.C_drewN ?_ _) | (with_reducible refine Kd.C_drew ?_)))
                (case side2 => exact HC161_0.out)
                (case side3 => repeat (first | exact (Kd.C_below HR161_1.out HB.out) | (with_reducible refine Kd.C_alloc ?_ _) | (with_reducible refine Kd.C_drewN ?_ _) | (with_reducible refine Kd.C_drew ?_)))
                (case side4 => exact HC161_1.out)
                (case side5 => repeat (first | exact (Kd.C_below HR161_2.out HB.out) | (with_reducible refine Kd.C_alloc ?_ _) | (with_reducible refine Kd.C_drewN ?_ _) | (with_reducible refine Kd.C_drew ?_)))
                (case side6 => exact HC161_2.out)
                (case side7 => repeat (first | exact (Kd.C_below HR162_0.out HB.out) | (with_reducible refine Kd.C_alloc ?_ _) | (with_reducible refine Kd.C_drewN ?_ _) | (with_reducible refine Kd.C_drew ?_)))
                (case side8 => exact HC162_0.out)
                (case side9 => repeat (first | exact (Kd.C_below HR162_1.out HB.out) | (with_reducible refine Kd.C_alloc ?_ _) | (with_reducible refine Kd.C_drewN ?_ _) | (with_reducible refine Kd.C_drew ?_)))
                (case side10 => exact HC162_1.out)
                (case side11 => repeat (first | exact (Kd.C_below HR162_2.out HB.out) | (with_reducible refine Kd.C_alloc ?_ _) | (with_reducible refine Kd.C_drewN ?_ _) | (with_reducible refine Kd.C_drew ?_)))
                (case side12 => exact HC162_2.out)
                rintro e w10 ⟨rfl, hb⟩
                refine ⟨_, rfl, ?_⟩
                have n0_ := Aside0.mk (below_step (by repeat (first | (with_reducible first | exact HB.out | apply below_alloc | apply pw_below_drewN | apply below_drew1) | exact HB.out)) hb)
                clear HB
                have HB := n0_
                clear n0_
                (try clear hb)
                (try clear hb2)
                (try clear hk)
                (try clear hi)
                refine hK.out _ _ ⟨((HB.out.cell (World.block_lt_of_cell? w _ hw161_0)).trans hw161_0), ((HB.out.cell (World.block_lt_of_cell? w _ hw161_1)).trans hw161_1), ((HB.out.cell (World.block_lt_of_cell? w _ hw161_2)).trans hw161_2), ((HB.out.cell (World.block_lt_of_cell? w _ hw162_0)).trans hw162_0), ((HB.out.cell (World.block_lt_of_cell? w _ hw162_1)).trans hw162_1), ((HB.out.cell (World.block_lt_of_cell? w _ hw162_2)).trans hw162_2)⟩ (fun hHeld => ?_)
                clear hK K
                refine norm_ (a' := ?_) ?_ ?_
                rotate_left
                · show Act.put _ (some 25) _ = _
                  simp only [Act.put, List.setIfInBounds_toArray, List.set_cons_zero, List.set_cons_succ, i64_w, i32_w]
                  rfl
                refine pure_ (i := 9) (N := some 26) (v := ?_) (a' := ?_) #[true, true, true, true, true, true, true, true, true, true] rfl rfl (any_of HT_.out (by kernel_rfl)) (fun _ _ _ h => h) (Or.inl ⟨by rfl, ?_⟩) ?_ ?_
                rotate_left
                · intro w'
                  go_simp
                  with_reducible rfl
                rotate_left
                · simp only [Act.put, List.setIfInBounds_toArray, List.set_cons_zero, List.set_cons_succ, i64_w, i32_w]
                  rfl
                refine done_ (done_of HT_.out (by kernel_rfl)) ?_
                try go_wp2
                go_roundg k1
                case measure => have := HK1.out; omega
                case rel => exact ⟨(wrap64 (x5_1 + 1)), (by first | rfl | (simp; done) | (simp [*]; done)), H', ⟨by have := HK1.out; omega⟩, ⟨by repeat (first | (with_reducible first | exact HB.out | apply below_alloc | apply pw_below_drewN | apply below_drew1) | exact HB.out)⟩⟩
              · replace c8 := Bool.eq_false_iff.mpr c8
                subst c8
                have H1 : (some false) = some r := by rw [if_neg (show ¬ (false = true) by decide)] at H; exact H
                clear H
                have H := H1
                clear H1
                obtain rfl := Option.some.inj H
                try go_wp2
                have n0_ := Aside0.mk (below_drew1 HB.out)
                clear HB
                have HB := n0_
                clear n0_
                have p161 : 0 ≤ (x5_1 : Int) := of_decide_eq_true (by first | (with_reducible assumption) | assumption)
                have q161 : x5_1 < (l0.length : Int) := of_decide_eq_true (by first | (with_reducible assumption) | assumption)
                obtain ⟨ad161, A161_0, c161_0, A161_1, c161_1, A161_2, c161_2, e161, hx161_0, hx161_1, hx161_2, hl161_0, hi161_0, hl161_1, hi161_1, hl161_2, hi161_2⟩ := at_T110 HR0.out x5_1 p161 q161
                have hw161_2 := hx161_2
                have hw161_1 := hx161_1
                have hw161_0 := hx161_0
                cases e161
                replace hx161_0 := (HB.out.cell (World.block_lt_of_cell? w _ hx161_0)).trans hx161_0
                replace hx161_1 := (HB.out.cell (World.block_lt_of_cell? w _ hx161_1)).trans hx161_1
                replace hx161_2 := (HB.out.cell (World.block_lt_of_cell? w _ hx161_2)).trans hx161_2
                have HR161_0 := Aside0.mk hi161_0
                have HC161_0 := Aside0.mk hl161_0
                clear hi161_0 hl161_0
                have HR161_1 := Aside0.mk hi161_1
                have HC161_1 := Aside0.mk hl161_1
                clear hi161_1 hl161_1
                have HR161_2 := Aside0.mk hi161_2
                have HC161_2 := Aside0.mk hl161_2
                clear hi161_2 hl161_2
                replace p161 := eq_true p161
                replace q161 := eq_true q161
                have p162 : 0 ≤ (x5_1 : Int) := of_decide_eq_true (by first | (with_reducible assumption) | assumption)
                have q162 : x5_1 < (l1.length : Int) := of_decide_eq_true (by first | (with_reducible assumption) | assumption)
                obtain ⟨ad162, A162_0, c162_0, A162_1, c162_1, A162_2, c162_2, e162, hx162_0, hx162_1, hx162_2, hl162_0, hi162_0, hl162_1, hi162_1, hl162_2, hi162_2⟩ := at_T110 HR1.out x5_1 p162 q162
                have hw162_2 := hx162_2
                have hw162_1 := hx162_1
                have hw162_0 := hx162_0
                cases e162
                replace hx162_0 := (HB.out.cell (World.block_lt_of_cell? w _ hx162_0)).trans hx162_0
                replace hx162_1 := (HB.out.cell (World.block_lt_of_cell? w _ hx162_1)).trans hx162_1
                replace hx162_2 := (HB.out.cell (World.block_lt_of_cell? w _ hx162_2)).trans hx162_2
                have HR162_0 := Aside0.mk hi162_0
                have HC162_0 := Aside0.mk hl162_0
                clear hi162_0 hl162_0
                have HR162_1 := Aside0.mk hi162_1
                have HC162_1 := Aside0.mk hl162_1
                clear hi162_1 hl162_1
                have HR162_2 := Aside0.mk hi162_2
                have HC162_2 := Aside0.mk hl162_2
                clear hi162_2 hl162_2
                replace p162 := eq_true p162
                replace q162 := eq_true q162
                refine start_ (n := 10) (S := fun w' => w'.cell? (ad161.add ((x5_1).toNat * 3)) = some (.slice A161_0 ((rd_T110 l0 x5_1).f0).length c161_0) ∧ w'.cell? ⟨(ad161.add ((x5_1).toNat * 3)).block, (ad161.add ((x5_1).toNat * 3)).off + 1, none⟩ = some (.slice A161_1 ((rd_T110 l0 x5_1).f1).length c161_1) ∧ w'.cell? ⟨(ad161.add ((x5_1).toNat * 3)).block, (ad161.add ((x5_1).toNat * 3)).off + 2, none⟩ = some (.slice A161_2 ((rd_T110 l0 x5_1).f2).length c161_2) ∧ w'.cell? (ad162.add ((x5_1).toNat * 3)) = some (.slice A162_0 ((rd_T110 l1 x5_1).f0).length c162_0) ∧ w'.cell? ⟨(ad162.add ((x5_1).toNat * 3)).block, (ad162.add ((x5_1).toNat * 3)).off + 1, none⟩ = some (.slice A162_1 ((rd_T110 l1 x5_1).f1).length c162_1) ∧ w'.cell? ⟨(ad162.add ((x5_1).toNat * 3)).block, (ad162.add ((x5_1).toNat * 3)).off + 2, none⟩ = some (.slice A162_2 ((rd_T110 l1 x5_1).f2).length c162_2)) (ds := []) #[false, false, false, false, false, false, false, false, false, false] (by kernel_rfl) rfl rfl ⟨((HB.out.cell (World.block_lt_of_cell? w _ hw161_0)).trans hw161_0), ((HB.out.cell (World.block_lt_of_cell? w _ hw161_1)).trans hw161_1), ((HB.out.cell (World.block_lt_of_cell? w _ hw161_2)).trans hw161_2), ((HB.out.cell (World.block_lt_of_cell? w _ hw162_0)).trans hw162_0), ((HB.out.cell (World.block_lt_of_cell? w _ hw162_1)).trans hw162_1), ((HB.out.cell (World.block_lt_of_cell? w _ hw162_2)).trans hw162_2)⟩ (fun hHeld => ?_); refine with_tabW laws_eqPageS.tab6 laws_eqPageS.bits6 (fun HT_ HW_ => ?_)
                generalize wr.drew = w11 at HB HR161_0 HR161_1 HR161_2 HR162_0 HR162_1 HR162_2 hx161_0 hx161_1 hx161_2 hx162_0 hx162_1 hx162_2 hHeld ⊢
                refine pure_ (i := 0) (N := some 17) (v := ?_) (a' := ?_) #[true, false, false, false, false, false, false, false, false, false] rfl rfl (any_of HT_.out (by kernel_rfl)) (fun _ _ _ h => h) (Or.inl ⟨by rfl, ?_⟩) ?_ ?_
                rotate_left
                · intro w'
                  go_simp
                  with_reducible rfl
                rotate_left
                · simp only [Act.put, List.setIfInBounds_toArray, List.set_cons_zero, List.set_cons_succ, i64_w, i32_w]
                  rfl
                refine pure_ (i := 1) (N := some 18) (v := ?_) (a' := ?_) #[true, true, false, false, false, false, false, false, false, false] rfl rfl (any_of HT_.out (by kernel_rfl)) (fun _ _ _ h => h) (Or.inl ⟨by rfl, ?_⟩) ?_ ?_
                rotate_left
                · intro w'
                  go_simp
                  with_reducible rfl
                rotate_left
                · simp only [Act.put, List.setIfInBounds_toArray, List.set_cons_zero, List.set_cons_succ, i64_w, i32_w]
                  rfl
                refine pure_ (i := 2) (N := some 19) (v := ?_) (a' := ?_) #[true, true, true, false, false, false, false, false, false, false] rfl rfl (any_of HT_.out (by kernel_rfl)) (fun _ _ _ h => h) (Or.inl ⟨by rfl, ?_⟩) ?_ ?_
                rotate_left
                · intro w'
                  go_simp
                  with_reducible rfl
                rotate_left
                · simp only [Act.put, List.setIfInBounds_toArray, List.set_cons_zero, List.set_cons_succ, i64_w, i32_w]
                  rfl
                refine pure_ (i := 4) (N := some 21) (v := ?_) (a' := ?_) #[true, true, true, false, true, false, false, false, false, false] rfl rfl (any_of HT_.out (by kernel_rfl)) (fun _ _ _ h => h) (Or.inl ⟨by rfl, ?_⟩) ?_ ?_
                rotate_left
                · intro w'
                  go_simp
                  with_reducible rfl
                rotate_left
                · simp only [Act.put, List.setIfInBounds_toArray, List.set_cons_zero, List.set_cons_succ, i64_w, i32_w]
                  rfl
                refine pure_ (i := 5) (N := some 22) (v := ?_) (a' := ?_) #[true, true, true, false, true, true, false, false, false, false] rfl rfl (any_of HT_.out (by kernel_rfl)) (fun _ _ _ h => h) (Or.inl ⟨by rfl, ?_⟩) ?_ ?_
                rotate_left
                · intro w'
                  go_simp
                  with_reducible rfl
                rotate_left
                · simp only [Act.put, List.setIfInBounds_toArray, List.set_cons_zero, List.set_cons_succ, i64_w, i32_w]
                  rfl
                refine pure_ (i := 6) (N := some 23) (v := ?_) (a' := ?_) #[true, true, true, false, true, true, true, false, false, false] rfl rfl (any_of HT_.out (by kernel_rfl)) (fun _ _ _ h => h) (Or.inl ⟨by rfl, ?_⟩) ?_ ?_
                rotate_left
                · intro w'
                  go_simp
                  with_reducible rfl
                rotate_left
                · simp only [Act.put, List.setIfInBounds_toArray, List.set_cons_zero, List.set_cons_succ, i64_w, i32_w]
                  rfl
                refine take_ (i := 3) (N := some 20) (v := ?_) (a' := ?_) #[true, true, true, true, true, true, true, false, false, false] rfl rfl (take_ofW HT_.out HW_.out (by kernel_rfl)) (fun _ _ _ h => h) (Or.inl ⟨by rfl, ?_⟩) hHeld ?_ ?_
                rotate_left
                · rintro w' ⟨s0, s1, s2, s3, s4, s5⟩
                  go_simp
                  with_reducible rfl
                rotate_left
                · simp only [Act.put, List.setIfInBounds_toArray, List.set_cons_zero, List.set_cons_succ, i64_w, i32_w]
                  rfl
                refine take_ (i := 7) (N := some 24) (v := ?_) (a' := ?_) #[true, true, true, true, true, true, true, true, false, false] rfl rfl (take_ofW HT_.out HW_.out (by kernel_rfl)) (fun _ _ _ h => h) (Or.inl ⟨by rfl, ?_⟩) hHeld ?_ ?_
                rotate_left
                · rintro w' ⟨s0, s1, s2, s3, s4, s5⟩
                  go_simp
                  with_reducible rfl
                rotate_left
                · simp only [Act.put, List.setIfInBounds_toArray, List.set_cons_zero, List.set_cons_succ, i64_w, i32_w]
                  rfl
                refine one_ (i := 8) (N := some 25) #[true, true, true, true, true, true, true, true, true, false] rfl rfl (one_of HT_.out (by kernel_rfl)) (by decide) (fun K hK => ?_)
                refine goes_ Try.func98 (by kernel_rfl) rfl #[.agg #[.slice A161_0 ((rd_T110 l0 x5_1).f0).length c161_0, .slice A161_1 ((rd_T110 l0 x5_1).f1).length c161_1, .slice A161_2 ((rd_T110 l0 x5_1).f2).length c161_2], .agg #[.slice A162_0 ((rd_T110 l1 x5_1).f0).length c162_0, .slice A162_1 ((rd_T110 l1 x5_1).f1).length c162_1, .slice A162_2 ((rd_T110 l1 x5_1).f2).length c162_2]] (by rfl) rfl rfl (by (try simp only [List.map_toArray, List.map_cons, List.map_nil]); first | done | rfl | (simp only [List.length_drop, List.length_take]; rfl)) ?_
                with_reducible refine (laws_eqPage.calls k1 _ _ ((rd_T110 l0 x5_1).f0) _ _ ((rd_T110 l0 x5_1).f1) _ _ ((rd_T110 l0 x5_1).f2) _ _ ((rd_T110 l1 x5_1).f0) _ _ ((rd_T110 l1 x5_1).f1) _ _ ((rd_T110 l1 x5_1).f2) false _ ?side1 ?side2 ?side3 ?side4 ?side5 ?side6 ?side7 ?side8 ?side9 ?side10 ?side11 ?side12 A7.out).mono ?_
                (case side1 => repeat (first | exact (Kd.C_below HR161_0.out HB.out) | (with_reducible refine Kd.C_alloc ?_ _) | (with_reducible refine Kd.C_drewN ?_ _) | (with_reducible refine Kd.C_drew ?_)))
                (case side2 => exact HC161_0.out)
                (case side3 => repeat (first | exact (Kd.C_below HR161_1.out HB.out) | (with_reducible refine Kd.C_alloc ?_ _) | (with_reducible refine Kd.C_drewN ?_ _) | (with_reducible refine Kd.C_drew ?_)))
                (case side4 => exact HC161_1.out)
                (case side5 => repeat (first | exact (Kd.C_below HR161_2.out HB.out) | (with_reducible refine Kd.C_alloc ?_ _) | (with_reducible refine Kd.C_drewN ?_ _) | (with_reducible refine Kd.C_drew ?_)))
                (case side6 => exact HC161_2.out)
                (case side7 => repeat (first | exact (Kd.C_below HR162_0.out HB.out) | (with_reducible refine Kd.C_alloc ?_ _) | (with_reducible refine Kd.C_drewN ?_ _) | (with_reducible refine Kd.C_drew ?_)))
                (case side8 => exact HC162_0.out)
                (case side9 => repeat (first | exact (Kd.C_below HR162_1.out HB.out) | (with_reducible refine Kd.C_alloc ?_ _) | (with_reducible refine Kd.C_drewN ?_ _) | (with_reducible refine Kd.C_drew ?_)))
                (case side10 => exact HC162_1.out)
                (case side11 => repeat (first | exact (Kd.C_below HR162_2.out HB.out) | (with_reducible refine Kd.C_alloc ?_ _) | (with_reducible refine Kd.C_drewN ?_ _) | (with_reducible refine Kd.C_drew ?_)))
                (case side12 => exact HC162_2.out)
                rintro e w12 ⟨rfl, hb⟩
                refine ⟨_, rfl, ?_⟩
                have n0_ := Aside0.mk (below_step (by repeat (first | (with_reducible first | exact HB.out | apply below_alloc | apply pw_below_drewN | apply below_drew1) | exact HB.out)) hb)
                clear HB
                have HB := n0_
                clear n0_
                (try clear hb)
                (try clear hb2)
                (try clear hk)
                (try clear hi)
                refine hK.out _ _ ⟨((HB.out.cell (World.block_lt_of_cell? w _ hw161_0)).trans hw161_0), ((HB.out.cell (World.block_lt_of_cell? w _ hw161_1)).trans hw161_1), ((HB.out.cell (World.block_lt_of_cell? w _ hw161_2)).trans hw161_2), ((HB.out.cell (World.block_lt_of_cell? w _ hw162_0)).trans hw162_0), ((HB.out.cell (World.block_lt_of_cell? w _ hw162_1)).trans hw162_1), ((HB.out.cell (World.block_lt_of_cell? w _ hw162_2)).trans hw162_2)⟩ (fun hHeld => ?_)
                clear hK K
                refine norm_ (a' := ?_) ?_ ?_
                rotate_left
                · show Act.put _ (some 25) _ = _
                  simp only [Act.put, List.setIfInBounds_toArray, List.set_cons_zero, List.set_cons_succ, i64_w, i32_w]
                  rfl
                refine pure_ (i := 9) (N := some 26) (v := ?_) (a' := ?_) #[true, true, true, true, true, true, true, true, true, true] rfl rfl (any_of HT_.out (by kernel_rfl)) (fun _ _ _ h => h) (Or.inl ⟨by rfl, ?_⟩) ?_ ?_
                rotate_left
                · intro w'
                  go_simp
                  with_reducible rfl
                rotate_left
                · simp only [Act.put, List.setIfInBounds_toArray, List.set_cons_zero, List.set_cons_succ, i64_w, i32_w]
                  rfl
                refine done_ (done_of HT_.out (by kernel_rfl)) ?_
                try go_wp2
                go_ret
                exact ⟨by first | rfl | (simp [errW_none, errW_some] <;> rfl) | (simp [*, errW_none, errW_some] <;> rfl), by repeat (first | (with_reducible first | exact HB.out | apply below_alloc | apply pw_below_drewN | apply below_drew1) | exact HB.out)⟩
            · rw [if_neg c6] at H
              exact absurd H (by simp)
          · rw [if_neg c5] at H
            exact absurd H (by simp)
        · rw [if_neg c4] at H
          have c4b0 : decide (x5_1 < (l0.length : Int)) = false := decide_eq_false c4
          clear c4
          obtain rfl := Option.some.inj H
          go_wp2
          go_ret
          exact ⟨by first | rfl | (simp [errW_none, errW_some] <;> rfl) | (simp [*, errW_none, errW_some] <;> rfl), by repeat (first | (with_reducible first | exact HB.out | apply below_alloc | apply pw_below_drewN | apply below_drew1) | exact HB.out)⟩
  · rw [if_neg c3] at H
    have c3b0 : ((l0.length : Int) == (l1.length : Int)) = false := beq_eq_false_iff_ne.mpr c3
    have c3b1 : ((l0.length : Int) != (l1.length : Int)) = true := bne_iff_ne.mpr c3
    have c3b2 : (l0.length == l1.length) = false := by first | simpa using c3 | (simp at c3 ⊢; omega)
    obtain rfl := Option.some.inj H
    go_enter Try.func60, Try.ntmps60
    go_wp2
    go_ret
    exact ⟨by first | rfl | (simp [errW_none, errW_some] <;> rfl) | (simp [*, errW_none, errW_some] <;> rfl), by repeat (first | (with_reducible first | exact HB.out | apply below_alloc | apply pw_below_drewN | apply below_drew1) | exact HB.out)⟩

end Go.Proofs.Ytoddejmlcnbdmaa.Fn
namespace Go.Proofs.Ytoddejmlcnbdmaa.Fn
open Go.RowKit Go.Proofs.YtoddejmlcnbdmaaW.PrintWords Go.Proofs.YtoddejmlcnbdmaaW.PrintLast Go.Proofs.YtoddejmlcnbdmaaW.PrintMore
attribute [local go_sem] max2_int min2_int max_two min_two max_three min_three max_four min_four   -- for this text's walks alone
set_option linter.unusedVariables false
set_option linter.unusedSimpArgs false

/-! ### laws_eqTree: function 19 -/
def laws_eqTree.f (k : Nat) (l0_0 : List (S110)) (l1_0 : List (S110)) : Option (Bool) := (laws_eqPageS.f k l0_0 l1_0).bind fun t166 => (if t166 = true then (some true) else (some false))
theorem laws_eqTree.mono : ∀ a0 a1 k, LeO (laws_eqTree.f k a0 a1) (laws_eqTree.f (k + 1) a0 a1) := by
  intro a0 a1 k
  unfold laws_eqTree.f
  repeat' first
      | (with_reducible exact laws_eqPageS.mono _ _ _)
      | (with_reducible exact LeO.refl _)
      | (with_reducible exact LeO.none _)
      | (with_reducible refine LeO.ite ?_ ?_)
      | (with_reducible refine LeO.bind ?_ (fun _ => ?_))
      | exact laws_eqPageS.mono _ _ _
      | exact LeO.none _
      | refine LeO.ite ?_ ?_
      | refine LeO.bind ?_ (fun _ => ?_)
set_option maxHeartbeats 8000000 in
set_option maxRecDepth 100000 in
theorem laws_eqTree.calls (k : Nat) (A0_0 : Option Addr) (c0_0 : Nat) (l0_0 : List (S110)) (A1_0 : Option Addr) (c1_0 : Nat) (l1_0 : List (S110)) (r : Bool) (w : World) (hr0_0 : Kd.C k110 w A0_0 l0_0.length l0_0) (hc0_0 : l0_0.length ≤ c0_0) (hr1_0 : Kd.C k110 w A1_0 l1_0.length l1_0) (hc1_0 : l1_0.length ≤ c1_0) (h : laws_eqTree.f k l0_0 l1_0 = some r) :
    Calls Try.prog 19 #[.agg #[.slice A0_0 l0_0.length c0_0], .agg #[.slice A1_0 l1_0.length c1_0]] w fun e w' => e = .returned (.bool r) ∧ Below w.heap.size w w' := by
  have hu29 := Try.underlying29
  have HR0_0 := Aside0.mk hr0_0
  have HC0_0 := Aside0.mk hc0_0
  clear hr0_0 hc0_0
  have HR1_0 := Aside0.mk hr1_0
  have HC1_0 := Aside0.mk hc1_0
  clear hr1_0 hc1_0
  have HB := Aside0.mk (Below.refl w.heap.size w)
  have H : ((laws_eqPageS.f k l0_0 l1_0).bind fun t166 => (if t166 = true then (some true) else (some false))) = some r := h
  clear h
  replace H := Option.bind_eq_some_iff.mp H
  obtain ⟨t166, A30, H⟩ := H
  replace H : (if t166 = true then (some true) else (some false)) = some r := H
  have A3 := Aside0.mk A30
  clear A30
  by_cases c4 : t166 = true
  · subst c4
    have H1 : (some true) = some r := by rw [if_pos rfl] at H; exact H
    clear H
    have H := H1
    clear H1
    obtain rfl := Option.some.inj H
    go_enter Try.func19, Try.ntmps19
    go_wp2_with (first | ((with_reducible refine gate_dst (N := 2) rfl ?_); refine box_event ?hg (N := 2) ?hd (cs := #[.slice A0_0 l0_0.length c0_0]) (t := 29) ?hr ?_; (case hd => rfl); (case hg => rfl); (case hr => first | (go_simp; done) | (go_simp; rfl)); intro gb164 hg w5 hbox hb; have n0_ := Aside0.mk (below_step (by repeat (first | (with_reducible first | exact HB.out | apply below_alloc | apply pw_below_drewN | apply below_drew1) | exact HB.out)) hb); have n1_ := Aside0.mk (hbox); have n2_ := Aside0.mk ((by rw [hg]; exact (below_size (by repeat (first | (with_reducible first | exact HB.out | apply below_alloc | apply pw_below_drewN | apply below_drew1) | exact HB.out))) : w.heap.size ≤ gb164)); have n3_ := Aside0.mk ((by rw [hg]; exact (below_size (by repeat (first | (with_reducible first | exact HB.out | apply below_alloc | apply pw_below_drewN | apply below_drew1) | exact HB.out))) : w.heap.size ≤ gb164)); clear HB; have HB := n0_; have BK164 := n1_; have GW164 := n2_; have GE164 := n3_; clear n0_ n1_ n2_ n3_; clear hb hbox hg) | ((with_reducible refine gate_dst (N := 3) rfl ?_); refine box_event ?hg (N := 3) ?hd (cs := #[.slice A1_0 l1_0.length c1_0]) (t := 29) ?hr ?_; (case hd => rfl); (case hg => rfl); (case hr => first | (go_simp; done) | (go_simp; rfl)); intro gb165 hg w6 hbox hb; have n0_ := Aside0.mk (blk_below (g := gb164) (o := .cells #[.slice A0_0 l0_0.length c0_0] 29 (0, 0)) (by (with_reducible repeat (first | refine blk_drewN ?_ _ | refine blk_drew ?_ | refine blk_alloc ?_ _)); exact BK164.out) hb); have n1_ := Aside0.mk (below_step (by repeat (first | (with_reducible first | exact HB.out | apply below_alloc | apply pw_below_drewN | apply below_drew1 | refine below_set ?_ GE164.out) | exact HB.out)) hb); have n2_ := Aside0.mk (hbox); have n3_ := Aside0.mk ((by rw [hg]; exact (below_size (by repeat (first | (with_reducible first | exact HB.out | apply below_alloc | apply pw_below_drewN | apply below_drew1 | refine below_set ?_ GE164.out) | exact HB.out))) : w.heap.size ≤ gb165)); have n4_ := Aside0.mk ((by rw [hg]; exact (below_size (by repeat (first | (with_reducible first | exact HB.out | apply below_alloc | apply pw_below_drewN | apply below_drew1 | refine below_set ?_ GE164.out) | exact HB.out))) : w.heap.size ≤ gb165)); have n5_ := Aside0.mk ((by rw [hg]; exact Nat.ne_of_lt (blk_lt (g := gb164) (o := .cells #[.slice A0_0 l0_0.length c0_0] 29 (0, 0)) (by (with_reducible repeat (first | refine blk_drewN ?_ _ | refine blk_drew ?_ | refine blk_alloc ?_ _)); exact BK164.out)) : gb164 ≠ gb165)); have n6_ := Aside0.mk ((by rw [hg]; exact Nat.ne_of_gt (blk_lt (g := gb164) (o := .cells #[.slice A0_0 l0_0.length c0_0] 29 (0, 0)) (by (with_reducible repeat (first | refine blk_drewN ?_ _ | refine blk_drew ?_ | refine blk_alloc ?_ _)); exact BK164.out)) : gb165 ≠ gb164)); clear BK164; clear HB; have BK164 := n0_; have HB := n1_; have BK165 := n2_; have GW165 := n3_; have GE165 := n4_; have NB164_165 := n5_; have NB165_164 := n6_; clear n0_ n1_ n2_ n3_ n4_ n5_ n6_; clear hb hbox hg; have hnb7 := NB164_165.out; have hnc7 := NB165_164.out; have hcz8_0 : w6.cell? ⟨gb164, 0, none⟩ = some (.slice A0_0 l0_0.length c0_0) := (blk_cell BK164.out 0).trans rfl; have hfz8_0 := blk_frozen BK164.out 0; have hcz9_0 : w6.cell? ⟨gb165, 0, none⟩ = some (.slice A1_0 l1_0.length c1_0) := (blk_cell BK165.out 0).trans rfl; have hfz9_0 := blk_frozen BK165.out 0) | ((with_reducible refine gate_callee (f := 60) rfl ?_); refine goesL_ (some 9) rfl rfl Try.func60 (by kernel_rfl) rfl #[.slice A0_0 l0_0.length c0_0, .slice A1_0 l1_0.length c1_0] rfl (by (try simp only [List.map_toArray, List.map_cons, List.map_nil]); first | done | rfl | (simp only [List.length_drop, List.length_take]; rfl)) ?_; (with_reducible refine (laws_eqPageS.calls k _ _ l0_0 _ _ l1_0 true _ ?side1 ?side2 ?side3 ?side4 A3.out).mono ?_); (case side1 => repeat (first | exact (Kd.C_below HR0_0.out HB.out) | (with_reducible refine Kd.C_alloc ?_ _) | (with_reducible refine Kd.C_drewN ?_ _) | (with_reducible refine Kd.C_drew ?_))); (case side2 => exact HC0_0.out); (case side3 => repeat (first | exact (Kd.C_below HR1_0.out HB.out) | (with_reducible refine Kd.C_alloc ?_ _) | (with_reducible refine Kd.C_drewN ?_ _) | (with_reducible refine Kd.C_drew ?_))); (case side4 => exact HC1_0.out); rintro e w10 ⟨rfl, hb⟩; refine ⟨_, rfl, ?_⟩; have n0_ := Aside0.mk (blk_below (g := gb164) (o := .cells #[.slice A0_0 l0_0.length c0_0] 29 (0, 0)) (by (with_reducible repeat (first | refine blk_drewN ?_ _ | refine blk_drew ?_ | refine blk_alloc ?_ _)); exact BK164.out) hb); have n1_ := Aside0.mk (blk_below (g := gb165) (o := .cells #[.slice A1_0 l1_0.length c1_0] 29 (0, 0)) (by (with_reducible repeat (first | refine blk_drewN ?_ _ | refine blk_drew ?_ | refine blk_alloc ?_ _)); exact BK165.out) hb); have n2_ := Aside0.mk (below_step (by repeat (first | (with_reducible first | exact HB.out | apply below_alloc | apply pw_below_drewN | apply below_drew1 | refine below_set ?_ GE164.out | refine below_set ?_ GE165.out) | exact HB.out)) hb); clear BK164; clear BK165; clear HB; have BK164 := n0_; have BK165 := n1_; have HB := n2_; clear n0_ n1_ n2_; (try clear hb); (try clear hb2); (try clear hk); (try clear hi)))
    go_ret
    exact ⟨by first | rfl | (simp [errW_none, errW_some] <;> rfl) | (simp [*, errW_none, errW_some] <;> rfl), by repeat (first | (with_reducible first | exact HB.out | apply below_alloc | apply pw_below_drewN | apply below_drew1 | refine below_set ?_ GE164.out | refine below_set ?_ GE165.out) | exact HB.out)⟩
  · replace c4 := Bool.eq_false_iff.mpr c4
    subst c4
    have H1 : (some false) = some r := by rw [if_neg (show ¬ (false = true) by decide)] at H; exact H
    clear H
    have H := H1
    clear H1
    obtain rfl := Option.some.inj H
    go_enter Try.func19, Try.ntmps19
    go_wp2_with (first | ((with_reducible refine gate_dst (N := 2) rfl ?_); refine box_event ?hg (N := 2) ?hd (cs := #[.slice A0_0 l0_0.length c0_0]) (t := 29) ?hr ?_; (case hd => rfl); (case hg => rfl); (case hr => first | (go_simp; done) | (go_simp; rfl)); intro gb164 hg w11 hbox hb; have n0_ := Aside0.mk (below_step (by repeat (first | (with_reducible first | exact HB.out | apply below_alloc | apply pw_below_drewN | apply below_drew1) | exact HB.out)) hb); have n1_ := Aside0.mk (hbox); have n2_ := Aside0.mk ((by rw [hg]; exact (below_size (by repeat (first | (with_reducible first | exact HB.out | apply below_alloc | apply pw_below_drewN | apply below_drew1) | exact HB.out))) : w.heap.size ≤ gb164)); have n3_ := Aside0.mk ((by rw [hg]; exact (below_size (by repeat (first | (with_reducible first | exact HB.out | apply below_alloc | apply pw_below_drewN | apply below_drew1) | exact HB.out))) : w.heap.size ≤ gb164)); clear HB; have HB := n0_; have BK164 := n1_; have GW164 := n2_; have GE164 := n3_; clear n0_ n1_ n2_ n3_; clear hb hbox hg) | ((with_reducible refine gate_dst (N := 3) rfl ?_); refine box_event ?hg (N := 3) ?hd (cs := #[.slice A1_0 l1_0.length c1_0]) (t := 29) ?hr ?_; (case hd => rfl); (case hg => rfl); (case hr => first | (go_simp; done) | (go_simp; rfl)); intro gb165 hg w12 hbox hb; have n0_ := Aside0.mk (blk_below (g := gb164) (o := .cells #[.slice A0_0 l0_0.length c0_0] 29 (0, 0)) (by (with_reducible repeat (first | refine blk_drewN ?_ _ | refine blk_drew ?_ | refine blk_alloc ?_ _)); exact BK164.out) hb); have n1_ := Aside0.mk (below_step (by repeat (first | (with_reducible first | exact HB.out | apply below_alloc | apply pw_below_drewN | apply below_drew1 | refine below_set ?_ GE164.out) | exact HB.out)) hb); have n2_ := Aside0.mk (hbox); have n3_ := Aside0.mk ((by rw [hg]; exact (below_size (by repeat (first | (with_reducible first | exact HB.out | apply below_alloc | apply pw_below_drewN | apply below_drew1 | refine below_set ?_ GE164.out) | exact HB.out))) : w.heap.size ≤ gb165)); have n4_ := Aside0.mk ((by rw [hg]; exact (below_size (by repeat (first | (with_reducible first | exact HB.out | apply below_alloc | apply pw_below_drewN | apply below_drew1 | refine below_set ?_ GE164.out) | exact HB.out))) : w.heap.size ≤ gb165)); have n5_ := Aside0.mk ((by rw [hg]; exact Nat.ne_of_lt (blk_lt (g := gb164) (o := .cells #[.slice A0_0 l0_0.length c0_0] 29 (0, 0)) (by (with_reducible repeat (first | refine blk_drewN ?_ _ | refine blk_drew ?_ | refine blk_alloc ?_ _)); exact BK164.out)) : gb164 ≠ gb165)); have n6_ := Aside0.mk ((by rw [hg]; exact Nat.ne_of_gt (blk_lt (g := gb164) (o := .cells #[.slice A0_0 l0_0.length c0_0] 29 (0, 0)) (by (with_reducible repeat (first | refine blk_drewN ?_ _ | refine blk_drew ?_ | refine blk_alloc ?_ _)); exact BK164.out)) : gb165 ≠ gb164)); clear BK164; clear HB; have BK164 := n0_; have HB := n1_; have BK165 := n2_; have GW165 := n3_; have GE165 := n4_; have NB164_165 := n5_; have NB165_164 := n6_; clear n0_ n1_ n2_ n3_ n4_ n5_ n6_; clear hb hbox hg; have hnb13 := NB164_165.out; have hnc13 := NB165_164.out; have hcz14_0 : w12.cell? ⟨gb164, 0, none⟩ = some (.slice A0_0 l0_0.length c0_0) := (blk_cell BK164.out 0).trans rfl; have hfz14_0 := blk_frozen BK164.out 0; have hcz15_0 : w12.cell? ⟨gb165, 0, none⟩ = some (.slice A1_0 l1_0.length c1_0) := (blk_cell BK165.out 0).trans rfl; have hfz15_0 := blk_frozen BK165.out 0) | ((with_reducible refine gate_callee (f := 60) rfl ?_); refine goesL_ (some 9) rfl rfl Try.func60 (by kernel_rfl) rfl #[.slice A0_0 l0_0.length c0_0, .slice A1_0 l1_0.length c1_0] rfl (by (try simp only [List.map_toArray, List.map_cons, List.map_nil]); first | done | rfl | (simp only [List.length_drop, List.length_take]; rfl)) ?_; (with_reducible refine (laws_eqPageS.calls k _ _ l0_0 _ _ l1_0 false _ ?side1 ?side2 ?side3 ?side4 A3.out).mono ?_); (case side1 => repeat (first | exact (Kd.C_below HR0_0.out HB.out) | (with_reducible refine Kd.C_alloc ?_ _) | (with_reducible refine Kd.C_drewN ?_ _) | (with_reducible refine Kd.C_drew ?_))); (case side2 => exact HC0_0.out); (case side3 => repeat (first | exact (Kd.C_below HR1_0.out HB.out) | (with_reducible refine Kd.C_alloc ?_ _) | (with_reducible refine Kd.C_drewN ?_ _) | (with_reducible refine Kd.C_drew ?_))); (case side4 => exact HC1_0.out); rintro e w16 ⟨rfl, hb⟩; refine ⟨_, rfl, ?_⟩; have n0_ := Aside0.mk (blk_below (g := gb164) (o := .cells #[.slice A0_0 l0_0.length c0_0] 29 (0, 0)) (by (with_reducible repeat (first | refine blk_drewN ?_ _ | refine blk_drew ?_ | refine blk_alloc ?_ _)); exact BK164.out) hb); have n1_ := Aside0.mk (blk_below (g := gb165) (o := .cells #[.slice A1_0 l1_0.length c1_0] 29 (0, 0)) (by (with_reducible repeat (first | refine blk_drewN ?_ _ | refine blk_drew ?_ | refine blk_alloc ?_ _)); exact BK165.out) hb); have n2_ := Aside0.mk (below_step (by repeat (first | (with_reducible first | exact HB.out | apply below_alloc | apply pw_below_drewN | apply below_drew1 | refine below_set ?_ GE164.out | refine below_set ?_ GE165.out) | exact HB.out)) hb); clear BK164; clear BK165; clear HB; have BK164 := n0_; have BK165 := n1_; have HB := n2_; clear n0_ n1_ n2_; (try clear hb); (try clear hb2); (try clear hk); (try clear hi)))
    go_ret
    exact ⟨by first | rfl | (simp [errW_none, errW_some] <;> rfl) | (simp [*, errW_none, errW_some] <;> rfl), by repeat (first | (with_reducible first | exact HB.out | apply below_alloc | apply pw_below_drewN | apply below_drew1 | refine below_set ?_ GE164.out | refine below_set ?_ GE165.out) | exact HB.out)⟩

end Go.Proofs.Ytoddejmlcnbdmaa.Fn
namespace Go.Proofs.Ytoddejmlcnbdmaa.Fn
open Go.RowKit Go.Proofs.YtoddejmlcnbdmaaW.PrintWords Go.Proofs.YtoddejmlcnbdmaaW.PrintLast Go.Proofs.YtoddejmlcnbdmaaW.PrintMore
set_option linter.unusedSimpArgs false
set_option linter.unusedVariables false

def laws_FnExactRangeOf.Runs (k : Nat) (l : List S115) (a1 a2 : ByteArray) : Prop := (1048576 < (a1.size : Int)) ∨ ((a1.size : Int) ≤ 1048576 ∧ ((1048576 < (a2.size : Int)) ∨ ((a2.size : Int) ≤ 1048576 ∧ ∃ left : Int, laws_szTree.f k l 1048576 = some left ∧ (left < 0 ∨ (0 ≤ left ∧ ∃ (p : List S110) (ks : List ByteArray) (vs : List ByteArray) (b : Bool) (m0 : Int) (z0 : List S110) (m1 : Int) (z1 : List ByteArray) (m2 : Int) (z2 : List ByteArray),
  laws_toTree.f k l = some p ∧ spec_RangeOf.f p a1 a2 = some (ks, vs, b) ∧ impl_RangeOf.f k p a1 a2 = some (ks, vs, b) ∧ laws_eqStringS.f k ks ks = some true ∧ laws_eqStringS.f k vs vs = some true ∧ laws_eqTree.f k p p = some true ∧ laws_markPageS.f k p 1 = some (m0, z0) ∧ laws_markStringS.f k ks 1 = some (m1, z1) ∧ laws_markStringS.f k vs m1 = some (m2, z2) ∧ laws_heldStringS.f k z1 1 = some m1 ∧ laws_heldStringS.f k z2 m1 = some m2 ∧ 0 ≤ m0 ∧ 0 ≤ m1 ∧ 0 ≤ m2)))))
set_option maxHeartbeats 8000000 in
set_option maxRecDepth 100000 in
theorem laws_FnExactRangeOf.calls (k : Nat) (A0 : Option Addr) (c0 : Nat) (l : List S115) (a1 a2 : ByteArray) (r : Bool) (w : World) (hr0 : Kd.C k115 w A0 l.length l) (hc0 : l.length ≤ c0) (h : laws_FnExactRangeOf.Runs k l a1 a2) (ht : r = true) :
    Calls Try.prog 9 #[.agg #[.slice A0 l.length c0], .string a1, .string a2] w fun e w' => e = .returned (.bool r) ∧ Below w.heap.size w w' := by
  have hu24 := Try.underlying24
  have hu29 := Try.underlying29
  subst ht
  have HR0 := Aside0.mk hr0
  have HC0 := Aside0.mk hc0
  have HB := Aside0.mk (Below.refl w.heap.size w)
  clear hr0 hc0
  unfold laws_FnExactRangeOf.Runs at h
  rcases h with h | ⟨hg1, h⟩
  · have cg1 : decide (1048576 < (a1.size : Int)) = true := decide_eq_true h
    clear h
    go_enter Try.func9, Try.ntmps9
    go_wp2_with (first | ((with_reducible refine gate_dst (N := 3) rfl ?_); refine box_event ?hg (N := 3) ?hd (cs := #[.slice A0 l.length c0]) (t := 24) ?hr ?_; (case hd => rfl); (case hg => rfl); (case hr => first | (go_simp; done) | (go_simp; rfl)); intro ga hg w1_ hbox hb; have O_ga := Aside0.mk (show w.heap.size ≤ ga from by rw [hg]; exact below_size (by repeat (first | (with_reducible first | exact HB.out | apply below_alloc | apply pw_below_drewN | apply below_drew1) | exact HB.out))); have LW_ga := Aside0.mk (show w.heap.size ≤ ga from by rw [hg]; exact below_size (by repeat (first | (with_reducible first | exact HB.out | apply below_alloc | apply pw_below_drewN | apply below_drew1) | exact HB.out))); have N_HB := Aside0.mk (below_step (by repeat (first | (with_reducible first | exact HB.out | apply below_alloc | apply pw_below_drewN | apply below_drew1) | exact HB.out)) hb); clear HB; have HB := N_HB; clear N_HB; have HS := Aside0.mk (show ga + 1 ≤ _ from blk_lt hbox); have BA := Aside0.mk hbox; have hzA : World.cell? _ ⟨ga, 0, none⟩ = some (.slice A0 l.length c0) := (blk_cell BA.out 0).trans rfl; clear hg hbox hb))
    go_ret
    exact ⟨by first | rfl | (simp; done), (by repeat (first | (with_reducible first | exact HB.out | apply below_alloc | apply pw_below_drewN | apply below_drew1) | exact HB.out))⟩
  have cg1 : decide (1048576 < (a1.size : Int)) = false := decide_eq_false (by omega)
  clear hg1
  rcases h with h | ⟨hg2, h⟩
  · have cg2 : decide (1048576 < (a2.size : Int)) = true := decide_eq_true h
    clear h
    go_enter Try.func9, Try.ntmps9
    go_wp2_with (first | ((with_reducible refine gate_dst (N := 3) rfl ?_); refine box_event ?hg (N := 3) ?hd (cs := #[.slice A0 l.length c0]) (t := 24) ?hr ?_; (case hd => rfl); (case hg => rfl); (case hr => first | (go_simp; done) | (go_simp; rfl)); intro ga hg w1_ hbox hb; have O_ga := Aside0.mk (show w.heap.size ≤ ga from by rw [hg]; exact below_size (by repeat (first | (with_reducible first | exact HB.out | apply below_alloc | apply pw_below_drewN | apply below_drew1) | exact HB.out))); have LW_ga := Aside0.mk (show w.heap.size ≤ ga from by rw [hg]; exact below_size (by repeat (first | (with_reducible first | exact HB.out | apply below_alloc | apply pw_below_drewN | apply below_drew1) | exact HB.out))); have N_HB := Aside0.mk (below_step (by repeat (first | (with_reducible first | exact HB.out | apply below_alloc | apply pw_below_drewN | apply below_drew1) | exact HB.out)) hb); clear HB; have HB := N_HB; clear N_HB; have HS := Aside0.mk (show ga + 1 ≤ _ from blk_lt hbox); have BA := Aside0.mk hbox; have hzA : World.cell? _ ⟨ga, 0, none⟩ = some (.slice A0 l.length c0) := (blk_cell BA.out 0).trans rfl; clear hg hbox hb))
    go_ret
    exact ⟨by first | rfl | (simp; done), (by repeat (first | (with_reducible first | exact HB.out | apply below_alloc | apply pw_below_drewN | apply below_drew1) | exact HB.out))⟩
  have cg2 : decide (1048576 < (a2.size : Int)) = false := decide_eq_false (by omega)
  clear hg2
  obtain ⟨left, h0, h⟩ := h
  have E0 := Aside0.mk h0
  clear h0
  rcases h with h | ⟨hl0, h⟩
  · have cl : decide (left < 0) = true := decide_eq_true h
    clear h
    go_enter Try.func9, Try.ntmps9
    go_wp2_with (first | ((with_reducible refine gate_dst (N := 3) rfl ?_); refine box_event ?hg (N := 3) ?hd (cs := #[.slice A0 l.length c0]) (t := 24) ?hr ?_; (case hd => rfl); (case hg => rfl); (case hr => first | (go_simp; done) | (go_simp; rfl)); intro ga hg w1_ hbox hb; have O_ga := Aside0.mk (show w.heap.size ≤ ga from by rw [hg]; exact below_size (by repeat (first | (with_reducible first | exact HB.out | apply below_alloc | apply pw_below_drewN | apply below_drew1) | exact HB.out))); have LW_ga := Aside0.mk (show w.heap.size ≤ ga from by rw [hg]; exact below_size (by repeat (first | (with_reducible first | exact HB.out | apply below_alloc | apply pw_below_drewN | apply below_drew1) | exact HB.out))); have N_HB := Aside0.mk (below_step (by repeat (first | (with_reducible first | exact HB.out | apply below_alloc | apply pw_below_drewN | apply below_drew1) | exact HB.out)) hb); clear HB; have HB := N_HB; clear N_HB; have HS := Aside0.mk (show ga + 1 ≤ _ from blk_lt hbox); have BA := Aside0.mk hbox; have hzA : World.cell? _ ⟨ga, 0, none⟩ = some (.slice A0 l.length c0) := (blk_cell BA.out 0).trans rfl; clear hg hbox hb) | (go_at_call 15; (with_reducible refine (laws_szTree.calls k _ _ l 1048576 left _ ?side1 HC0.out E0.out).mono ?_); (case side1 => exact Kd.C_below HR0.out (by repeat (first | (with_reducible first | exact HB.out | apply below_alloc | apply pw_below_drewN | apply below_drew1) | exact HB.out))); rintro e w2_ ⟨rfl, hb⟩; have N_BA := Aside0.mk (blk_below (g := ga) (o := .cells #[.slice A0 l.length c0] 24 (0, 0)) (by (with_reducible repeat (first | refine blk_drewN ?_ _ | refine blk_drew ?_ | refine blk_alloc ?_ _)); exact BA.out) hb); have N_HB := Aside0.mk (below_step (by repeat (first | (with_reducible first | exact HB.out | apply below_alloc | apply pw_below_drewN | apply below_drew1) | exact HB.out)) hb); have N_HS := Aside0.mk (show ga + 1 ≤ _ from Nat.le_trans (by exact HS.out) (Below.size hb)); clear BA HB HS; have BA := N_BA; have HB := N_HB; have HS := N_HS; clear N_BA N_HB N_HS; (try clear hzA); have hzA : World.cell? _ ⟨ga, 0, none⟩ = some (.slice A0 l.length c0) := (blk_cell BA.out 0).trans rfl; clear hb))
    go_ret
    exact ⟨by first | rfl | (simp; done), (by repeat (first | (with_reducible first | exact HB.out | apply below_alloc | apply pw_below_drewN | apply below_drew1) | exact HB.out))⟩
  have cl : decide (left < 0) = false := decide_eq_false (by omega)
  clear hl0
  obtain ⟨p, ks, vs, b, m0, z0, m1, z1, m2, z2, h1, h2, h3, h4, h5, h6, h7, h8, h9, h10, h11, h12, h13, h14⟩ := h
  have E1 := Aside0.mk h1
  have E2 := Aside0.mk h2
  have E3 := Aside0.mk h3
  have E4 := Aside0.mk h4
  have E5 := Aside0.mk h5
  have E6 := Aside0.mk h6
  have E7 := Aside0.mk h7
  have E8 := Aside0.mk h8
  have E9 := Aside0.mk h9
  have E10 := Aside0.mk h10
  have E11 := Aside0.mk h11
  have cm0 : decide (m0 < 0) = false := decide_eq_false (by omega)
  have cm1 : decide (m1 < 0) = false := decide_eq_false (by omega)
  have cm2 : decide (m2 < 0) = false := decide_eq_false (by omega)
  have cmm : (m2 != m2) = false := by simp
  have cbb : (b != b) = false := by simp
  clear h1 h2 h3 h4 h5 h6 h7 h8 h9 h10 h11 h12 h13 h14
  go_enter Try.func9, Try.ntmps9
  go_upto_region 10 with (first | ((with_reducible refine gate_dst (N := 3) rfl ?_); refine box_event ?hg (N := 3) ?hd (cs := #[.slice A0 l.length c0]) (t := 24) ?hr ?_; (case hd => rfl); (case hg => rfl); (case hr => first | (go_simp; done) | (go_simp; rfl)); intro ga hg w1_ hbox hb; have O_ga := Aside0.mk (show w.heap.size ≤ ga from by rw [hg]; exact below_size (by repeat (first | (with_reducible first | exact HB.out | apply below_alloc | apply pw_below_drewN | apply below_drew1) | exact HB.out))); have LW_ga := Aside0.mk (show w.heap.size ≤ ga from by rw [hg]; exact below_size (by repeat (first | (with_reducible first | exact HB.out | apply below_alloc | apply pw_below_drewN | apply below_drew1) | exact HB.out))); have N_HB := Aside0.mk (below_step (by repeat (first | (with_reducible first | exact HB.out | apply below_alloc | apply pw_below_drewN | apply below_drew1) | exact HB.out)) hb); clear HB; have HB := N_HB; clear N_HB; have HS := Aside0.mk (show ga + 1 ≤ _ from blk_lt hbox); have BA := Aside0.mk hbox; have hzA : World.cell? _ ⟨ga, 0, none⟩ = some (.slice A0 l.length c0) := (blk_cell BA.out 0).trans rfl; clear hg hbox hb) | (go_at_call 15; (with_reducible refine (laws_szTree.calls k _ _ l 1048576 left _ ?side1 HC0.out E0.out).mono ?_); (case side1 => exact Kd.C_below HR0.out (by repeat (first | (with_reducible first | exact HB.out | apply below_alloc | apply pw_below_drewN | apply below_drew1) | exact HB.out))); rintro e w2_ ⟨rfl, hb⟩; have N_BA := Aside0.mk (blk_below (g := ga) (o := .cells #[.slice A0 l.length c0] 24 (0, 0)) (by (with_reducible repeat (first | refine blk_drewN ?_ _ | refine blk_drew ?_ | refine blk_alloc ?_ _)); exact BA.out) hb); have N_HB := Aside0.mk (below_step (by repeat (first | (with_reducible first | exact HB.out | apply below_alloc | apply pw_below_drewN | apply below_drew1) | exact HB.out)) hb); have N_HS := Aside0.mk (show ga + 1 ≤ _ from Nat.le_trans (by exact HS.out) (Below.size hb)); clear BA HB HS; have BA := N_BA; have HB := N_HB; have HS := N_HS; clear N_BA N_HB N_HS; (try clear hzA); have hzA : World.cell? _ ⟨ga, 0, none⟩ = some (.slice A0 l.length c0) := (blk_cell BA.out 0).trans rfl; clear hb) | (go_at_call 17; (with_reducible refine (laws_toTree.callsP k _ _ l p _ ?side1 HC0.out E1.out).mono ?_); (case side1 => exact Kd.C_below HR0.out (by repeat (first | (with_reducible first | exact HB.out | apply below_alloc | apply pw_below_drewN | apply below_drew1) | exact HB.out))); rintro e w3_ ⟨vHP1, rfl, ho, hb⟩; obtain ⟨AHP1, cHP1, ev_⟩ := Kd.S_slice ho; subst ev_; obtain ⟨nHP1, mHP1, o1_, o2_, o3_, hr_⟩ := Kd.S_iv (last := ga + 1) ho hb (by repeat (first | (with_reducible first | exact HB.out | apply below_alloc | apply pw_below_drewN | apply below_drew1) | exact HB.out)) (show ga + 1 ≤ _ from HS.out); have O_HP1 := Aside0.mk (And.intro o1_ o2_); have N_BA := Aside0.mk (blk_below (g := ga) (o := .cells #[.slice A0 l.length c0] 24 (0, 0)) (by (with_reducible repeat (first | refine blk_drewN ?_ _ | refine blk_drew ?_ | refine blk_alloc ?_ _)); exact BA.out) hb); have N_HB := Aside0.mk (below_step (by repeat (first | (with_reducible first | exact HB.out | apply below_alloc | apply pw_below_drewN | apply below_drew1) | exact HB.out)) hb); have N_HS := Aside0.mk (show ga + 1 ≤ _ from Nat.le_trans (by exact HS.out) (Below.size hb)); clear BA HB HS; have BA := N_BA; have HB := N_HB; have HS := N_HS; clear N_BA N_HB N_HS; (try clear hzA); have hzA : World.cell? _ ⟨ga, 0, none⟩ = some (.slice A0 l.length c0) := (blk_cell BA.out 0).trans rfl; clear HS; have HS := Aside0.mk o3_; have HP1 := Aside0.mk hr_; clear hb ho hr_ o1_ o2_ o3_) | (go_at_call 34; (with_reducible refine (spec_RangeOf.calls _ _ p a1 a2 ks vs b _ ?side1 ?side2 E2.out).mono ?_); (case side1 => repeat (first | exact (Kd.S_reads' HP1.out).2.2 | (with_reducible refine Kd.C_alloc ?_ _) | (with_reducible refine Kd.C_drewN ?_ _) | (with_reducible refine Kd.C_drew ?_))); (case side2 => exact (Kd.S_reads' HP1.out).2.1); rintro e w4_ ⟨v0, v1, rfl, ho0, ho1, hb⟩; obtain ⟨AHW, cHW, ev_⟩ := Kd.R_slice ho0; subst ev_; obtain ⟨AHWv, cHWv, ev_⟩ := Kd.R_slice ho1; subst ev_; obtain ⟨nHW, mHW, o1_, o2_, o3_, hr0_, hr1_⟩ := pair_iv (last := mHP1) ho0 ho1 hb (by repeat (first | (with_reducible first | exact HB.out | apply below_alloc | apply pw_below_drewN | apply below_drew1) | exact HB.out)) (show mHP1 ≤ _ from HS.out); have O_HW := Aside0.mk (And.intro o1_ o2_); have N_BA := Aside0.mk (blk_below (g := ga) (o := .cells #[.slice A0 l.length c0] 24 (0, 0)) (by (with_reducible repeat (first | refine blk_drewN ?_ _ | refine blk_drew ?_ | refine blk_alloc ?_ _)); exact BA.out) hb); have N_HP1 := Aside0.mk (Kd.S_below (by (with_reducible repeat (first | apply Kd.S_alloc | apply Kd.S_drewN | apply Kd.S_drew)); exact HP1.out) hb); have N_HB := Aside0.mk (below_step (by repeat (first | (with_reducible first | exact HB.out | apply below_alloc | apply pw_below_drewN | apply below_drew1) | exact HB.out)) hb); have N_HS := Aside0.mk (show mHP1 ≤ _ from Nat.le_trans (by exact HS.out) (Below.size hb)); clear BA HP1 HB HS; have BA := N_BA; have HP1 := N_HP1; have HB := N_HB; have HS := N_HS; clear N_BA N_HP1 N_HB N_HS; (try clear hzA); have hzA : World.cell? _ ⟨ga, 0, none⟩ = some (.slice A0 l.length c0) := (blk_cell BA.out 0).trans rfl; clear HS; have HS := Aside0.mk o3_; have HW := Aside0.mk hr0_; have HWv := Aside0.mk hr1_; clear hb ho0 ho1 hr0_ hr1_ o1_ o2_ o3_))
  clear HP1
  go_upto_region 11 with (first | (go_at_call 17; (with_reducible refine (laws_toTree.callsP k _ _ l p _ ?side1 HC0.out E1.out).mono ?_); (case side1 => exact Kd.C_below HR0.out (by repeat (first | (with_reducible first | exact HB.out | apply below_alloc | apply pw_below_drewN | apply below_drew1) | exact HB.out))); rintro e w5_ ⟨vHP, rfl, ho, hb⟩; obtain ⟨AHP, cHP, ev_⟩ := Kd.S_slice ho; subst ev_; obtain ⟨nHP, mHP, o1_, o2_, o3_, hr_⟩ := Kd.S_iv (last := mHW) ho hb (by repeat (first | (with_reducible first | exact HB.out | apply below_alloc | apply pw_below_drewN | apply below_drew1) | exact HB.out)) (show mHW ≤ _ from HS.out); have O_HP := Aside0.mk (And.intro o1_ o2_); have N_BA := Aside0.mk (blk_below (g := ga) (o := .cells #[.slice A0 l.length c0] 24 (0, 0)) (by (with_reducible repeat (first | refine blk_drewN ?_ _ | refine blk_drew ?_ | refine blk_alloc ?_ _)); exact BA.out) hb); have N_HW := Aside0.mk (Kd.R_below (by (with_reducible repeat (first | apply Kd.R_alloc | apply Kd.R_drewN | apply Kd.R_drew)); exact HW.out) hb); have N_HWv := Aside0.mk (Kd.R_below (by (with_reducible repeat (first | apply Kd.R_alloc | apply Kd.R_drewN | apply Kd.R_drew)); exact HWv.out) hb); have N_HB := Aside0.mk (below_step (by repeat (first | (with_reducible first | exact HB.out | apply below_alloc | apply pw_below_drewN | apply below_drew1) | exact HB.out)) hb); have N_HS := Aside0.mk (show mHW ≤ _ from Nat.le_trans (by exact HS.out) (Below.size hb)); clear BA HW HWv HB HS; have BA := N_BA; have HW := N_HW; have HWv := N_HWv; have HB := N_HB; have HS := N_HS; clear N_BA N_HW N_HWv N_HB N_HS; (try clear hzA); have hzA : World.cell? _ ⟨ga, 0, none⟩ = some (.slice A0 l.length c0) := (blk_cell BA.out 0).trans rfl; clear HS; have HS := Aside0.mk o3_; have HP := Aside0.mk hr_; clear hb ho hr_ o1_ o2_ o3_) | ((with_reducible refine gate_dst (N := 11) rfl ?_); refine box_event ?hg (N := 11) ?hd (cs := #[.slice none 0 0]) (t := 29) ?hr ?_; (case hd => rfl); (case hg => rfl); (case hr => first | (go_simp; done) | (go_simp; rfl)); intro gc hg w6_ hbox hb; have O_gc := Aside0.mk (show mHP ≤ gc from by rw [hg]; exact (show _ ≤ _ from HS.out)); have LW_gc := Aside0.mk (show w.heap.size ≤ gc from by rw [hg]; exact below_size (by repeat (first | (with_reducible first | exact HB.out | apply below_alloc | apply pw_below_drewN | apply below_drew1) | exact HB.out))); have N_BA := Aside0.mk (blk_below (g := ga) (o := .cells #[.slice A0 l.length c0] 24 (0, 0)) (by (with_reducible repeat (first | refine blk_drewN ?_ _ | refine blk_drew ?_ | refine blk_alloc ?_ _)); exact BA.out) hb); have N_HW := Aside0.mk (Kd.R_below (by (with_reducible repeat (first | apply Kd.R_alloc | apply Kd.R_drewN | apply Kd.R_drew)); exact HW.out) hb); have N_HWv := Aside0.mk (Kd.R_below (by (with_reducible repeat (first | apply Kd.R_alloc | apply Kd.R_drewN | apply Kd.R_drew)); exact HWv.out) hb); have N_HP := Aside0.mk (Kd.S_below (by (with_reducible repeat (first | apply Kd.S_alloc | apply Kd.S_drewN | apply Kd.S_drew)); exact HP.out) hb); have N_HB := Aside0.mk (below_step (by repeat (first | (with_reducible first | exact HB.out | apply below_alloc | apply pw_below_drewN | apply below_drew1) | exact HB.out)) hb); have N_HS := Aside0.mk (show mHP ≤ _ from Nat.le_trans (by exact HS.out) (Below.size hb)); clear BA HW HWv HP HB HS; have BA := N_BA; have HW := N_HW; have HWv := N_HWv; have HP := N_HP; have HB := N_HB; have HS := N_HS; clear N_BA N_HW N_HWv N_HP N_HB N_HS; (try clear hzA); have hzA : World.cell? _ ⟨ga, 0, none⟩ = some (.slice A0 l.length c0) := (blk_cell BA.out 0).trans rfl; clear HS; have HS := Aside0.mk (show gc + 1 ≤ _ from blk_lt hbox); have BX := Aside0.mk hbox; have hcz_ := (blk_cell hbox 0).trans rfl; have hfz_ := blk_frozen hbox 0; clear hg hbox hb))
  have N_HB := Aside0.mk (below_set (j := 0) (v := .slice AHP p.length cHP) HB.out LW_gc.out)
  have N_BA := Aside0.mk (blk_away BA.out (p := ⟨gc, 0, none⟩) (show ga ≠ gc from by have := O_ga.out; have := O_HP1.out; have := O_HW.out; have := O_HP.out; have := O_gc.out; omega) (.slice AHP p.length cHP))
  have N_HW := Aside0.mk (Kd.R_far (p := ⟨gc, 0, none⟩) HW.out (fun k_ h_ => show k_ ≠ gc from by have := O_ga.out; have := O_HP1.out; have := O_HW.out; have := O_HP.out; have := O_gc.out; have h2_ : (nHW ≤ k_ ∧ k_ < mHW) ∧ some k_ ≠ (.slice AHWv vs.length cHWv : Value).ownBlock := h_; omega) (.slice AHP p.length cHP))
  have N_HWv := Aside0.mk (Kd.R_far (p := ⟨gc, 0, none⟩) HWv.out (fun k_ h_ => show k_ ≠ gc from by have := O_ga.out; have := O_HP1.out; have := O_HW.out; have := O_HP.out; have := O_gc.out; have h2_ : (nHW ≤ k_ ∧ k_ < mHW) ∧ some k_ = (.slice AHWv vs.length cHWv : Value).ownBlock := h_; omega) (.slice AHP p.length cHP))
  have N_HP := Aside0.mk (Kd.S_far (p := ⟨gc, 0, none⟩) HP.out (fun k_ h_ => show k_ ≠ gc from by have := O_ga.out; have := O_HP1.out; have := O_HW.out; have := O_HP.out; have := O_gc.out; have h2_ : nHP ≤ k_ ∧ k_ < mHP := h_; omega) (.slice AHP p.length cHP))
  have BC := Aside0.mk (tree_box (v := .slice AHP p.length cHP) BX.out)
  have N_HS := Aside0.mk (show gc + 1 ≤ _ from blk_lt BC.out)
  generalize hWW : World.setCell _ ⟨gc, 0, none⟩ (.slice AHP p.length cHP) = wS at N_HB N_BA N_HW N_HWv N_HP BC N_HS ⊢
  clear hWW HB BA HW HWv HP BX HS hzA hcz_ hfz_
  have HB := N_HB
  have BA := N_BA
  have HW := N_HW
  have HWv := N_HWv
  have HP := N_HP
  have HS := N_HS
  clear N_HB N_BA N_HW N_HWv N_HP N_HS
  have hzA : World.cell? _ ⟨ga, 0, none⟩ = some (.slice A0 l.length c0) := (blk_cell BA.out 0).trans rfl
  have hzC : World.cell? _ ⟨gc, 0, none⟩ = some (.slice AHP p.length cHP) := (blk_cell BC.out 0).trans rfl
  go_upto_region 14 with (first | (go_at_call 35; (with_reducible refine (impl_RangeOf.calls k _ _ p a1 a2 ks vs b _ ?side1 ?side2 E3.out).mono ?_); (case side1 => repeat (first | exact (Kd.S_reads' HP.out).2.2 | (with_reducible refine Kd.C_alloc ?_ _) | (with_reducible refine Kd.C_drewN ?_ _) | (with_reducible refine Kd.C_drew ?_))); (case side2 => exact (Kd.S_reads' HP.out).2.1); rintro e w7_ ⟨v0, v1, rfl, ho0, ho1, hb⟩; obtain ⟨AHG, cHG, ev_⟩ := Kd.R_slice ho0; subst ev_; obtain ⟨AHGv, cHGv, ev_⟩ := Kd.R_slice ho1; subst ev_; obtain ⟨nHG, mHG, o1_, o2_, o3_, hr0_, hr1_⟩ := pair_iv (last := gc + 1) ho0 ho1 hb (by repeat (first | (with_reducible first | exact HB.out | apply below_alloc | apply pw_below_drewN | apply below_drew1) | exact HB.out)) (show gc + 1 ≤ _ from HS.out); have O_HG := Aside0.mk (And.intro o1_ o2_); have N_BA := Aside0.mk (blk_below (g := ga) (o := .cells #[.slice A0 l.length c0] 24 (0, 0)) (by (with_reducible repeat (first | refine blk_drewN ?_ _ | refine blk_drew ?_ | refine blk_alloc ?_ _)); exact BA.out) hb); have N_HW := Aside0.mk (Kd.R_below (by (with_reducible repeat (first | apply Kd.R_alloc | apply Kd.R_drewN | apply Kd.R_drew)); exact HW.out) hb); have N_HWv := Aside0.mk (Kd.R_below (by (with_reducible repeat (first | apply Kd.R_alloc | apply Kd.R_drewN | apply Kd.R_drew)); exact HWv.out) hb); have N_HP := Aside0.mk (Kd.S_below (by (with_reducible repeat (first | apply Kd.S_alloc | apply Kd.S_drewN | apply Kd.S_drew)); exact HP.out) hb); have N_BC := Aside0.mk (blk_below (g := gc) (o := .cells #[.slice AHP p.length cHP] 29 (0, 0)) (by (with_reducible repeat (first | refine blk_drewN ?_ _ | refine blk_drew ?_ | refine blk_alloc ?_ _)); exact BC.out) hb); have N_HB := Aside0.mk (below_step (by repeat (first | (with_reducible first | exact HB.out | apply below_alloc | apply pw_below_drewN | apply below_drew1) | exact HB.out)) hb); have N_HS := Aside0.mk (show gc + 1 ≤ _ from Nat.le_trans (by exact HS.out) (Below.size hb)); clear BA HW HWv HP BC HB HS; have BA := N_BA; have HW := N_HW; have HWv := N_HWv; have HP := N_HP; have BC := N_BC; have HB := N_HB; have HS := N_HS; clear N_BA N_HW N_HWv N_HP N_BC N_HB N_HS; (try clear hzA); have hzA : World.cell? _ ⟨ga, 0, none⟩ = some (.slice A0 l.length c0) := (blk_cell BA.out 0).trans rfl; (try clear hzC); have hzC : World.cell? _ ⟨gc, 0, none⟩ = some (.slice AHP p.length cHP) := (blk_cell BC.out 0).trans rfl; clear HS; have HS := Aside0.mk o3_; have HG := Aside0.mk hr0_; have HGv := Aside0.mk hr1_; clear hb ho0 ho1 hr0_ hr1_ o1_ o2_ o3_) | (go_at_call 26; (with_reducible refine (laws_eqStringS.calls k AHG cHG ks AHW cHW ks true _ ?side1 ?side2 ?side3 ?side4 E4.out).mono ?_); (case side1 => repeat (first | exact (Kd.R_reads' HG.out).2.2 | (with_reducible refine Kd.C_alloc ?_ _) | (with_reducible refine Kd.C_drewN ?_ _) | (with_reducible refine Kd.C_drew ?_))); (case side2 => exact (Kd.R_reads' HG.out).2.1); (case side3 => repeat (first | exact (Kd.R_reads' HW.out).2.2 | (with_reducible refine Kd.C_alloc ?_ _) | (with_reducible refine Kd.C_drewN ?_ _) | (with_reducible refine Kd.C_drew ?_))); (case side4 => exact (Kd.R_reads' HW.out).2.1); rintro e w' ⟨rfl, ⟨nd, rfl⟩⟩) | (go_at_call 26; (with_reducible refine (laws_eqStringS.calls k AHGv cHGv vs AHWv cHWv vs true _ ?side1 ?side2 ?side3 ?side4 E5.out).mono ?_); (case side1 => repeat (first | exact (Kd.R_reads' HGv.out).2.2 | (with_reducible refine Kd.C_alloc ?_ _) | (with_reducible refine Kd.C_drewN ?_ _) | (with_reducible refine Kd.C_drew ?_))); (case side2 => exact (Kd.R_reads' HGv.out).2.1); (case side3 => repeat (first | exact (Kd.R_reads' HWv.out).2.2 | (with_reducible refine Kd.C_alloc ?_ _) | (with_reducible refine Kd.C_drewN ?_ _) | (with_reducible refine Kd.C_drew ?_))); (case side4 => exact (Kd.R_reads' HWv.out).2.1); rintro e w' ⟨rfl, ⟨nd, rfl⟩⟩))
  refine start_ (n := 5) (S := fun w' => w'.cell? ⟨gc, 0, none⟩ = some (.slice AHP p.length cHP) ∧ w'.cell? ⟨ga, 0, none⟩ = some (.slice A0 l.length c0)) (ds := []) #[false, false, false, false, false] (by kernel_rfl) rfl rfl ⟨(blk_cell BC.out 0).trans rfl, (blk_cell BA.out 0).trans rfl⟩ (fun hHeld => ?_)
  refine take_ (i := 0) (N := some 66) (v := ?_) (a' := ?_) #[true, false, false, false, false] rfl rfl (by kernel_rfl) (fun _ _ _ h => h) (Or.inl ⟨by rfl, ?_⟩) hHeld ?_ ?_
  rotate_left
  · rintro w' ⟨s0, s1⟩
    go_simp
    with_reducible rfl
  rotate_left
  · simp only [Act.put, List.setIfInBounds_toArray, List.set_cons_zero, List.set_cons_succ, i64_w, i32_w]
    rfl
  refine take_ (i := 1) (N := some 67) (v := ?_) (a' := ?_) #[true, true, false, false, false] rfl rfl (by kernel_rfl) (fun _ _ _ h => h) (Or.inl ⟨by rfl, ?_⟩) hHeld ?_ ?_
  rotate_left
  · rintro w' ⟨s0, s1⟩
    go_simp
    with_reducible rfl
  rotate_left
  · simp only [Act.put, List.setIfInBounds_toArray, List.set_cons_zero, List.set_cons_succ, i64_w, i32_w]
    rfl
  refine one_ (i := 2) (N := some 68) #[true, true, true, false, false] rfl rfl (by kernel_rfl) (by decide) (fun K hK => ?_)
  refine goes_ Try.func17 (by kernel_rfl) rfl #[.agg #[.slice A0 l.length c0]] (by rfl) rfl rfl (by simp only [List.map_toArray, List.map_cons, List.map_nil]; rfl) ?_
  with_reducible refine (laws_toTree.callsP k _ _ l p _ (Kd.C_below HR0.out (by repeat (first | (with_reducible first | exact HB.out | apply below_alloc | apply pw_below_drewN | apply below_drew1) | exact HB.out))) HC0.out E1.out).mono ?_
  rintro e w8_ ⟨vHQ, rfl, ho, hb⟩
  refine ⟨_, rfl, ?_⟩
  obtain ⟨AHQ, cHQ, ev_⟩ := Kd.S_slice ho; subst ev_; obtain ⟨nHQ, mHQ, o1_, o2_, o3_, hr_⟩ := Kd.S_iv (last := mHG) ho hb (by repeat (first | (with_reducible first | exact HB.out | apply below_alloc | apply pw_below_drewN | apply below_drew1) | exact HB.out)) (show mHG ≤ _ from HS.out); have O_HQ := Aside0.mk (And.intro o1_ o2_); have N_BA := Aside0.mk (blk_below (g := ga) (o := .cells #[.slice A0 l.length c0] 24 (0, 0)) (by (with_reducible repeat (first | refine blk_drewN ?_ _ | refine blk_drew ?_ | refine blk_alloc ?_ _)); exact BA.out) hb); have N_HW := Aside0.mk (Kd.R_below (by (with_reducible repeat (first | apply Kd.R_alloc | apply Kd.R_drewN | apply Kd.R_drew)); exact HW.out) hb); have N_HWv := Aside0.mk (Kd.R_below (by (with_reducible repeat (first | apply Kd.R_alloc | apply Kd.R_drewN | apply Kd.R_drew)); exact HWv.out) hb); have N_HP := Aside0.mk (Kd.S_below (by (with_reducible repeat (first | apply Kd.S_alloc | apply Kd.S_drewN | apply Kd.S_drew)); exact HP.out) hb); have N_BC := Aside0.mk (blk_below (g := gc) (o := .cells #[.slice AHP p.length cHP] 29 (0, 0)) (by (with_reducible repeat (first | refine blk_drewN ?_ _ | refine blk_drew ?_ | refine blk_alloc ?_ _)); exact BC.out) hb); have N_HG := Aside0.mk (Kd.R_below (by (with_reducible repeat (first | apply Kd.R_alloc | apply Kd.R_drewN | apply Kd.R_drew)); exact HG.out) hb); have N_HGv := Aside0.mk (Kd.R_below (by (with_reducible repeat (first | apply Kd.R_alloc | apply Kd.R_drewN | apply Kd.R_drew)); exact HGv.out) hb); have N_HB := Aside0.mk (below_step (by repeat (first | (with_reducible first | exact HB.out | apply below_alloc | apply pw_below_drewN | apply below_drew1) | exact HB.out)) hb); have N_HS := Aside0.mk (show mHG ≤ _ from Nat.le_trans (by exact HS.out) (Below.size hb)); clear BA HW HWv HP BC HG HGv HB HS; have BA := N_BA; have HW := N_HW; have HWv := N_HWv; have HP := N_HP; have BC := N_BC; have HG := N_HG; have HGv := N_HGv; have HB := N_HB; have HS := N_HS; clear N_BA N_HW N_HWv N_HP N_BC N_HG N_HGv N_HB N_HS; (try clear hzA); have hzA : World.cell? _ ⟨ga, 0, none⟩ = some (.slice A0 l.length c0) := (blk_cell BA.out 0).trans rfl; (try clear hzC); have hzC : World.cell? _ ⟨gc, 0, none⟩ = some (.slice AHP p.length cHP) := (blk_cell BC.out 0).trans rfl; clear HS; have HS := Aside0.mk o3_; have HQ := Aside0.mk hr_; clear hb ho hr_ o1_ o2_ o3_
  refine hK.out _ _ ⟨(blk_cell BC.out 0).trans rfl, (blk_cell BA.out 0).trans rfl⟩ (fun hHeld => ?_)
  clear hK K
  refine norm_ (a' := ?_) ?_ ?_
  rotate_left
  · show Act.put _ (some 68) _ = _
    simp only [Act.put, List.setIfInBounds_toArray, List.set_cons_zero, List.set_cons_succ, i64_w, i32_w]
    rfl
  refine one_ (i := 3) (N := some 69) #[true, true, true, true, false] rfl rfl (by kernel_rfl) (by decide) (fun K hK => ?_)
  refine goes_ Try.func19 (by kernel_rfl) rfl #[.agg #[.slice AHP p.length cHP], .agg #[.slice AHQ p.length cHQ]] (by rfl) rfl rfl (by simp only [List.map_toArray, List.map_cons, List.map_nil]; rfl) ?_
  with_reducible refine (laws_eqTree.calls k _ _ p _ _ p true _ (kp110_C (Kd.S_reads' HP.out).2.2) (Kd.S_reads' HP.out).2.1 (kp110_C (Kd.S_reads' HQ.out).2.2) (Kd.S_reads' HQ.out).2.1 E6.out).mono ?_
  rintro e w9_ ⟨rfl, hb⟩
  refine ⟨_, rfl, ?_⟩
  have N_BA := Aside0.mk (blk_below (g := ga) (o := .cells #[.slice A0 l.length c0] 24 (0, 0)) (by (with_reducible repeat (first | refine blk_drewN ?_ _ | refine blk_drew ?_ | refine blk_alloc ?_ _)); exact BA.out) hb); have N_HW := Aside0.mk (Kd.R_below (by (with_reducible repeat (first | apply Kd.R_alloc | apply Kd.R_drewN | apply Kd.R_drew)); exact HW.out) hb); have N_HWv := Aside0.mk (Kd.R_below (by (with_reducible repeat (first | apply Kd.R_alloc | apply Kd.R_drewN | apply Kd.R_drew)); exact HWv.out) hb); have N_HP := Aside0.mk (Kd.S_below (by (with_reducible repeat (first | apply Kd.S_alloc | apply Kd.S_drewN | apply Kd.S_drew)); exact HP.out) hb); have N_BC := Aside0.mk (blk_below (g := gc) (o := .cells #[.slice AHP p.length cHP] 29 (0, 0)) (by (with_reducible repeat (first | refine blk_drewN ?_ _ | refine blk_drew ?_ | refine blk_alloc ?_ _)); exact BC.out) hb); have N_HG := Aside0.mk (Kd.R_below (by (with_reducible repeat (first | apply Kd.R_alloc | apply Kd.R_drewN | apply Kd.R_drew)); exact HG.out) hb); have N_HGv := Aside0.mk (Kd.R_below (by (with_reducible repeat (first | apply Kd.R_alloc | apply Kd.R_drewN | apply Kd.R_drew)); exact HGv.out) hb); have N_HB := Aside0.mk (below_step (by repeat (first | (with_reducible first | exact HB.out | apply below_alloc | apply pw_below_drewN | apply below_drew1) | exact HB.out)) hb); have N_HS := Aside0.mk (show mHQ ≤ _ from Nat.le_trans (by exact HS.out) (Below.size hb)); clear BA HW HWv HP BC HG HGv HB HS; have BA := N_BA; have HW := N_HW; have HWv := N_HWv; have HP := N_HP; have BC := N_BC; have HG := N_HG; have HGv := N_HGv; have HB := N_HB; have HS := N_HS; clear N_BA N_HW N_HWv N_HP N_BC N_HG N_HGv N_HB N_HS; (try clear hzA); have hzA : World.cell? _ ⟨ga, 0, none⟩ = some (.slice A0 l.length c0) := (blk_cell BA.out 0).trans rfl; (try clear hzC); have hzC : World.cell? _ ⟨gc, 0, none⟩ = some (.slice AHP p.length cHP) := (blk_cell BC.out 0).trans rfl
  clear hb
  refine hK.out _ _ ⟨(blk_cell BC.out 0).trans rfl, (blk_cell BA.out 0).trans rfl⟩ (fun hHeld => ?_)
  clear hK K
  refine norm_ (a' := ?_) ?_ ?_
  rotate_left
  · show Act.put _ (some 69) _ = _
    simp only [Act.put, List.setIfInBounds_toArray, List.set_cons_zero, List.set_cons_succ, i64_w, i32_w]
    rfl
  refine pure_ (i := 4) (N := some 70) (v := ?_) (a' := ?_) #[true, true, true, true, true] rfl rfl (by kernel_rfl) (fun _ _ _ h => h) (Or.inl ⟨by rfl, ?_⟩) ?_ ?_
  rotate_left
  · intro w'
    go_simp
    with_reducible rfl
  rotate_left
  · simp only [Act.put, List.setIfInBounds_toArray, List.set_cons_zero, List.set_cons_succ, i64_w, i32_w]
    rfl
  refine done_ (by kernel_rfl) ?_
  go_upto_region 32 with (first | (go_at_call 27; (with_reducible refine (laws_markTree.calls k (fun k_ => nHP ≤ k_ ∧ k_ < mHP) (.slice AHP p.length cHP) p 1 m0 z0 w _ ?side1 ?side2 E7.out).mono ?_); (case side1 => exact (by repeat (first | (with_reducible first | exact HB.out | apply below_alloc | apply pw_below_drewN | apply below_drew1) | exact HB.out))); (case side2 => exact (by (with_reducible repeat (first | apply Kd.S_alloc | apply Kd.S_drewN | apply Kd.S_drew)); exact HP.out)); rintro e w10_ ⟨rfl, hs, hb, hk⟩; have N_BA := Aside0.mk (blk_kept (by (with_reducible repeat (first | refine blk_drewN ?_ _ | refine blk_drew ?_ | refine blk_alloc ?_ _)); exact BA.out) hk (fun h_ => by have := O_ga.out; have := O_HP1.out; have := O_HW.out; have := O_HP.out; have := O_gc.out; have := O_HG.out; have := O_HQ.out; have h2_ : nHP ≤ ga ∧ ga < mHP := h_; omega)); have N_HW := Aside0.mk (Kd.R_kept (by (with_reducible repeat (first | apply Kd.R_alloc | apply Kd.R_drewN | apply Kd.R_drew)); exact HW.out) hk (fun k_ h1_ h2_ => by have := O_ga.out; have := O_HP1.out; have := O_HW.out; have := O_HP.out; have := O_gc.out; have := O_HG.out; have := O_HQ.out; have h3_ : (nHW ≤ k_ ∧ k_ < mHW) ∧ some k_ ≠ (.slice AHWv vs.length cHWv : Value).ownBlock := h1_; have h4_ : nHP ≤ k_ ∧ k_ < mHP := h2_; first | omega | exact h4_.2 h3_.2 | exact h3_.2 h4_.2)); have N_HWv := Aside0.mk (Kd.R_kept (by (with_reducible repeat (first | apply Kd.R_alloc | apply Kd.R_drewN | apply Kd.R_drew)); exact HWv.out) hk (fun k_ h1_ h2_ => by have := O_ga.out; have := O_HP1.out; have := O_HW.out; have := O_HP.out; have := O_gc.out; have := O_HG.out; have := O_HQ.out; have h3_ : (nHW ≤ k_ ∧ k_ < mHW) ∧ some k_ = (.slice AHWv vs.length cHWv : Value).ownBlock := h1_; have h4_ : nHP ≤ k_ ∧ k_ < mHP := h2_; first | omega | exact h4_.2 h3_.2 | exact h3_.2 h4_.2)); have N_HG := Aside0.mk (Kd.R_kept (by (with_reducible repeat (first | apply Kd.R_alloc | apply Kd.R_drewN | apply Kd.R_drew)); exact HG.out) hk (fun k_ h1_ h2_ => by have := O_ga.out; have := O_HP1.out; have := O_HW.out; have := O_HP.out; have := O_gc.out; have := O_HG.out; have := O_HQ.out; have h3_ : (nHG ≤ k_ ∧ k_ < mHG) ∧ some k_ ≠ (.slice AHGv vs.length cHGv : Value).ownBlock := h1_; have h4_ : nHP ≤ k_ ∧ k_ < mHP := h2_; first | omega | exact h4_.2 h3_.2 | exact h3_.2 h4_.2)); have N_HGv := Aside0.mk (Kd.R_kept (by (with_reducible repeat (first | apply Kd.R_alloc | apply Kd.R_drewN | apply Kd.R_drew)); exact HGv.out) hk (fun k_ h1_ h2_ => by have := O_ga.out; have := O_HP1.out; have := O_HW.out; have := O_HP.out; have := O_gc.out; have := O_HG.out; have := O_HQ.out; have h3_ : (nHG ≤ k_ ∧ k_ < mHG) ∧ some k_ = (.slice AHGv vs.length cHGv : Value).ownBlock := h1_; have h4_ : nHP ≤ k_ ∧ k_ < mHP := h2_; first | omega | exact h4_.2 h3_.2 | exact h3_.2 h4_.2)); have N_HS := Aside0.mk (show mHQ ≤ _ from Nat.le_trans (by exact HS.out) hk.1); have N_HB := Aside0.mk hb; clear BA HW HWv HG HGv HS HB; have BA := N_BA; have HW := N_HW; have HWv := N_HWv; have HG := N_HG; have HGv := N_HGv; have HS := N_HS; have HB := N_HB; clear N_BA N_HW N_HWv N_HG N_HGv N_HS N_HB; clear HP BC hzC; (try clear hzA); have hzA : World.cell? _ ⟨ga, 0, none⟩ = some (.slice A0 l.length c0) := (blk_cell BA.out 0).trans rfl; clear hs hb hk) | (go_at_call 26; (with_reducible refine (laws_eqStringS.calls k AHG cHG ks AHW cHW ks true _ ?side1 ?side2 ?side3 ?side4 E4.out).mono ?_); (case side1 => repeat (first | exact (Kd.R_reads' HG.out).2.2 | (with_reducible refine Kd.C_alloc ?_ _) | (with_reducible refine Kd.C_drewN ?_ _) | (with_reducible refine Kd.C_drew ?_))); (case side2 => exact (Kd.R_reads' HG.out).2.1); (case side3 => repeat (first | exact (Kd.R_reads' HW.out).2.2 | (with_reducible refine Kd.C_alloc ?_ _) | (with_reducible refine Kd.C_drewN ?_ _) | (with_reducible refine Kd.C_drew ?_))); (case side4 => exact (Kd.R_reads' HW.out).2.1); rintro e w' ⟨rfl, ⟨nd, rfl⟩⟩) | (go_at_call 26; (with_reducible refine (laws_eqStringS.calls k AHGv cHGv vs AHWv cHWv vs true _ ?side1 ?side2 ?side3 ?side4 E5.out).mono ?_); (case side1 => repeat (first | exact (Kd.R_reads' HGv.out).2.2 | (with_reducible refine Kd.C_alloc ?_ _) | (with_reducible refine Kd.C_drewN ?_ _) | (with_reducible refine Kd.C_drew ?_))); (case side2 => exact (Kd.R_reads' HGv.out).2.1); (case side3 => repeat (first | exact (Kd.R_reads' HWv.out).2.2 | (with_reducible refine Kd.C_alloc ?_ _) | (with_reducible refine Kd.C_drewN ?_ _) | (with_reducible refine Kd.C_drew ?_))); (case side4 => exact (Kd.R_reads' HWv.out).2.1); rintro e w' ⟨rfl, ⟨nd, rfl⟩⟩) | (go_at_call 28; (with_reducible refine (laws_markStringS.calls k (fun k_ => (nHG ≤ k_ ∧ k_ < mHG) ∧ some k_ ≠ (.slice AHGv vs.length cHGv : Value).ownBlock) (.slice AHG ks.length cHG) ks 1 m1 z1 w _ ?side1 ?side2 E8.out).mono ?_); (case side1 => exact (by repeat (first | (with_reducible first | exact HB.out | apply below_alloc | apply pw_below_drewN | apply below_drew1) | exact HB.out))); (case side2 => exact (by (with_reducible repeat (first | apply Kd.R_alloc | apply Kd.R_drewN | apply Kd.R_drew)); exact HG.out)); rintro e w11_ ⟨rfl, hy, hb, hk⟩; have N_BA := Aside0.mk (blk_kept (by (with_reducible repeat (first | refine blk_drewN ?_ _ | refine blk_drew ?_ | refine blk_alloc ?_ _)); exact BA.out) hk (fun h_ => by have := O_ga.out; have := O_HP1.out; have := O_HW.out; have := O_HP.out; have := O_gc.out; have := O_HG.out; have := O_HQ.out; have h2_ : (nHG ≤ ga ∧ ga < mHG) ∧ some ga ≠ (.slice AHGv vs.length cHGv : Value).ownBlock := h_; omega)); have N_HW := Aside0.mk (Kd.R_kept (by (with_reducible repeat (first | apply Kd.R_alloc | apply Kd.R_drewN | apply Kd.R_drew)); exact HW.out) hk (fun k_ h1_ h2_ => by have := O_ga.out; have := O_HP1.out; have := O_HW.out; have := O_HP.out; have := O_gc.out; have := O_HG.out; have := O_HQ.out; have h3_ : (nHW ≤ k_ ∧ k_ < mHW) ∧ some k_ ≠ (.slice AHWv vs.length cHWv : Value).ownBlock := h1_; have h4_ : (nHG ≤ k_ ∧ k_ < mHG) ∧ some k_ ≠ (.slice AHGv vs.length cHGv : Value).ownBlock := h2_; first | omega | exact h4_.2 h3_.2 | exact h3_.2 h4_.2)); have N_HWv := Aside0.mk (Kd.R_kept (by (with_reducible repeat (first | apply Kd.R_alloc | apply Kd.R_drewN | apply Kd.R_drew)); exact HWv.out) hk (fun k_ h1_ h2_ => by have := O_ga.out; have := O_HP1.out; have := O_HW.out; have := O_HP.out; have := O_gc.out; have := O_HG.out; have := O_HQ.out; have h3_ : (nHW ≤ k_ ∧ k_ < mHW) ∧ some k_ = (.slice AHWv vs.length cHWv : Value).ownBlock := h1_; have h4_ : (nHG ≤ k_ ∧ k_ < mHG) ∧ some k_ ≠ (.slice AHGv vs.length cHGv : Value).ownBlock := h2_; first | omega | exact h4_.2 h3_.2 | exact h3_.2 h4_.2)); have N_HGv := Aside0.mk (Kd.R_kept (by (with_reducible repeat (first | apply Kd.R_alloc | apply Kd.R_drewN | apply Kd.R_drew)); exact HGv.out) hk (fun k_ h1_ h2_ => by have := O_ga.out; have := O_HP1.out; have := O_HW.out; have := O_HP.out; have := O_gc.out; have := O_HG.out; have := O_HQ.out; have h3_ : (nHG ≤ k_ ∧ k_ < mHG) ∧ some k_ = (.slice AHGv vs.length cHGv : Value).ownBlock := h1_; have h4_ : (nHG ≤ k_ ∧ k_ < mHG) ∧ some k_ ≠ (.slice AHGv vs.length cHGv : Value).ownBlock := h2_; first | omega | exact h4_.2 h3_.2 | exact h3_.2 h4_.2)); have N_HS := Aside0.mk (show mHQ ≤ _ from Nat.le_trans (by exact HS.out) hk.1); have N_HG := Aside0.mk (Kd.R_mono (Kd.R_tight rfl hy) (fun k_ e_ => HG.out.1 k_ e_.symm)); have N_HB := Aside0.mk hb; clear BA HW HWv HGv HS HG HB; have BA := N_BA; have HW := N_HW; have HWv := N_HWv; have HGv := N_HGv; have HS := N_HS; have HG := N_HG; have HB := N_HB; clear N_BA N_HW N_HWv N_HGv N_HS N_HG N_HB; (try clear hzA); have hzA : World.cell? _ ⟨ga, 0, none⟩ = some (.slice A0 l.length c0) := (blk_cell BA.out 0).trans rfl; clear hb hk hy) | (go_at_call 28; (with_reducible refine (laws_markStringS.calls k (fun k_ => (nHG ≤ k_ ∧ k_ < mHG) ∧ some k_ = (.slice AHGv vs.length cHGv : Value).ownBlock) (.slice AHGv vs.length cHGv) vs m1 m2 z2 w _ ?side1 ?side2 E9.out).mono ?_); (case side1 => exact (by repeat (first | (with_reducible first | exact HB.out | apply below_alloc | apply pw_below_drewN | apply below_drew1) | exact HB.out))); (case side2 => exact (by (with_reducible repeat (first | apply Kd.R_alloc | apply Kd.R_drewN | apply Kd.R_drew)); exact HGv.out)); rintro e w12_ ⟨rfl, hy, hb, hk⟩; have N_BA := Aside0.mk (blk_kept (by (with_reducible repeat (first | refine blk_drewN ?_ _ | refine blk_drew ?_ | refine blk_alloc ?_ _)); exact BA.out) hk (fun h_ => by have := O_ga.out; have := O_HP1.out; have := O_HW.out; have := O_HP.out; have := O_gc.out; have := O_HG.out; have := O_HQ.out; have h2_ : (nHG ≤ ga ∧ ga < mHG) ∧ some ga = (.slice AHGv vs.length cHGv : Value).ownBlock := h_; omega)); have N_HW := Aside0.mk (Kd.R_kept (by (with_reducible repeat (first | apply Kd.R_alloc | apply Kd.R_drewN | apply Kd.R_drew)); exact HW.out) hk (fun k_ h1_ h2_ => by have := O_ga.out; have := O_HP1.out; have := O_HW.out; have := O_HP.out; have := O_gc.out; have := O_HG.out; have := O_HQ.out; have h3_ : (nHW ≤ k_ ∧ k_ < mHW) ∧ some k_ ≠ (.slice AHWv vs.length cHWv : Value).ownBlock := h1_; have h4_ : (nHG ≤ k_ ∧ k_ < mHG) ∧ some k_ = (.slice AHGv vs.length cHGv : Value).ownBlock := h2_; first | omega | exact h4_.2 h3_.2 | exact h3_.2 h4_.2)); have N_HWv := Aside0.mk (Kd.R_kept (by (with_reducible repeat (first | apply Kd.R_alloc | apply Kd.R_drewN | apply Kd.R_drew)); exact HWv.out) hk (fun k_ h1_ h2_ => by have := O_ga.out; have := O_HP1.out; have := O_HW.out; have := O_HP.out; have := O_gc.out; have := O_HG.out; have := O_HQ.out; have h3_ : (nHW ≤ k_ ∧ k_ < mHW) ∧ some k_ = (.slice AHWv vs.length cHWv : Value).ownBlock := h1_; have h4_ : (nHG ≤ k_ ∧ k_ < mHG) ∧ some k_ = (.slice AHGv vs.length cHGv : Value).ownBlock := h2_; first | omega | exact h4_.2 h3_.2 | exact h3_.2 h4_.2)); have N_HG := Aside0.mk (Kd.R_kept (by (with_reducible repeat (first | apply Kd.R_alloc | apply Kd.R_drewN | apply Kd.R_drew)); exact HG.out) hk (fun k_ h1_ h2_ => by have := O_ga.out; have := O_HP1.out; have := O_HW.out; have := O_HP.out; have := O_gc.out; have := O_HG.out; have := O_HQ.out; have h3_ : (nHG ≤ k_ ∧ k_ < mHG) ∧ some k_ ≠ (.slice AHGv vs.length cHGv : Value).ownBlock := h1_; have h4_ : (nHG ≤ k_ ∧ k_ < mHG) ∧ some k_ = (.slice AHGv vs.length cHGv : Value).ownBlock := h2_; first | omega | exact h4_.2 h3_.2 | exact h3_.2 h4_.2)); have N_HS := Aside0.mk (show mHQ ≤ _ from Nat.le_trans (by exact HS.out) hk.1); have N_HGv := Aside0.mk (Kd.R_mono (Kd.R_tight rfl hy) (fun k_ e_ => HGv.out.1 k_ e_.symm)); have N_HB := Aside0.mk hb; clear BA HW HWv HG HS HGv HB; have BA := N_BA; have HW := N_HW; have HWv := N_HWv; have HG := N_HG; have HS := N_HS; have HGv := N_HGv; have HB := N_HB; clear N_BA N_HW N_HWv N_HG N_HS N_HGv N_HB; (try clear hzA); have hzA : World.cell? _ ⟨ga, 0, none⟩ = some (.slice A0 l.length c0) := (blk_cell BA.out 0).trans rfl; clear hb hk hy) | (go_at_call 29; (with_reducible refine (heldStr_n k AHG cHG z1 1 m1 _ ks.length (Kd.R_reads' HG.out).1 ?side1 ?side2 E10.out).mono ?_); (case side1 => repeat (first | exact (Kd.R_reads' HG.out).2.2 | (with_reducible refine Kd.C_alloc ?_ _) | (with_reducible refine Kd.C_drewN ?_ _) | (with_reducible refine Kd.C_drew ?_))); (case side2 => have h_ := Kd.R_reads' HG.out; have h2_ := h_.1; have h3_ := h_.2.1; omega); rintro e w13_ ⟨rfl, hb⟩; have N_BA := Aside0.mk (blk_below (g := ga) (o := .cells #[.slice A0 l.length c0] 24 (0, 0)) (by (with_reducible repeat (first | refine blk_drewN ?_ _ | refine blk_drew ?_ | refine blk_alloc ?_ _)); exact BA.out) hb); have N_HW := Aside0.mk (Kd.R_below (by (with_reducible repeat (first | apply Kd.R_alloc | apply Kd.R_drewN | apply Kd.R_drew)); exact HW.out) hb); have N_HWv := Aside0.mk (Kd.R_below (by (with_reducible repeat (first | apply Kd.R_alloc | apply Kd.R_drewN | apply Kd.R_drew)); exact HWv.out) hb); have N_HG := Aside0.mk (Kd.R_below (by (with_reducible repeat (first | apply Kd.R_alloc | apply Kd.R_drewN | apply Kd.R_drew)); exact HG.out) hb); have N_HGv := Aside0.mk (Kd.R_below (by (with_reducible repeat (first | apply Kd.R_alloc | apply Kd.R_drewN | apply Kd.R_drew)); exact HGv.out) hb); have N_HB := Aside0.mk (below_step (by repeat (first | (with_reducible first | exact HB.out | apply below_alloc | apply pw_below_drewN | apply below_drew1) | exact HB.out)) hb); have N_HS := Aside0.mk (show mHQ ≤ _ from Nat.le_trans (by exact HS.out) (Below.size hb)); clear BA HW HWv HG HGv HB HS; have BA := N_BA; have HW := N_HW; have HWv := N_HWv; have HG := N_HG; have HGv := N_HGv; have HB := N_HB; have HS := N_HS; clear N_BA N_HW N_HWv N_HG N_HGv N_HB N_HS; (try clear hzA); have hzA : World.cell? _ ⟨ga, 0, none⟩ = some (.slice A0 l.length c0) := (blk_cell BA.out 0).trans rfl; clear hb) | (go_at_call 29; (with_reducible refine (heldStr_n k AHGv cHGv z2 m1 m2 _ vs.length (Kd.R_reads' HGv.out).1 ?side1 ?side2 E11.out).mono ?_); (case side1 => repeat (first | exact (Kd.R_reads' HGv.out).2.2 | (with_reducible refine Kd.C_alloc ?_ _) | (with_reducible refine Kd.C_drewN ?_ _) | (with_reducible refine Kd.C_drew ?_))); (case side2 => have h_ := Kd.R_reads' HGv.out; have h2_ := h_.1; have h3_ := h_.2.1; omega); rintro e w14_ ⟨rfl, hb⟩; have N_BA := Aside0.mk (blk_below (g := ga) (o := .cells #[.slice A0 l.length c0] 24 (0, 0)) (by (with_reducible repeat (first | refine blk_drewN ?_ _ | refine blk_drew ?_ | refine blk_alloc ?_ _)); exact BA.out) hb); have N_HW := Aside0.mk (Kd.R_below (by (with_reducible repeat (first | apply Kd.R_alloc | apply Kd.R_drewN | apply Kd.R_drew)); exact HW.out) hb); have N_HWv := Aside0.mk (Kd.R_below (by (with_reducible repeat (first | apply Kd.R_alloc | apply Kd.R_drewN | apply Kd.R_drew)); exact HWv.out) hb); have N_HG := Aside0.mk (Kd.R_below (by (with_reducible repeat (first | apply Kd.R_alloc | apply Kd.R_drewN | apply Kd.R_drew)); exact HG.out) hb); have N_HGv := Aside0.mk (Kd.R_below (by (with_reducible repeat (first | apply Kd.R_alloc | apply Kd.R_drewN | apply Kd.R_drew)); exact HGv.out) hb); have N_HB := Aside0.mk (below_step (by repeat (first | (with_reducible first | exact HB.out | apply below_alloc | apply pw_below_drewN | apply below_drew1) | exact HB.out)) hb); have N_HS := Aside0.mk (show mHQ ≤ _ from Nat.le_trans (by exact HS.out) (Below.size hb)); clear BA HW HWv HG HGv HB HS; have BA := N_BA; have HW := N_HW; have HWv := N_HWv; have HG := N_HG; have HGv := N_HGv; have HB := N_HB; have HS := N_HS; clear N_BA N_HW N_HWv N_HG N_HGv N_HB N_HS; (try clear hzA); have hzA : World.cell? _ ⟨ga, 0, none⟩ = some (.slice A0 l.length c0) := (blk_cell BA.out 0).trans rfl; clear hb))
  go_wp2_with (first | (go_at_call 17; (with_reducible refine (laws_toTree.callsP k _ _ l p _ ?side1 HC0.out E1.out).mono ?_); (case side1 => exact Kd.C_below HR0.out (by repeat (first | (with_reducible first | exact HB.out | apply below_alloc | apply pw_below_drewN | apply below_drew1) | exact HB.out))); rintro e w15_ ⟨vHT, rfl, ho, hb⟩; obtain ⟨AHT, cHT, ev_⟩ := Kd.S_slice ho; subst ev_; obtain ⟨nHT, mHT, o1_, o2_, o3_, hr_⟩ := Kd.S_iv (last := mHQ) ho hb (by repeat (first | (with_reducible first | exact HB.out | apply below_alloc | apply pw_below_drewN | apply below_drew1) | exact HB.out)) (show mHQ ≤ _ from HS.out); have O_HT := Aside0.mk (And.intro o1_ o2_); have N_BA := Aside0.mk (blk_below (g := ga) (o := .cells #[.slice A0 l.length c0] 24 (0, 0)) (by (with_reducible repeat (first | refine blk_drewN ?_ _ | refine blk_drew ?_ | refine blk_alloc ?_ _)); exact BA.out) hb); have N_HW := Aside0.mk (Kd.R_below (by (with_reducible repeat (first | apply Kd.R_alloc | apply Kd.R_drewN | apply Kd.R_drew)); exact HW.out) hb); have N_HWv := Aside0.mk (Kd.R_below (by (with_reducible repeat (first | apply Kd.R_alloc | apply Kd.R_drewN | apply Kd.R_drew)); exact HWv.out) hb); have N_HG := Aside0.mk (Kd.R_below (by (with_reducible repeat (first | apply Kd.R_alloc | apply Kd.R_drewN | apply Kd.R_drew)); exact HG.out) hb); have N_HGv := Aside0.mk (Kd.R_below (by (with_reducible repeat (first | apply Kd.R_alloc | apply Kd.R_drewN | apply Kd.R_drew)); exact HGv.out) hb); have N_HB := Aside0.mk (below_step (by repeat (first | (with_reducible first | exact HB.out | apply below_alloc | apply pw_below_drewN | apply below_drew1) | exact HB.out)) hb); have N_HS := Aside0.mk (show mHQ ≤ _ from Nat.le_trans (by exact HS.out) (Below.size hb)); clear BA HW HWv HG HGv HB HS; have BA := N_BA; have HW := N_HW; have HWv := N_HWv; have HG := N_HG; have HGv := N_HGv; have HB := N_HB; have HS := N_HS; clear N_BA N_HW N_HWv N_HG N_HGv N_HB N_HS; (try clear hzA); have hzA : World.cell? _ ⟨ga, 0, none⟩ = some (.slice A0 l.length c0) := (blk_cell BA.out 0).trans rfl; clear HS; have HS := Aside0.mk o3_; have HT := Aside0.mk hr_; clear hb ho hr_ o1_ o2_ o3_) | (go_at_call 35; (with_reducible refine (impl_RangeOf.calls k _ _ p a1 a2 ks vs b _ ?side1 ?side2 E3.out).mono ?_); (case side1 => repeat (first | exact (Kd.S_reads' HT.out).2.2 | (with_reducible refine Kd.C_alloc ?_ _) | (with_reducible refine Kd.C_drewN ?_ _) | (with_reducible refine Kd.C_drew ?_))); (case side2 => exact (Kd.S_reads' HT.out).2.1); rintro e w16_ ⟨v0, v1, rfl, ho0, ho1, hb⟩; obtain ⟨AHH, cHH, ev_⟩ := Kd.R_slice ho0; subst ev_; obtain ⟨AHHv, cHHv, ev_⟩ := Kd.R_slice ho1; subst ev_; obtain ⟨nHH, mHH, o1_, o2_, o3_, hr0_, hr1_⟩ := pair_iv (last := mHT) ho0 ho1 hb (by repeat (first | (with_reducible first | exact HB.out | apply below_alloc | apply pw_below_drewN | apply below_drew1) | exact HB.out)) (show mHT ≤ _ from HS.out); have O_HH := Aside0.mk (And.intro o1_ o2_); have N_BA := Aside0.mk (blk_below (g := ga) (o := .cells #[.slice A0 l.length c0] 24 (0, 0)) (by (with_reducible repeat (first | refine blk_drewN ?_ _ | refine blk_drew ?_ | refine blk_alloc ?_ _)); exact BA.out) hb); have N_HW := Aside0.mk (Kd.R_below (by (with_reducible repeat (first | apply Kd.R_alloc | apply Kd.R_drewN | apply Kd.R_drew)); exact HW.out) hb); have N_HWv := Aside0.mk (Kd.R_below (by (with_reducible repeat (first | apply Kd.R_alloc | apply Kd.R_drewN | apply Kd.R_drew)); exact HWv.out) hb); have N_HG := Aside0.mk (Kd.R_below (by (with_reducible repeat (first | apply Kd.R_alloc | apply Kd.R_drewN | apply Kd.R_drew)); exact HG.out) hb); have N_HGv := Aside0.mk (Kd.R_below (by (with_reducible repeat (first | apply Kd.R_alloc | apply Kd.R_drewN | apply Kd.R_drew)); exact HGv.out) hb); have N_HT := Aside0.mk (Kd.S_below (by (with_reducible repeat (first | apply Kd.S_alloc | apply Kd.S_drewN | apply Kd.S_drew)); exact HT.out) hb); have N_HB := Aside0.mk (below_step (by repeat (first | (with_reducible first | exact HB.out | apply below_alloc | apply pw_below_drewN | apply below_drew1) | exact HB.out)) hb); have N_HS := Aside0.mk (show mHT ≤ _ from Nat.le_trans (by exact HS.out) (Below.size hb)); clear BA HW HWv HG HGv HT HB HS; have BA := N_BA; have HW := N_HW; have HWv := N_HWv; have HG := N_HG; have HGv := N_HGv; have HT := N_HT; have HB := N_HB; have HS := N_HS; clear N_BA N_HW N_HWv N_HG N_HGv N_HT N_HB N_HS; (try clear hzA); have hzA : World.cell? _ ⟨ga, 0, none⟩ = some (.slice A0 l.length c0) := (blk_cell BA.out 0).trans rfl; clear HS; have HS := Aside0.mk o3_; have HH := Aside0.mk hr0_; have HHv := Aside0.mk hr1_; clear hb ho0 ho1 hr0_ hr1_ o1_ o2_ o3_) | (go_at_call 26; (with_reducible refine (laws_eqStringS.calls k AHH cHH ks AHW cHW ks true _ ?side1 ?side2 ?side3 ?side4 E4.out).mono ?_); (case side1 => repeat (first | exact (Kd.R_reads' HH.out).2.2 | (with_reducible refine Kd.C_alloc ?_ _) | (with_reducible refine Kd.C_drewN ?_ _) | (with_reducible refine Kd.C_drew ?_))); (case side2 => exact (Kd.R_reads' HH.out).2.1); (case side3 => repeat (first | exact (Kd.R_reads' HW.out).2.2 | (with_reducible refine Kd.C_alloc ?_ _) | (with_reducible refine Kd.C_drewN ?_ _) | (with_reducible refine Kd.C_drew ?_))); (case side4 => exact (Kd.R_reads' HW.out).2.1); rintro e w' ⟨rfl, ⟨nd, rfl⟩⟩) | (go_at_call 26; (with_reducible refine (laws_eqStringS.calls k AHHv cHHv vs AHWv cHWv vs true _ ?side1 ?side2 ?side3 ?side4 E5.out).mono ?_); (case side1 => repeat (first | exact (Kd.R_reads' HHv.out).2.2 | (with_reducible refine Kd.C_alloc ?_ _) | (with_reducible refine Kd.C_drewN ?_ _) | (with_reducible refine Kd.C_drew ?_))); (case side2 => exact (Kd.R_reads' HHv.out).2.1); (case side3 => repeat (first | exact (Kd.R_reads' HWv.out).2.2 | (with_reducible refine Kd.C_alloc ?_ _) | (with_reducible refine Kd.C_drewN ?_ _) | (with_reducible refine Kd.C_drew ?_))); (case side4 => exact (Kd.R_reads' HWv.out).2.1); rintro e w' ⟨rfl, ⟨nd, rfl⟩⟩) | (go_at_call 29; (with_reducible refine (heldStr_n k AHG cHG z1 1 m1 _ ks.length (Kd.R_reads' HG.out).1 ?side1 ?side2 E10.out).mono ?_); (case side1 => repeat (first | exact (Kd.R_reads' HG.out).2.2 | (with_reducible refine Kd.C_alloc ?_ _) | (with_reducible refine Kd.C_drewN ?_ _) | (with_reducible refine Kd.C_drew ?_))); (case side2 => have h_ := Kd.R_reads' HG.out; have h2_ := h_.1; have h3_ := h_.2.1; omega); rintro e w17_ ⟨rfl, hb⟩; have N_BA := Aside0.mk (blk_below (g := ga) (o := .cells #[.slice A0 l.length c0] 24 (0, 0)) (by (with_reducible repeat (first | refine blk_drewN ?_ _ | refine blk_drew ?_ | refine blk_alloc ?_ _)); exact BA.out) hb); have N_HW := Aside0.mk (Kd.R_below (by (with_reducible repeat (first | apply Kd.R_alloc | apply Kd.R_drewN | apply Kd.R_drew)); exact HW.out) hb); have N_HWv := Aside0.mk (Kd.R_below (by (with_reducible repeat (first | apply Kd.R_alloc | apply Kd.R_drewN | apply Kd.R_drew)); exact HWv.out) hb); have N_HG := Aside0.mk (Kd.R_below (by (with_reducible repeat (first | apply Kd.R_alloc | apply Kd.R_drewN | apply Kd.R_drew)); exact HG.out) hb); have N_HGv := Aside0.mk (Kd.R_below (by (with_reducible repeat (first | apply Kd.R_alloc | apply Kd.R_drewN | apply Kd.R_drew)); exact HGv.out) hb); have N_HT := Aside0.mk (Kd.S_below (by (with_reducible repeat (first | apply Kd.S_alloc | apply Kd.S_drewN | apply Kd.S_drew)); exact HT.out) hb); have N_HH := Aside0.mk (Kd.R_below (by (with_reducible repeat (first | apply Kd.R_alloc | apply Kd.R_drewN | apply Kd.R_drew)); exact HH.out) hb); have N_HHv := Aside0.mk (Kd.R_below (by (with_reducible repeat (first | apply Kd.R_alloc | apply Kd.R_drewN | apply Kd.R_drew)); exact HHv.out) hb); have N_HB := Aside0.mk (below_step (by repeat (first | (with_reducible first | exact HB.out | apply below_alloc | apply pw_below_drewN | apply below_drew1) | exact HB.out)) hb); have N_HS := Aside0.mk (show mHH ≤ _ from Nat.le_trans (by exact HS.out) (Below.size hb)); clear BA HW HWv HG HGv HT HH HHv HB HS; have BA := N_BA; have HW := N_HW; have HWv := N_HWv; have HG := N_HG; have HGv := N_HGv; have HT := N_HT; have HH := N_HH; have HHv := N_HHv; have HB := N_HB; have HS := N_HS; clear N_BA N_HW N_HWv N_HG N_HGv N_HT N_HH N_HHv N_HB N_HS; (try clear hzA); have hzA : World.cell? _ ⟨ga, 0, none⟩ = some (.slice A0 l.length c0) := (blk_cell BA.out 0).trans rfl; clear hb) | (go_at_call 29; (with_reducible refine (heldStr_n k AHGv cHGv z2 m1 m2 _ vs.length (Kd.R_reads' HGv.out).1 ?side1 ?side2 E11.out).mono ?_); (case side1 => repeat (first | exact (Kd.R_reads' HGv.out).2.2 | (with_reducible refine Kd.C_alloc ?_ _) | (with_reducible refine Kd.C_drewN ?_ _) | (with_reducible refine Kd.C_drew ?_))); (case side2 => have h_ := Kd.R_reads' HGv.out; have h2_ := h_.1; have h3_ := h_.2.1; omega); rintro e w18_ ⟨rfl, hb⟩; have N_BA := Aside0.mk (blk_below (g := ga) (o := .cells #[.slice A0 l.length c0] 24 (0, 0)) (by (with_reducible repeat (first | refine blk_drewN ?_ _ | refine blk_drew ?_ | refine blk_alloc ?_ _)); exact BA.out) hb); have N_HW := Aside0.mk (Kd.R_below (by (with_reducible repeat (first | apply Kd.R_alloc | apply Kd.R_drewN | apply Kd.R_drew)); exact HW.out) hb); have N_HWv := Aside0.mk (Kd.R_below (by (with_reducible repeat (first | apply Kd.R_alloc | apply Kd.R_drewN | apply Kd.R_drew)); exact HWv.out) hb); have N_HG := Aside0.mk (Kd.R_below (by (with_reducible repeat (first | apply Kd.R_alloc | apply Kd.R_drewN | apply Kd.R_drew)); exact HG.out) hb); have N_HGv := Aside0.mk (Kd.R_below (by (with_reducible repeat (first | apply Kd.R_alloc | apply Kd.R_drewN | apply Kd.R_drew)); exact HGv.out) hb); have N_HT := Aside0.mk (Kd.S_below (by (with_reducible repeat (first | apply Kd.S_alloc | apply Kd.S_drewN | apply Kd.S_drew)); exact HT.out) hb); have N_HH := Aside0.mk (Kd.R_below (by (with_reducible repeat (first | apply Kd.R_alloc | apply Kd.R_drewN | apply Kd.R_drew)); exact HH.out) hb); have N_HHv := Aside0.mk (Kd.R_below (by (with_reducible repeat (first | apply Kd.R_alloc | apply Kd.R_drewN | apply Kd.R_drew)); exact HHv.out) hb); have N_HB := Aside0.mk (below_step (by repeat (first | (with_reducible first | exact HB.out | apply below_alloc | apply pw_below_drewN | apply below_drew1) | exact HB.out)) hb); have N_HS := Aside0.mk (show mHH ≤ _ from Nat.le_trans (by exact HS.out) (Below.size hb)); clear BA HW HWv HG HGv HT HH HHv HB HS; have BA := N_BA; have HW := N_HW; have HWv := N_HWv; have HG := N_HG; have HGv := N_HGv; have HT := N_HT; have HH := N_HH; have HHv := N_HHv; have HB := N_HB; have HS := N_HS; clear N_BA N_HW N_HWv N_HG N_HGv N_HT N_HH N_HHv N_HB N_HS; (try clear hzA); have hzA : World.cell? _ ⟨ga, 0, none⟩ = some (.slice A0 l.length c0) := (blk_cell BA.out 0).trans rfl; clear hb))
  go_ret
  exact ⟨by first | rfl | (simp; done), (by repeat (first | (with_reducible first | exact HB.out | apply below_alloc | apply pw_below_drewN | apply below_drew1) | exact HB.out))⟩
end Go.Proofs.Ytoddejmlcnbdmaa.Fn
namespace Go.Proofs.Ytoddejmlcnbdmaa.Pure
open Go.RowKit Go.Proofs.YtoddejmlcnbdmaaW.PrintWords Go.Proofs.YtoddejmlcnbdmaaW.PrintLast Go.Proofs.YtoddejmlcnbdmaaW.PrintMore

/-- A string's bytes, as numbers. -/
def nm (s : ByteArray) : List Int := s.data.toList.map fun b => (b.toNat : Int)
theorem nm_length (s : ByteArray) : (nm s).length = s.size := by
  rw [nm, List.length_map, Array.length_toList]; rfl
theorem u8_inj {a b : UInt8} (h : (a.toNat : Int) = (b.toNat : Int)) : a = b := UInt8.toNat_inj.1 (by omega)
theorem nm_inj {s t : ByteArray} (h : nm s = nm t) : s = t := by
  have : s.data.toList = t.data.toList := List.map_inj_right (fun a b h => u8_inj h) |>.1 h
  exact WideShapes.bytes_inj this
theorem toList_iff {s t : ByteArray} : s.toList = t.toList ↔ nm s = nm t := by
  rw [Lib.toList_data, Lib.toList_data, nm, nm]
  exact ⟨fun h => by rw [h], fun h => List.map_inj_right (fun a b h => u8_inj h) |>.1 h⟩
theorem toList_nil {s : ByteArray} : s.toList = ([] : List UInt8) ↔ nm s = [] := by
  rw [Lib.toList_data, nm]
  simp
theorem nm_range {s : ByteArray} {x : Int} (h : x ∈ nm s) : 0 ≤ x ∧ x < 256 := by
  obtain ⟨b, _, rfl⟩ := List.mem_map.1 h
  have := UInt8.toNat_lt b
  omega
theorem bt_nm (s : ByteArray) (i : Int) : bt s i = rd (nm s) i := (rd_bytesOf s i).symm
theorem nm_get {s : ByteArray} {i : Nat} {x : Int} (h : (nm s)[i]? = some x) : bt s (i : Int) = x := by rw [bt_nm]; exact rd_at h
theorem nm_extract (s : ByteArray) (a b : Nat) : nm (s.extract a b) = ((nm s).drop a).take (b - a) := by
  rw [nm, ← Lib.toList_data, Lib.extract_toList, List.map_take, List.map_drop]; rfl
theorem nm_tail (s : ByteArray) (a : Nat) : nm (s.extract a s.size) = (nm s).drop a := by
  rw [nm_extract]
  exact List.take_of_length_le (by rw [List.length_drop, nm_length]; omega)
/-- Bytes of a tail. -/
theorem bt_tail (s : ByteArray) (a : Nat) (i : Nat) : bt (s.extract a s.size) (i : Int) = bt s ((a + i : Nat) : Int) := by
  rw [bt_nm, bt_nm, nm_tail]
  have e : ((a + i : Nat) : Int).toNat = a + i := by omega
  simp only [rd, List.getD_eq_getElem?_getD, e, Int.toNat_natCast, List.getElem?_drop]
theorem nm_nums (xs : List Int) (h : ∀ x ∈ xs, 0 ≤ x ∧ x < 256) : nm (strOfNums xs) = xs := by
  rw [nm, strOfNums_data, List.map_map]
  conv => rhs; rw [← List.map_id xs]
  refine List.map_congr_left fun x hx => ?_
  have := h x hx
  simp only [Function.comp, id, UInt8.toNat_ofNat']
  omega
theorem nums_nm (s : ByteArray) : strOfNums (nm s) = s := nm_inj (nm_nums _ fun _ h => nm_range h)
theorem nm_append (s t : ByteArray) : nm (s ++ t) = nm s ++ nm t := by
  simp [nm]
theorem nm_empty : nm (⟨#[]⟩ : ByteArray) = [] := rfl
theorem or64 (i : Nat) (x y : Int) (hx0 : 0 ≤ x) (hx : x % 2 ^ i = 0) (hx1 : x < 2 ^ 62) (hy0 : 0 ≤ y) (hy : y < 2 ^ i) (hy1 : y < 2 ^ 62) : Go.bits .or .i64 x y = x + y :=
  bits_join .i64 62 (by decide) (fun n h0 h1 => by rw [IntKind.wrap_i64]; omega) i x y hx0 hx hx1 hy0 hy hy1
/-- A row is marked, element by element: c is the next mark. -/
theorem mark_ev {α γ : Type} (L : Nat → List α → γ → Int → Option (γ × List α)) (cn : Nat → γ) (e : Nat → α → α) (l : List α)
    (hend : ∀ k x, x.length = l.length → L (k + 1) x (cn l.length) (l.length : Int) = some (cn l.length, x))
    (hstep : ∀ (i : Nat) (y : α), l[i]? = some y → ∃ K, ∀ k (x : List α), K ≤ k → x.length = l.length → x[i]? = some y → L (k + 1) x (cn i) (i : Int) = L k (x.set i (e i y)) (cn (i + 1)) ((i + 1 : Nat) : Int)) :
    Ev (fun k => L k l (cn 0) 0) (cn l.length, l.mapIdx e) := by
  have := ev_down l.length (fun i => Ev (fun k => L k ((l.mapIdx e).take i ++ l.drop i) (cn i) (i : Int)) (cn l.length, l.mapIdx e)) ?_ ?_
  · simpa using this
  · refine ⟨1, fun k hk => ?_⟩
    obtain ⟨m, rfl⟩ : ∃ m, k = m + 1 := ⟨k - 1, by omega⟩
    dsimp only
    rw [hend _ _ (by simp)]
    simp only [List.drop_length, List.append_nil]
    rw [List.take_of_length_le (by simp)]
  · intro i hi ih
    have hx : l[i]? = some l[i] := List.getElem?_eq_getElem hi
    have hm : i = ((l.mapIdx e).take i).length := by simp; omega
    obtain ⟨K, hK⟩ := hstep i _ hx
    refine Ev.next (K := K) (fun k hk => ?_) ih
    have hd : l.drop i = l[i] :: l.drop (i + 1) := List.drop_eq_getElem_cons hi
    have hat : ((l.mapIdx e).take i ++ l.drop i)[i]? = some l[i] := by
      rw [List.getElem?_append_right (by omega), hd]
      have h0 : i - ((l.mapIdx e).take i).length = 0 := by omega
      rw [h0]; rfl
    rw [hK k _ hk (by simp; omega) hat]
    congr 1
    rw [List.set_append_right _ _ (by omega)]
    have h1 : i - ((l.mapIdx e).take i).length = 0 := by omega
    rw [h1, hd, List.set_cons_zero, List.take_succ_eq_append_getElem (by simpa using hi)]
    simp
/-- Two rows of one length, compared element by element. -/
theorem same_ev {α : Type} [DecidableEq α] (L : Nat → Int → Option Bool) (a b : List α) (hlen : a.length = b.length) (hend : ∀ k, L (k + 1) (a.length : Int) = some true)
    (hyes : ∀ k (i : Nat) x, i < a.length → a[i]? = some x → b[i]? = some x → L (k + 1) (i : Int) = L k ((i + 1 : Nat) : Int))
    (hno : ∀ k (i : Nat) x y, i < a.length → a[i]? = some x → b[i]? = some y → x ≠ y → L (k + 1) (i : Int) = some false) : Ev (fun k => L k 0) (decide (a = b)) := by
  have key : ∀ (t u : List α) (i : Nat), a.drop i = t → b.drop i = u → i ≤ a.length → Ev (fun k => L k (i : Int)) (decide (t = u)) := by
    intro t
    induction t with
    | nil =>
      intro u i h1 h2 hi
      have h3 := drop_len h1 hi
      have h4 := drop_len h2 (by omega)
      have e : i = a.length := by simpa using h3
      have hu : u = [] := List.length_eq_zero_iff.1 (by omega)
      subst hu
      refine Ev.up ?_
      rw [e]
      exact Ev.same (K := 0) (fun k _ => hend k) (Ev.val (by simp))
    | cons x t ih =>
      intro u i h1 h2 hi
      have h3 := drop_len h1 hi
      have h4 := drop_len h2 (by omega)
      cases u with
      | nil => simp at h3 h4; omega
      | cons y u =>
        obtain ⟨p1, p2, p3⟩ := drop_cons h1
        obtain ⟨q1, q2, q3⟩ := drop_cons h2
        by_cases hxy : x = y
        · subst hxy
          have := ih u (i + 1) p3 q3 (by omega)
          have e : decide (x :: t = x :: u) = decide (t = u) := by simp
          rw [e]
          exact Ev.up (Ev.same (K := 0) (fun k _ => hyes k i x (by omega) p2 q2) this)
        · exact Ev.up (Ev.same (K := 0) (fun k _ => hno k i x y (by omega) p2 q2 hxy) (Ev.val (by simp [hxy])))
  have h := key a b 0 rfl rfl (by omega)
  exact h
end Go.Proofs.Ytoddejmlcnbdmaa.Pure
namespace Go.Proofs.Ytoddejmlcnbdmaa.Pure
open Go.RowKit Go.Proofs.Ytoddejmlcnbdmaa.Fn Go.Proofs.YtoddejmlcnbdmaaW.PrintWords Go.Proofs.YtoddejmlcnbdmaaW.PrintLast Go.Proofs.YtoddejmlcnbdmaaW.PrintMore
set_option linter.unusedSimpArgs false

theorem szStrs_ev (l : List ByteArray) (hl : l.length ≤ maxLen) (hs : ∀ y ∈ l, y.size ≤ maxLen) (a : Int) (h0 : 0 ≤ a) (h1 : a ≤ 1048576) :
    ∃ r : Int, Ev (fun k => laws_szStringS.f k l a) r ∧ r ≤ a ∧ (0 ≤ r → (l.length : Int) ≤ a ∧ ∀ y ∈ l, (y.size : Int) ≤ a) := by
  simp only [maxLen] at hl hs
  have key : ∀ (t : List ByteArray) (i : Nat) (m : Int), l.drop i = t → i ≤ l.length → 0 ≤ m → m ≤ a →
      ∃ r : Int, Ev (fun k => laws_szStringS.l0 k l m i) r ∧ r ≤ a ∧ (0 ≤ r → ∀ y ∈ t, (y.size : Int) ≤ a) := by
    intro t
    induction t with
    | nil =>
      intro i m h _ _ hm
      have := drop_nil h
      exact ⟨m, by (refine Ev.up ?_; simp only [laws_szStringS.l0, decT]); (repeat (first | with_reducible refine Ev.bindS ?_ | (with_reducible refine Ev.ifp ?_ ?_; (· exact cnd_)) | (with_reducible refine Ev.ifn ?_ ?_; (· exact cnd_)))); exact Ev.val rfl, hm, by simp⟩
    | cons x t ih =>
      intro i m h hi hm0 hm
      obtain ⟨p1, p2, p3⟩ := drop_cons h
      have hx := hs x (List.mem_of_getElem? p2)
      have e : wrap64 (m - (x.size : Int)) = m - (x.size : Int) := wrap_ok (by omega) (by omega)
      by_cases hlt : m - (x.size : Int) < 0
      · refine ⟨-1, ?_, by omega, by omega⟩
        (refine Ev.up ?_; simp only [laws_szStringS.l0, decT])
        rw [rdOf_at p2, e]
        (repeat (first | with_reducible refine Ev.bindS ?_ | (with_reducible refine Ev.ifp ?_ ?_; (· exact cnd_)) | (with_reducible refine Ev.ifn ?_ ?_; (· exact cnd_))))
        exact Ev.val rfl
      · obtain ⟨r, q1, q2, q3⟩ := ih (i + 1) (m - x.size) p3 (by omega) (by omega) (by omega)
        refine ⟨r, ?_, q2, fun hr y hy => ?_⟩
        · (refine Ev.up ?_; simp only [laws_szStringS.l0, decT])
          rw [rdOf_at p2, e, wrap_succ (by omega)]
          (repeat (first | with_reducible refine Ev.bindS ?_ | (with_reducible refine Ev.ifp ?_ ?_; (· exact cnd_)) | (with_reducible refine Ev.ifn ?_ ?_; (· exact cnd_))))
          exact q1
        · rcases List.mem_cons.1 hy with rfl | hy
          · omega
          · exact q3 hr y hy
  have e : wrap64 (a - (l.length : Int)) = a - (l.length : Int) := wrap_ok (by omega) (by omega)
  by_cases hlt : a - (l.length : Int) < 0
  · refine ⟨-1, ?_, by omega, by omega⟩
    simp only [laws_szStringS.f, e]
    (repeat (first | with_reducible refine Ev.bindS ?_ | (with_reducible refine Ev.ifp ?_ ?_; (· exact cnd_)) | (with_reducible refine Ev.ifn ?_ ?_; (· exact cnd_))))
    exact Ev.val rfl
  · obtain ⟨r, q1, q2, q3⟩ := key l 0 (a - l.length) rfl (by omega) (by omega) (by omega)
    refine ⟨r, ?_, q2, fun hr => ⟨by omega, q3 hr⟩⟩
    simp only [laws_szStringS.f, e]
    (repeat (first | with_reducible refine Ev.bindS ?_ | (with_reducible refine Ev.ifp ?_ ?_; (· exact cnd_)) | (with_reducible refine Ev.ifn ?_ ?_; (· exact cnd_))))
    exact q1
theorem toStrs_ev (l : List ByteArray) (hl : l.length ≤ 1048576) : Ev (fun k => laws_toStringS.f k l) l := by
  have h := copy_ev (fun k x3 i => laws_toStringS.l0 k l x3 i) id (⟨#[]⟩ : ByteArray) l ?_ ?_
  · rw [List.map_id] at h
    simp only [laws_toStringS.f, Int.toNat_natCast]
    (repeat (first | with_reducible refine Ev.bindS ?_ | (with_reducible refine Ev.ifp ?_ ?_; (· exact cnd_)) | (with_reducible refine Ev.ifn ?_ ?_; (· exact cnd_))))
    exact h
  · intro k x3
    simp only [laws_toStringS.l0]
    rw [if_neg (by omega)]
  · intro i x hx
    have hlt := (List.getElem?_eq_some_iff.1 hx).1
    refine ⟨0, fun k x3 _ h3 => ?_⟩
    simp only [laws_toStringS.l0]
    rw [if_pos (by omega), if_pos (by omega), rdOf_at hx, if_pos (by omega), wrap_succ (by omega), Int.toNat_natCast]
    rfl
theorem eqStrs_ev (l : List ByteArray) (hl : l.length ≤ 1048576) : Ev (fun k => laws_eqStringS.f k l l) true := by
  have h := all_ev (fun k i => laws_eqStringS.l0 k l l i) l.length true ?_ ?_
  · simp only [laws_eqStringS.f]
    (repeat (first | with_reducible refine Ev.bindS ?_ | (with_reducible refine Ev.ifp ?_ ?_; (· exact cnd_)) | (with_reducible refine Ev.ifn ?_ ?_; (· exact cnd_))))
    exact h
  · intro k
    simp only [laws_eqStringS.l0]
    rw [if_neg (by omega)]
  · intro i hi
    refine ⟨0, fun k _ => ?_⟩
    simp only [laws_eqStringS.l0]
    rw [if_pos (by omega), if_pos (by omega), if_pos (by omega), wrap_succ (by omega)]
    simp
end Go.Proofs.Ytoddejmlcnbdmaa.Pure
namespace Go.Proofs.Ytoddejmlcnbdmaa.Pure
open Go.RowKit Go.Proofs.Ytoddejmlcnbdmaa.Fn Go.Proofs.YtoddejmlcnbdmaaW.PrintWords Go.Proofs.YtoddejmlcnbdmaaW.PrintLast Go.Proofs.YtoddejmlcnbdmaaW.PrintMore

theorem toInt_loop (l : List Int) (hl : l.length ≤ 1073741824) : ∀ (t : List Int) (i : Nat) (k : Nat), l.drop i = t → i ≤ l.length → t.length < k →
    laws_toIntS.l0 k l (l.take i ++ List.replicate t.length 0) i = some l
  | [], i, k + 1, h, _, _ => by
    simp only [laws_toIntS.l0]
    rw [if_neg (drop_nil h), take_all h]
    simp
  | x :: t, i, k + 1, h, hi, hk => by
    obtain ⟨h1, h2, h3⟩ := drop_cons h
    have h4 := drop_len h hi
    simp only [List.length_cons] at h4 hk
    simp only [laws_toIntS.l0]
    rw [if_pos h1, if_pos (nat_nonneg i), if_pos (by simp only [List.length_append, List.length_take, List.length_replicate, List.length_cons]; omega), rd_at h2, wrap_succ (by omega), Int.toNat_natCast]
    simp only [List.length_cons]
    rw [take_drop_set h, ← take_next h]
    exact toInt_loop l hl t (i + 1) k h3 (by omega) (by omega)
theorem toInt_eq (l : List Int) (hl : l.length ≤ 1073741824) (k : Nat) (hk : l.length < k) : laws_toIntS.f k l = some l := by
  unfold laws_toIntS.f
  rw [if_pos (by omega), if_pos (by omega), Int.toNat_natCast]
  have := toInt_loop l hl l 0 k (by simp) (by omega) hk
  simpa using this
theorem eqInt_loop (l : List Int) (hl : l.length ≤ 1073741824) : ∀ (t : List Int) (i : Nat) (k : Nat), l.drop i = t → i ≤ l.length → t.length < k →
    laws_eqIntS.l0 k l l i = some true
  | [], i, k + 1, h, _, _ => by
    simp only [laws_eqIntS.l0]
    rw [if_neg (drop_nil h)]
  | x :: t, i, k + 1, h, hi, hk => by
    obtain ⟨h1, h2, h3⟩ := drop_cons h
    have h4 := drop_len h hi
    simp only [List.length_cons] at h4 hk
    simp only [laws_eqIntS.l0]
    rw [if_pos h1, if_pos (nat_nonneg i), if_pos h1, if_pos trivial, wrap_succ (by omega)]
    exact eqInt_loop l hl t (i + 1) k h3 (by omega) (by omega)
theorem eqInt_self (l : List Int) (hl : l.length ≤ 1073741824) (k : Nat) (hk : l.length < k) : laws_eqIntS.f k l l = some true := by
  unfold laws_eqIntS.f
  rw [if_pos rfl]
  exact eqInt_loop l hl l 0 k (by simp) (by omega) hk
end Go.Proofs.Ytoddejmlcnbdmaa.Pure
namespace Go.Proofs.Ytoddejmlcnbdmaa.Pure
open Go.RowKit Go.Proofs.Ytoddejmlcnbdmaa.Fn Go.Proofs.YtoddejmlcnbdmaaW.PrintWords Go.Proofs.YtoddejmlcnbdmaaW.PrintLast Go.Proofs.YtoddejmlcnbdmaaW.PrintMore
set_option linter.unusedSimpArgs false
set_option linter.unusedVariables false

def cvP (p : S115) : S110 := ⟨p.f0, p.f1, p.f2⟩
/-- A page's rows are no longer than a. -/
def shortP (a : Int) (p : S115) : Prop := (p.f0.length : Int) ≤ a ∧ (p.f1.length : Int) ≤ a ∧ (p.f2.length : Int) ≤ a ∧ (∀ y ∈ p.f0, (y.size : Int) ≤ a) ∧ (∀ y ∈ p.f1, (y.size : Int) ≤ a)
def wfP (p : S115) : Prop := (p.f0.length ≤ maxLen ∧ ∀ y ∈ p.f0, y.size ≤ maxLen) ∧ (p.f1.length ≤ maxLen ∧ ∀ y ∈ p.f1, y.size ≤ maxLen) ∧ p.f2.length ≤ maxLen
theorem szPage_ev (p : S115) (h : wfP p) (a : Int) (h0 : 0 ≤ a) (h1 : a ≤ 1048576) :
    ∃ r : Int, Ev (fun k => laws_szPage.f k p.f0 p.f1 p.f2 a) r ∧ r ≤ a ∧ (0 ≤ r → shortP a p) := by
  obtain ⟨r1, e1, l1, s1⟩ := szStrs_ev p.f0 h.1.1 h.1.2 a h0 h1
  simp only [laws_szPage.f]
  by_cases c1 : r1 < 0
  · exact ⟨-1, Ev.bind e1 (by (repeat (first | with_reducible refine Ev.bindS ?_ | (with_reducible refine Ev.ifp ?_ ?_; (· exact cnd_)) | (with_reducible refine Ev.ifn ?_ ?_; (· exact cnd_)))); exact Ev.val rfl), by omega, by omega⟩
  obtain ⟨r2, e2, l2, s2⟩ := szStrs_ev p.f1 h.2.1.1 h.2.1.2 r1 (by omega) (by omega)
  by_cases c2 : r2 < 0
  · exact ⟨-1, Ev.bind e1 (by (repeat (first | with_reducible refine Ev.bindS ?_ | (with_reducible refine Ev.ifp ?_ ?_; (· exact cnd_)) | (with_reducible refine Ev.ifn ?_ ?_; (· exact cnd_)))); exact Ev.bind e2 (by (repeat (first | with_reducible refine Ev.bindS ?_ | (with_reducible refine Ev.ifp ?_ ?_; (· exact cnd_)) | (with_reducible refine Ev.ifn ?_ ?_; (· exact cnd_)))); exact Ev.val rfl)), by omega, by omega⟩
  have hw : wrap64 (r2 - (p.f2.length : Int)) = r2 - (p.f2.length : Int) := wrap_ok (by have := h.2.2; simp only [maxLen] at this; omega) (by omega)
  have s1' := s1 (by omega)
  have s2' := s2 (by omega)
  by_cases c3 : r2 - (p.f2.length : Int) < 0
  · refine ⟨-1, Ev.bind e1 (by (repeat (first | with_reducible refine Ev.bindS ?_ | (with_reducible refine Ev.ifp ?_ ?_; (· exact cnd_)) | (with_reducible refine Ev.ifn ?_ ?_; (· exact cnd_)))); exact Ev.bind e2 (by (repeat (first | with_reducible refine Ev.bindS ?_ | (with_reducible refine Ev.ifp ?_ ?_; (· exact cnd_)) | (with_reducible refine Ev.ifn ?_ ?_; (· exact cnd_)))); simp only [laws_szIntS.f, hw, if_pos c3, Option.bind_some]; exact Ev.val (by simp))), by omega, by omega⟩
  · refine ⟨r2 - (p.f2.length : Int), Ev.bind e1 (by (repeat (first | with_reducible refine Ev.bindS ?_ | (with_reducible refine Ev.ifp ?_ ?_; (· exact cnd_)) | (with_reducible refine Ev.ifn ?_ ?_; (· exact cnd_)))); exact Ev.bind e2 (by (repeat (first | with_reducible refine Ev.bindS ?_ | (with_reducible refine Ev.ifp ?_ ?_; (· exact cnd_)) | (with_reducible refine Ev.ifn ?_ ?_; (· exact cnd_)))); simp only [laws_szIntS.f, hw, if_neg c3, Option.bind_some]; exact Ev.val rfl)), by omega, fun _ => ⟨s1'.1, by have := s2'.1; omega, by omega, s1'.2, fun y hy => by have := s2'.2 y hy; omega⟩⟩
theorem szTree_ev (P : List S115) (hl : P.length ≤ maxLen) (hw : ∀ p ∈ P, wfP p) :
    ∃ r : Int, Ev (fun k => laws_szTree.f k P 1048576) r ∧ (0 ≤ r → P.length ≤ 1048576 ∧ ∀ p ∈ P, shortP 1048576 p) := by
  have key : ∀ (t : List S115) (i : Nat) (m : Int), P.drop i = t → i ≤ P.length → 0 ≤ m → m ≤ 1048576 →
      ∃ r : Int, Ev (fun k => laws_szPageS.l0 k P m i) r ∧ (0 ≤ r → ∀ p ∈ t, shortP 1048576 p) := by
    intro t
    induction t with
    | nil =>
      intro i m h _ _ hm
      have := drop_nil h
      exact ⟨m, by (refine Ev.up ?_; simp only [laws_szPageS.l0, decT]); (repeat (first | with_reducible refine Ev.bindS ?_ | (with_reducible refine Ev.ifp ?_ ?_; (· exact cnd_)) | (with_reducible refine Ev.ifn ?_ ?_; (· exact cnd_)))); exact Ev.val rfl, by simp⟩
    | cons x t ih =>
      intro i m h hi hm0 hm
      obtain ⟨p1, p2, p3⟩ := drop_cons h
      obtain ⟨r1, e1, l1, s1⟩ := szPage_ev x (hw x (List.mem_of_getElem? p2)) m hm0 hm
      have hrd : rd_T115 P (i : Int) = x := rdOf_at (z := z115) p2
      simp only [maxLen] at hl
      by_cases c : r1 < 0
      · refine ⟨-1, ?_, by omega⟩
        (refine Ev.up ?_; simp only [laws_szPageS.l0, decT])
        rw [hrd]
        (repeat (first | with_reducible refine Ev.bindS ?_ | (with_reducible refine Ev.ifp ?_ ?_; (· exact cnd_)) | (with_reducible refine Ev.ifn ?_ ?_; (· exact cnd_))))
        exact Ev.bind e1 (by (repeat (first | with_reducible refine Ev.bindS ?_ | (with_reducible refine Ev.ifp ?_ ?_; (· exact cnd_)) | (with_reducible refine Ev.ifn ?_ ?_; (· exact cnd_)))); exact Ev.val rfl)
      · obtain ⟨r, q1, q2⟩ := ih (i + 1) r1 p3 (by omega) (by omega) (by omega)
        refine ⟨r, ?_, fun hr p hp => ?_⟩
        · (refine Ev.up ?_; simp only [laws_szPageS.l0, decT])
          rw [hrd, wrap_succ (by omega)]
          (repeat (first | with_reducible refine Ev.bindS ?_ | (with_reducible refine Ev.ifp ?_ ?_; (· exact cnd_)) | (with_reducible refine Ev.ifn ?_ ?_; (· exact cnd_))))
          exact Ev.bind e1 (by (repeat (first | with_reducible refine Ev.bindS ?_ | (with_reducible refine Ev.ifp ?_ ?_; (· exact cnd_)) | (with_reducible refine Ev.ifn ?_ ?_; (· exact cnd_)))); exact q1)
        · rcases List.mem_cons.1 hp with rfl | hp
          · obtain ⟨a1, a2, a3, a4, a5⟩ := s1 (by omega)
            exact ⟨by omega, by omega, by omega, fun y hy => by have := a4 y hy; omega, fun y hy => by have := a5 y hy; omega⟩
          · exact q2 hr p hp
  simp only [maxLen] at hl
  have e : wrap64 (1048576 - (P.length : Int)) = 1048576 - (P.length : Int) := wrap_ok (by omega) (by omega)
  by_cases hlt : 1048576 - (P.length : Int) < 0
  · refine ⟨-1, ?_, by omega⟩
    simp only [laws_szTree.f, laws_szPageS.f, e]
    refine Ev.bind (a := -1) ?_ ?_
    · (repeat (first | with_reducible refine Ev.bindS ?_ | (with_reducible refine Ev.ifp ?_ ?_; (· exact cnd_)) | (with_reducible refine Ev.ifn ?_ ?_; (· exact cnd_))))
      exact Ev.val rfl
    · (repeat (first | with_reducible refine Ev.bindS ?_ | (with_reducible refine Ev.ifp ?_ ?_; (· exact cnd_)) | (with_reducible refine Ev.ifn ?_ ?_; (· exact cnd_))))
      exact Ev.val rfl
  · obtain ⟨r, q1, q2⟩ := key P 0 (1048576 - P.length) rfl (by omega) (by omega) (by omega)
    by_cases c : r < 0
    · refine ⟨-1, ?_, by omega⟩
      simp only [laws_szTree.f, laws_szPageS.f, e]
      refine Ev.bind (a := r) ?_ ?_
      · (repeat (first | with_reducible refine Ev.bindS ?_ | (with_reducible refine Ev.ifp ?_ ?_; (· exact cnd_)) | (with_reducible refine Ev.ifn ?_ ?_; (· exact cnd_))))
        exact q1
      · (repeat (first | with_reducible refine Ev.bindS ?_ | (with_reducible refine Ev.ifp ?_ ?_; (· exact cnd_)) | (with_reducible refine Ev.ifn ?_ ?_; (· exact cnd_))))
        exact Ev.val rfl
    · refine ⟨r, ?_, fun hr => ⟨by omega, q2 hr⟩⟩
      simp only [laws_szTree.f, laws_szPageS.f, e]
      refine Ev.bind (a := r) ?_ ?_
      · (repeat (first | with_reducible refine Ev.bindS ?_ | (with_reducible refine Ev.ifp ?_ ?_; (· exact cnd_)) | (with_reducible refine Ev.ifn ?_ ?_; (· exact cnd_))))
        exact q1
      · (repeat (first | with_reducible refine Ev.bindS ?_ | (with_reducible refine Ev.ifp ?_ ?_; (· exact cnd_)) | (with_reducible refine Ev.ifn ?_ ?_; (· exact cnd_))))
        exact Ev.val rfl
def lenP (p : S110) : Prop := p.f0.length ≤ 1048576 ∧ p.f1.length ≤ 1048576 ∧ p.f2.length ≤ 1048576
theorem toTree_ev (P : List S115) (hl : P.length ≤ 1048576) (hw : ∀ p ∈ P, p.f0.length ≤ 1048576 ∧ p.f1.length ≤ 1048576 ∧ p.f2.length ≤ 1048576) : Ev (fun k => laws_toTree.f k P) (P.map cvP) := by
  have h := copy_ev (fun k x3 i => laws_toPageS.l0 k P x3 i) cvP z110 P ?_ ?_
  · simp only [laws_toTree.f, laws_toPageS.f, Int.toNat_natCast]
    refine Ev.bind (a := P.map cvP) ?_ ?_
    · (repeat (first | with_reducible refine Ev.bindS ?_ | (with_reducible refine Ev.ifp ?_ ?_; (· exact cnd_)) | (with_reducible refine Ev.ifn ?_ ?_; (· exact cnd_))))
      exact h
    · exact Ev.val rfl
  · intro k x3
    simp only [laws_toPageS.l0]
    rw [if_neg (by omega)]
  · intro i x hx
    have hlt := (List.getElem?_eq_some_iff.1 hx).1
    obtain ⟨w1, w2, w3⟩ := hw x (List.mem_of_getElem? hx)
    have hrd : rd_T115 P (i : Int) = x := rdOf_at (z := z115) hx
    obtain ⟨K1, g1⟩ := toStrs_ev x.f0 w1
    obtain ⟨K2, g2⟩ := toStrs_ev x.f1 w2
    refine ⟨max (max K1 K2) (x.f2.length + 1), fun k x3 hk h3 => ?_⟩
    simp only [laws_toPageS.l0]
    rw [if_pos (by omega), if_pos (by omega), hrd, wrap_succ (by omega), Int.toNat_natCast]
    have e1 := g1 k (by omega)
    have e2 := g2 k (by omega)
    have e3 := toInt_eq x.f2 (by omega) k (by omega)
    dsimp only at e1 e2
    simp only [laws_toPage.f, e1, e2, e3, Option.bind_some]
    rw [if_pos (by omega)]
    rfl
theorem eqTree_ev (P : List S110) (hl : P.length ≤ 1048576) (hw : ∀ p ∈ P, lenP p) : Ev (fun k => laws_eqTree.f k P P) true := by
  have h := all_ev (fun k i => laws_eqPageS.l0 k P P i) P.length true ?_ ?_
  · simp only [laws_eqTree.f, laws_eqPageS.f]
    refine Ev.bind (a := true) ?_ ?_
    · (repeat (first | with_reducible refine Ev.bindS ?_ | (with_reducible refine Ev.ifp ?_ ?_; (· exact cnd_)) | (with_reducible refine Ev.ifn ?_ ?_; (· exact cnd_))))
      exact h
    · (repeat (first | with_reducible refine Ev.bindS ?_ | (with_reducible refine Ev.ifp ?_ ?_; (· exact cnd_)) | (with_reducible refine Ev.ifn ?_ ?_; (· exact cnd_))))
      exact Ev.val rfl
  · intro k
    simp only [laws_eqPageS.l0]
    rw [if_neg (by omega)]
  · intro i hi
    have hx : P[i]? = some P[i] := List.getElem?_eq_getElem hi
    obtain ⟨w1, w2, w3⟩ := hw _ (List.mem_of_getElem? hx)
    have hrd : rd_T110 P (i : Int) = P[i] := rdOf_at (z := z110) hx
    generalize P[i] = x at *
    obtain ⟨K1, g1⟩ := eqStrs_ev x.f0 w1
    obtain ⟨K2, g2⟩ := eqStrs_ev x.f1 w2
    refine ⟨max (max K1 K2) (x.f2.length + 1), fun k hk => ?_⟩
    simp only [laws_eqPageS.l0]
    rw [if_pos (by omega), if_pos (by omega), if_pos (by omega), hrd, wrap_succ (by omega)]
    have e1 := g1 k (by omega)
    have e2 := g2 k (by omega)
    have e3 := eqInt_self x.f2 (by omega) k (by omega)
    dsimp only at e1 e2
    simp only [laws_eqPage.f, e1, e2, e3, Option.bind_some]
    rfl
end Go.Proofs.Ytoddejmlcnbdmaa.Pure
namespace Go.Proofs.Ytoddejmlcnbdmaa.Pure
open Go.RowKit Go.Proofs.Ytoddejmlcnbdmaa.Fn Go.Proofs.YtoddejmlcnbdmaaW.PrintWords Go.Proofs.YtoddejmlcnbdmaaW.PrintLast Go.Proofs.YtoddejmlcnbdmaaW.PrintMore Go.Proofs.Ytoddejmlcnbdmaa.Tree
set_option linter.unusedSimpArgs false
set_option linter.unusedVariables false

theorem within_eq (a b c : Int) : impl_within.f a b c = some (decide (b ≤ a ∧ a ≤ c)) := by
  unfold impl_within.f
  by_cases h : b ≤ a
  · rw [if_pos h]; simp [h]
  · rw [if_neg h]; simp [h]
def keyOk (s : ByteArray) : Bool := decide (1 ≤ s.size ∧ s.size ≤ 12)
def valOk (s : ByteArray) : Bool := decide (s.size ≤ 12)
theorem isKey_eq (s : ByteArray) : impl_isKey.f s = some (keyOk s) := by
  simp only [impl_isKey.f, within_eq, Option.bind_some, keyOk, Option.some.injEq, decide_eq_decide]
  omega
theorem isVal_eq (s : ByteArray) : impl_isVal.f s = some (valOk s) := by
  simp only [impl_isVal.f, valOk, Option.some.injEq, decide_eq_decide]
  omega
theorem text_eq (s : ByteArray) : spec_l5Text.f s = some (valOk s) := isVal_eq s
theorem size_nil (s : ByteArray) : (s.toList != ([] : List UInt8)) = decide (1 ≤ s.size) := by
  rw [Bool.eq_iff_iff]
  simp only [bne_iff_ne, ne_eq, toList_nil, decide_eq_true_eq]
  rw [← nm_length]
  cases h : nm s with
  | nil => simp
  | cons x t => simp
theorem pair_eq (a b : ByteArray) : spec_l5Pair.f a b = some (keyOk a && valOk b) := by
  simp only [spec_l5Pair.f, text_eq, Option.bind_some, size_nil]
  cases ha : valOk a with
  | false =>
    have : keyOk a = false := by
      simp only [valOk, decide_eq_false_iff_not] at ha
      simp only [keyOk, decide_eq_false_iff_not]
      omega
    simp [this]
  | true =>
    have : keyOk a = decide (1 ≤ a.size) := by
      simp only [valOk, decide_eq_true_eq] at ha
      simp only [keyOk, decide_eq_decide]
      omega
    cases hb : valOk b <;> simp [this]
theorem pairS_eq (a b : ByteArray) : pairS a b = (keyOk a && valOk b) := by
  have := (pairS_f a b).symm.trans (pair_eq a b)
  exact Option.some.inj this
/-- Rising keys, the one ahead being prev. -/
def riseP : List ByteArray → Option ByteArray → Bool
  | [], _ => true
  | k :: ks, prev => keyOk k && (prevOk prev k && riseP ks (some k))
theorem chk_split : ∀ (ks vs : List ByteArray) (prev : Option ByteArray), ks.length = vs.length → chkS ks vs prev = (riseP ks prev && vs.all valOk)
  | [], [], _, _ => rfl
  | [], v :: vs, _, h => by simp at h
  | k :: ks, [], _, h => by simp at h
  | k :: ks, v :: vs, prev, h => by
    have := chk_split ks vs (some k) (by simpa using h)
    rw [chkS, List.headD_cons, List.drop_succ_cons, List.drop_zero, this, pairS_eq, riseP, List.all_cons]
    cases keyOk k <;> cases valOk v <;> cases prevOk prev k <;> simp
theorem rising_ev (K : List ByteArray) (hK : K.length ≤ 1048576000) : Ev (fun k => impl_areRising.f k K) (riseP K none) := by
  have key : ∀ (t : List ByteArray) (i : Nat), K.drop i = t → i ≤ K.length → Ev (fun k => impl_areRising.l0 k K K K.length i) (riseP t (prevAt K i)) := by
    intro t
    induction t with
    | nil =>
      intro i h hi
      have := drop_nil h
      (refine Ev.up ?_; simp only [impl_areRising.l0, decT])
      (repeat (first | with_reducible refine Ev.bindS ?_ | (with_reducible refine Ev.ifp ?_ ?_; (· exact cnd_)) | (with_reducible refine Ev.ifn ?_ ?_; (· exact cnd_))))
      exact Ev.val rfl
    | cons x t ih =>
      intro i h hi
      obtain ⟨p1, p2, p3⟩ := drop_cons h
      have ih := ih (i + 1) p3 (by omega)
      have hn : prevAt K (i + 1) = some x := p2
      rw [hn] at ih
      (refine Ev.up ?_; simp only [impl_areRising.l0, decT])
      rw [rdOf_at p2, wrap_succ (by omega), isKey_eq]
      simp only [riseP]
      cases hp : keyOk x with
      | false =>
        (repeat (first | with_reducible refine Ev.bindS ?_ | (with_reducible refine Ev.ifp ?_ ?_; (· exact cnd_)) | (with_reducible refine Ev.ifn ?_ ?_; (· exact cnd_))))
        exact Ev.val (by simp)
      | true =>
        rw [Bool.true_and]
        (repeat (first | with_reducible refine Ev.bindS ?_ | (with_reducible refine Ev.ifp ?_ ?_; (· exact cnd_)) | (with_reducible refine Ev.ifn ?_ ?_; (· exact cnd_))))
        rcases Nat.eq_zero_or_pos i with h0 | h0
        · subst h0
          simp only [prevAt, prevOk, Bool.true_and]
          (repeat (first | with_reducible refine Ev.bindS ?_ | (with_reducible refine Ev.ifp ?_ ?_; (· exact cnd_)) | (with_reducible refine Ev.ifn ?_ ?_; (· exact cnd_))))
          exact ih
        · obtain ⟨j, rfl⟩ : ∃ j, i = j + 1 := ⟨i - 1, by omega⟩
          have e : wrap64 (((j + 1 : Nat) : Int) - 1) = (j : Int) := by rw [wrap_ok (by omega) (by omega)]; omega
          have hj : j < K.length := by omega
          have hj2 : K[j]? = some K[j] := List.getElem?_eq_getElem hj
          simp only [prevAt, hj2, prevOk]
          rw [e, rdOf_at hj2]
          (repeat (first | with_reducible refine Ev.bindS ?_ | (with_reducible refine Ev.ifp ?_ ?_; (· exact cnd_)) | (with_reducible refine Ev.ifn ?_ ?_; (· exact cnd_))))
          cases hb : ltB K[j] x with
          | true =>
            have hb' : Op.bytesLess K[j].toList x.toList = true := hb
            rw [Bool.true_and]
            (repeat (first | with_reducible refine Ev.bindS ?_ | (with_reducible refine Ev.ifp ?_ ?_; (· exact cnd_)) | (with_reducible refine Ev.ifn ?_ ?_; (· exact cnd_))))
            exact ih
          | false =>
            have hb' : ¬ Op.bytesLess K[j].toList x.toList = true := by
              have : Op.bytesLess K[j].toList x.toList = false := hb
              rw [this]; simp
            (repeat (first | with_reducible refine Ev.bindS ?_ | (with_reducible refine Ev.ifp ?_ ?_; (· exact cnd_)) | (with_reducible refine Ev.ifn ?_ ?_; (· exact cnd_))))
            exact Ev.val (by simp)
  exact key K 0 rfl (by omega)
theorem find_ev (l : List ByteArray) (hl : l.length ≤ 1048576000) : Ev (fun k => slices_ContainsFunc_at117.f k l) (!(l.all valOk)) := by
  have key : ∀ (t : List ByteArray) (i : Nat), l.drop i = t → i ≤ l.length → ∃ r : Int, Ev (fun k => slices_IndexFunc_at117.l0 k l l.length i) r ∧ decide (r ≥ 0) = !(t.all valOk) := by
    intro t
    induction t with
    | nil =>
      intro i h hi
      have := drop_nil h
      refine ⟨-1, ?_, by simp⟩
      (refine Ev.up ?_; simp only [slices_IndexFunc_at117.l0, decT])
      (repeat (first | with_reducible refine Ev.bindS ?_ | (with_reducible refine Ev.ifp ?_ ?_; (· exact cnd_)) | (with_reducible refine Ev.ifn ?_ ?_; (· exact cnd_))))
      exact Ev.val rfl
    | cons x t ih =>
      intro i h hi
      obtain ⟨p1, p2, p3⟩ := drop_cons h
      obtain ⟨r, ih, hr⟩ := ih (i + 1) p3 (by omega)
      cases hx : valOk x with
      | true =>
        refine ⟨r, ?_, by rw [List.all_cons, hx, hr]; simp⟩
        (refine Ev.up ?_; simp only [slices_IndexFunc_at117.l0, decT])
        simp only [rdOf_at p2, wrap_succ (i := i) (by omega), impl_arePairs_1.f, isVal_eq, hx, Option.bind_some]
        (repeat (first | with_reducible refine Ev.bindS ?_ | (with_reducible refine Ev.ifp ?_ ?_; (· exact cnd_)) | (with_reducible refine Ev.ifn ?_ ?_; (· exact cnd_))))
        exact ih
      | false =>
        refine ⟨i, ?_, by rw [List.all_cons, hx]; simp⟩
        (refine Ev.up ?_; simp only [slices_IndexFunc_at117.l0, decT])
        simp only [rdOf_at p2, wrap_succ (i := i) (by omega), impl_arePairs_1.f, isVal_eq, hx, Option.bind_some]
        (repeat (first | with_reducible refine Ev.bindS ?_ | (with_reducible refine Ev.ifp ?_ ?_; (· exact cnd_)) | (with_reducible refine Ev.ifn ?_ ?_; (· exact cnd_))))
        exact Ev.val rfl
  obtain ⟨r, h1, h2⟩ := key l 0 rfl (by omega)
  simp only [slices_ContainsFunc_at117.f]
  refine Ev.bind (g := fun k => slices_IndexFunc_at117.f k l) h1 ?_
  exact Ev.val h2
def pairsOk (K V : List ByteArray) : Bool := decide (K.length ≤ 40) && (decide (V.length = K.length) && (riseP K none && V.all valOk))
theorem arePairs_ev (K V : List ByteArray) (hK : K.length ≤ 1048576000) (hV : V.length ≤ 1048576000) : Ev (fun k => impl_arePairs.f k K V) (pairsOk K V) := by
  simp only [impl_arePairs.f, pairsOk]
  by_cases h : K.length ≤ 40
  · rw [decide_eq_true h, Bool.true_and]
    (repeat (first | with_reducible refine Ev.bindS ?_ | (with_reducible refine Ev.ifp ?_ ?_; (· exact cnd_)) | (with_reducible refine Ev.ifn ?_ ?_; (· exact cnd_))))
    by_cases h2 : V.length = K.length
    · rw [decide_eq_true h2, Bool.true_and]
      (repeat (first | with_reducible refine Ev.bindS ?_ | (with_reducible refine Ev.ifp ?_ ?_; (· exact cnd_)) | (with_reducible refine Ev.ifn ?_ ?_; (· exact cnd_))))
      refine Ev.bind (rising_ev K hK) ?_
      cases riseP K none with
      | false => (repeat (first | with_reducible refine Ev.bindS ?_ | (with_reducible refine Ev.ifp ?_ ?_; (· exact cnd_)) | (with_reducible refine Ev.ifn ?_ ?_; (· exact cnd_)))); exact Ev.val (by simp)
      | true =>
        (repeat (first | with_reducible refine Ev.bindS ?_ | (with_reducible refine Ev.ifp ?_ ?_; (· exact cnd_)) | (with_reducible refine Ev.ifn ?_ ?_; (· exact cnd_))))
        refine Ev.bind (find_ev V hV) ?_
        exact Ev.val (by simp)
    · rw [decide_eq_false h2]
      (repeat (first | with_reducible refine Ev.bindS ?_ | (with_reducible refine Ev.ifp ?_ ?_; (· exact cnd_)) | (with_reducible refine Ev.ifn ?_ ?_; (· exact cnd_))))
      exact Ev.val (by simp)
  · rw [decide_eq_false h]
    (repeat (first | with_reducible refine Ev.bindS ?_ | (with_reducible refine Ev.ifp ?_ ?_; (· exact cnd_)) | (with_reducible refine Ev.ifn ?_ ?_; (· exact cnd_))))
    exact Ev.val (by simp)
theorem pairs_chk (K V : List ByteArray) (h : V.length = K.length) : pairsOk K V = (decide (K.length ≤ 40) && chkS K V none) := by
  rw [pairsOk, chk_split K V none h.symm, decide_eq_true h, Bool.true_and]
end Go.Proofs.Ytoddejmlcnbdmaa.Pure
namespace Go.Proofs.Ytoddejmlcnbdmaa.Pure
open Go.RowKit Go.Proofs.Ytoddejmlcnbdmaa.Fn Go.Proofs.YtoddejmlcnbdmaaW.PrintWords Go.Proofs.YtoddejmlcnbdmaaW.PrintLast Go.Proofs.YtoddejmlcnbdmaaW.PrintMore Go.Proofs.Ytoddejmlcnbdmaa.Tree
set_option linter.unusedSimpArgs false
set_option linter.unusedVariables false

/-- All leaves h deep, and each kid with two keys at least. -/
def Lev : Nat → PT → Prop
  | 0, _ => False
  | h + 1, t => (t.kids = [] ∧ h = 0) ∨ (t.kids ≠ [] ∧ ∀ s ∈ t.kids, Lev h s ∧ 2 ≤ s.keys.length)
theorem lev_pos {h : Nat} {t : PT} (hl : Lev h t) : 1 ≤ h := by
  cases h with
  | zero => exact hl.elim
  | succ h => omega
theorem lev_uniq : ∀ {h g : Nat} {t : PT}, Lev h t → Lev g t → h = g
  | 0, _, t, a, _ => a.elim
  | h + 1, 0, t, _, b => b.elim
  | h + 1, g + 1, t, a, b => by
    rcases a with ⟨a1, a2⟩ | ⟨a1, a2⟩ <;> rcases b with ⟨b1, b2⟩ | ⟨b1, b2⟩
    · omega
    · exact absurd a1 b1
    · exact absurd b1 a1
    · cases hk : t.kids with
      | nil => exact absurd hk a1
      | cons c cs =>
        have := lev_uniq (a2 c (by rw [hk]; exact List.mem_cons_self)).1 (b2 c (by rw [hk]; exact List.mem_cons_self)).1
        omega
theorem lev_big : ∀ {h : Nat} {t : PT}, Lev h t → h ≤ t.big
  | 0, t, a => a.elim
  | h + 1, t, a => by
    rcases a with ⟨a1, a2⟩ | ⟨a1, a2⟩
    · have := t.big_pos
      omega
    · cases hk : t.kids with
      | nil => exact absurd hk a1
      | cons c cs =>
        have h0 : t.kids[0]? = some c := by rw [hk]; rfl
        have := lev_big (a2 c (by rw [hk]; exact List.mem_cons_self)).1
        have := PT.big_kid h0
        omega
/-- even tells the level, or -1 where there is none. -/
theorem even_lev : ∀ (n : Nat) (t : PT), t.big ≤ n → t.big ≤ 1000000000000 → (∃ h, Lev h t ∧ evenS t = (h : Int)) ∨ ((∀ h, ¬ Lev h t) ∧ evenS t = -1)
  | 0, t, hn, _ => absurd t.big_pos (by omega)
  | n + 1, t, hn, hb => by
    cases hk : t.kids with
    | nil =>
      exact .inl ⟨1, .inl ⟨hk, rfl⟩, evenS_leaf (by rw [hk]; rfl)⟩
    | cons c cs =>
      have h0 : t.kids[0]? = some c := by rw [hk]; rfl
      have he := evenS_node h0
      have hc := PT.big_kid h0
      have kid : ∀ s ∈ t.kids, (∃ h, Lev h s ∧ evenS s = (h : Int)) ∨ ((∀ h, ¬ Lev h s) ∧ evenS s = -1) := fun s hs => by
        obtain ⟨i, hi⟩ := List.getElem?_of_mem hs
        have := PT.big_kid hi
        exact even_lev n s (by omega) (by omega)
      have hall : ∀ (l : List PT) (d : Int), evenL d l = true ↔ ∀ s ∈ l, ¬ d < 0 ∧ evenS s = d ∧ ¬ s.keys.length < 2 := by
        intro l d
        induction l with
        | nil => simp [evenL]
        | cons a l ih =>
          rw [evenL, Bool.and_eq_true, ih]
          simp [and_assoc]
      rw [List.drop_zero] at he
      have hcm : c ∈ t.kids := by rw [hk]; exact List.mem_cons_self
      rcases kid c hcm with ⟨h, hl, hev⟩ | ⟨hno, hev⟩
      · by_cases hL : evenL (evenS c) t.kids = true
        · rw [if_pos hL] at he
          refine .inl ⟨h + 1, .inr ⟨by rw [hk]; simp, fun s hs => ?_⟩, ?_⟩
          · obtain ⟨a1, a2, a3⟩ := (hall _ _).1 hL s hs
            rcases kid s hs with ⟨g, gl, gev⟩ | ⟨_, gev⟩
            · have : g = h := by omega
              subst this
              exact ⟨gl, by omega⟩
            · omega
          · have := lev_big hl
            rw [he, hev, wrap_ok (by omega) (by omega)]
            omega
        · rw [if_neg hL] at he
          refine .inr ⟨fun g hg => hL ((hall _ _).2 fun s hs => ?_), he⟩
          cases g with
          | zero => exact hg.elim
          | succ g =>
            rcases hg with ⟨hg, _⟩ | ⟨_, hg⟩
            · rw [hk] at hg; cases hg
            · have hgc := lev_uniq (hg c hcm).1 hl
              subst hgc
              obtain ⟨s1, s2⟩ := hg s hs
              have s3 := lev_pos s1
              rcases kid s hs with ⟨f, fl, fev⟩ | ⟨fno, _⟩
              · have := lev_uniq fl s1
                exact ⟨by omega, by omega, by omega⟩
              · exact absurd s1 (fno g)
      · refine .inr ⟨fun g hg => ?_, ?_⟩
        · cases g with
          | zero => exact hg.elim
          | succ g =>
            rcases hg with ⟨hg, _⟩ | ⟨_, hg⟩
            · rw [hk] at hg; cases hg
            · exact hno g (hg c hcm).1
        · rw [he, if_neg]
          rw [hall]
          intro h
          have := (h c hcm).1
          omega
def rootOk (t : PT) : Bool := t.kids.isEmpty || decide (0 < t.keys.length)
theorem depth_lev : ∀ (n : Nat) (t : PT), t.big ≤ n → t.big ≤ 1000000000000 → (∃ h, Lev h t ∧ depthP t = ((h : Int), rootOk t)) ∨ ((∀ h, ¬ Lev h t) ∧ depthP t = (0, false))
  | 0, t, hn, _ => absurd t.big_pos (by omega)
  | n + 1, t, hn, hb => by
    cases hk : t.kids with
    | nil =>
      refine .inl ⟨1, .inl ⟨hk, rfl⟩, ?_⟩
      rw [depthP_leaf (by rw [hk]; rfl), rootOk, hk]
      rfl
    | cons c cs =>
      have kid : ∀ s ∈ t.kids, (∃ h, Lev h s ∧ depthP s = ((h : Int), rootOk s)) ∨ ((∀ h, ¬ Lev h s) ∧ depthP s = (0, false)) := fun s hs => by
        obtain ⟨i, hi⟩ := List.getElem?_of_mem hs
        have := PT.big_kid hi
        exact depth_lev n s (by omega) (by omega)
      have hne : t.kids.length ≠ 0 := by rw [hk]; simp
      have he := depthP_node hne
      rw [List.drop_zero] at he
      -- the loop, from a kid on: all of level h, or none
      have loop : ∀ (l : List PT), (∀ s ∈ l, s ∈ t.kids) → ∀ (i : Nat) (f : Int), (∃ h : Nat, (∀ s ∈ l, Lev h s ∧ 2 ≤ s.keys.length) ∧ (0 < i → f = (h : Int)) ∧ depthL i f l = some (if l = [] then f else (h : Int))) ∨
          ((∀ h : Nat, (0 < i → f = (h : Int)) → ¬ ∀ s ∈ l, Lev h s ∧ 2 ≤ s.keys.length) ∧ (l ≠ [] → depthL i f l = none)) := by
        intro l
        induction l with
        | nil =>
          intro _ i f
          by_cases hi : 0 < i → ∃ h : Nat, f = (h : Int)
          · rcases Nat.eq_zero_or_pos i with h0 | h0
            · exact .inl ⟨0, by simp, by omega, by rw [if_pos rfl, depthL]⟩
            · obtain ⟨h, hf⟩ := hi h0
              exact .inl ⟨h, by simp, fun _ => hf, by rw [if_pos rfl, depthL]⟩
          · refine .inr ⟨fun h hf _ => hi fun hi => ⟨h, hf hi⟩, fun h => absurd rfl h⟩
        | cons a l ih =>
          intro hsub i f
          have ha := hsub a List.mem_cons_self
          have hsub' : ∀ s ∈ l, s ∈ t.kids := fun s hs => hsub s (List.mem_cons_of_mem _ hs)
          rcases kid a ha with ⟨h, hl, hd⟩ | ⟨hno, hd⟩
          · by_cases h2 : a.keys.length < 2
            · refine .inr ⟨fun g _ hg => ?_, fun _ => ?_⟩
              · have := (hg a List.mem_cons_self).2
                omega
              · rw [depthL, if_pos]
                simp [h2]
            · have hro : rootOk a = true := by rw [rootOk, decide_eq_true (by omega), Bool.or_true]
              by_cases h3 : 0 < i ∧ (h : Int) ≠ f
              · refine .inr ⟨fun g hf hg => ?_, fun _ => ?_⟩
                · have := lev_uniq hl (hg a List.mem_cons_self).1
                  have := hf h3.1
                  omega
                · rw [depthL, if_pos]
                  simp [hd, h3.1, h3.2]
              · have hstep : depthL i f (a :: l) = depthL (i + 1) (h : Int) l := by
                  rw [depthL, if_neg, hd]
                  rcases Nat.eq_zero_or_pos i with h0 | h0
                  · simp [hd, hro, h2, h0]
                  · have : (h : Int) = f := by
                      rcases Decidable.em ((h : Int) = f) with h4 | h4
                      · exact h4
                      · exact absurd ⟨h0, h4⟩ h3
                    simp [hd, hro, h2, this]
                rcases ih hsub' (i + 1) (h : Int) with ⟨g, g1, g2, g3⟩ | ⟨g1, g2⟩
                · have hgh : h = g := by have := g2 (by omega); omega
                  subst hgh
                  refine .inl ⟨h, fun s hs => ?_, fun hi => ?_, ?_⟩
                  · rcases List.mem_cons.1 hs with rfl | hs
                    · exact ⟨hl, by omega⟩
                    · exact g1 s hs
                  · rcases Decidable.em ((h : Int) = f) with h4 | h4
                    · exact h4.symm
                    · exact absurd ⟨hi, h4⟩ h3
                  · rw [hstep, g3]
                    simp
                · by_cases hl0 : l = []
                  · subst hl0
                    exact absurd (by simp) (g1 h (fun _ => rfl))
                  · refine .inr ⟨fun g hf hg => ?_, fun _ => by rw [hstep]; exact g2 hl0⟩
                    have hgh := lev_uniq hl (hg a List.mem_cons_self).1
                    subst hgh
                    exact g1 h (fun _ => rfl) fun s hs => hg s (List.mem_cons_of_mem _ hs)
          · refine .inr ⟨fun g _ hg => hno g (hg a List.mem_cons_self).1, fun _ => ?_⟩
            rw [depthL, if_pos]
            simp [hd]
      rcases loop t.kids (fun s hs => hs) 0 0 with ⟨h, h1, _, h3⟩ | ⟨h1, h2⟩
      · rw [if_neg (by rw [hk]; simp)] at h3
        refine .inl ⟨h + 1, .inr ⟨by rw [hk]; simp, h1⟩, ?_⟩
        have hc : c ∈ t.kids := by rw [hk]; exact List.mem_cons_self
        have hcb := lev_big (h1 c hc).1
        obtain ⟨i, hi⟩ := List.getElem?_of_mem hc
        have := PT.big_kid hi
        rw [he, h3, depthR, rootOk, hk, wrap_ok (by omega) (by omega)]
        simp
      · refine .inr ⟨fun g hg => ?_, by rw [he, h2 (by rw [hk]; simp)]; rfl⟩
        cases g with
        | zero => exact hg.elim
        | succ g =>
          rcases hg with ⟨hg, _⟩ | ⟨_, hg⟩
          · rw [hk] at hg; cases hg
          · exact h1 g (fun h => by omega) hg
end Go.Proofs.Ytoddejmlcnbdmaa.Pure
namespace Go.Proofs.Ytoddejmlcnbdmaa.Pure
open Go.RowKit Go.Proofs.Ytoddejmlcnbdmaa.Fn Go.Proofs.YtoddejmlcnbdmaaW.PrintWords Go.Proofs.YtoddejmlcnbdmaaW.PrintLast Go.Proofs.YtoddejmlcnbdmaaW.PrintMore Go.Proofs.Ytoddejmlcnbdmaa.Tree
set_option linter.unusedSimpArgs false
set_option linter.unusedVariables false

theorem weave_sum {α : Type} : ∀ (cs : List (List α)) (ks : List α), cs.length = ks.length + 1 → (weave cs ks).length + 1 = (cs.map fun c => c.length + 1).sum
  | [], ks, h => by simp at h
  | [c], [], _ => by simp [weave]
  | c :: d :: cs, [], h => by simp at h
  | c :: cs, k :: ks, h => by
    have := weave_sum cs ks (by simpa using h)
    simp only [weave, List.length_append, List.length_cons, List.map_cons, List.sum_cons]
    omega
theorem sum_ge {α : Type} (f : α → Nat) (m : Nat) : ∀ l : List α, (∀ x ∈ l, m ≤ f x) → l.length * m ≤ (l.map f).sum
  | [], _ => by simp
  | x :: l, h => by
    have := sum_ge f m l fun y hy => h y (List.mem_cons_of_mem _ hy)
    have := h x List.mem_cons_self
    simp only [List.length_cons, List.map_cons, List.sum_cons, Nat.succ_mul]
    omega
/-- A tree of h levels has many keys (Bayer and McCreight). -/
theorem cnt_lev : ∀ (h : Nat) (t : PT), Shp t → Lev (h + 1) t → (t.keys.length + 1) * 3 ^ h ≤ (allK t).length + 1
  | h, t, hs, hl => by
    have h1 := hs.one
    unfold Shp1 at h1
    rcases hl with ⟨a1, a2⟩ | ⟨a1, a2⟩
    · subst a2
      rw [allK_eq, a1]
      simp [weave]
    · have hkl : t.kids.length = t.keys.length + 1 := h1.2.2.resolve_left (by
        intro h0
        exact a1 (List.length_eq_zero_iff.1 h0))
      cases h with
      | zero =>
        cases hk : t.kids with
        | nil => exact absurd hk a1
        | cons c cs => exact (a2 c (by rw [hk]; exact List.mem_cons_self)).1.elim
      | succ h =>
        rw [allK_eq, weave_sum _ _ (by rw [List.length_map]; exact hkl), List.map_map]
        have := sum_ge ((fun c : List ByteArray => c.length + 1) ∘ allK) (3 ^ (h + 1)) t.kids fun s hm => by
          obtain ⟨l1, l2⟩ := a2 s hm
          obtain ⟨i, hi⟩ := List.getElem?_of_mem hm
          have hr := cnt_lev h s (hs.kid hi) l1
          show 3 ^ (h + 1) ≤ (allK s).length + 1
          have h3 : 3 * 3 ^ h ≤ (s.keys.length + 1) * 3 ^ h := Nat.mul_le_mul_right _ (by omega)
          rw [Nat.pow_succ, Nat.mul_comm]
          omega
        rw [hkl] at this
        exact this
/-! fuel -/
theorem readK_mem {rd : Nat → Option (PT × Nat)} : ∀ (l : List Int) (next : Nat) (acc ts : List PT) (n : Nat), readK rd l next acc = some (ts, n) → ∀ x ∈ acc, x ∈ ts
  | [], next, acc, ts, n, h, x, hx => by
    rw [readK] at h
    injection h with h
    injection h with e1 e2
    rw [← e1]
    exact hx
  | k :: ks, next, acc, ts, n, h, x, hx => by
    rw [readK] at h
    split at h
    · cases h
    · cases hr : rd next with
      | none => rw [hr] at h; cases h
      | some r =>
        rw [hr] at h
        exact readK_mem ks r.2 _ ts n h x (List.mem_append_left _ hx)
theorem readK_sub {rd rd' : Nat → Option (PT × Nat)} {Q : PT → Prop} (hrd : ∀ a t n, rd a = some (t, n) → Q t → rd' a = some (t, n)) : ∀ (l : List Int) (next : Nat) (acc ts : List PT) (n : Nat), readK rd l next acc = some (ts, n) → (∀ s ∈ ts, Q s) → readK rd' l next acc = some (ts, n)
  | [], next, acc, ts, n, h, _ => h
  | k :: ks, next, acc, ts, n, h, hq => by
    rw [readK] at h ⊢
    split at h
    · cases h
    · rename_i hk
      rw [if_neg hk]
      cases hr : rd next with
      | none => rw [hr] at h; cases h
      | some r =>
        rw [hr] at h
        have hm := readK_mem ks r.2 _ ts n h r.1 (List.mem_append_right _ (List.mem_singleton_self _))
        rw [hrd next r.1 r.2 hr (hq _ hm)]
        exact readK_sub hrd ks r.2 _ ts n h hq
theorem readS_parts {P : List S110} {f a n : Nat} {t : PT} (h : readS P (f + 1) a = some (t, n)) : ¬ P.length ≤ a ∧ badP (P.getD a z110) = false ∧ t.keys = (P.getD a z110).f0 ∧ t.vals = (P.getD a z110).f1 ∧ readK (readS P f) (P.getD a z110).f2 (a + 1) [] = some (t.kids, n) := by
  rw [readS] at h
  split at h
  · cases h
  · rename_i hl
    split at h
    · cases h
    · rename_i hb
      unfold fin at h
      obtain ⟨r, hr, e⟩ := Option.map_eq_some_iff.1 h
      injection e with e1 e2
      subst e1
      refine ⟨hl, by cases hbb : badP (P.getD a z110) <;> simp_all, rfl, rfl, ?_⟩
      rw [hr, ← e2]
      rfl
theorem readS_back {P : List S110} {f a n : Nat} {t : PT} (h1 : ¬ P.length ≤ a) (h2 : badP (P.getD a z110) = false) (h3 : t.keys = (P.getD a z110).f0) (h4 : t.vals = (P.getD a z110).f1) (h5 : readK (readS P f) (P.getD a z110).f2 (a + 1) [] = some (t.kids, n)) : readS P (f + 1) a = some (t, n) := by
  rw [readS, if_neg h1, if_neg (by rw [h2]; decide), h5]
  unfold fin
  rw [Option.map_some, ← h3, ← h4, PT.eta]
theorem readS_mono {P : List S110} : ∀ (f g a : Nat) (t : PT) (n : Nat), f ≤ g → readS P f a = some (t, n) → readS P g a = some (t, n)
  | 0, g, a, t, n, _, h => by cases h
  | f + 1, 0, a, t, n, hg, h => by omega
  | f + 1, g + 1, a, t, n, hg, h => by
    obtain ⟨h1, h2, h3, h4, h5⟩ := readS_parts h
    exact readS_back h1 h2 h3 h4 (readK_sub (Q := fun _ => True) (fun a t n h _ => readS_mono f g a t n (by omega) h) _ _ _ _ _ h5 fun _ _ => trivial)
theorem readS_lev {P : List S110} : ∀ (h f g a : Nat) (t : PT) (n : Nat), h ≤ g → Lev h t → readS P f a = some (t, n) → readS P g a = some (t, n)
  | 0, f, g, a, t, n, _, hl, _ => hl.elim
  | h + 1, 0, g, a, t, n, _, _, hr => by cases hr
  | h + 1, f + 1, 0, a, t, n, hg, _, _ => by omega
  | h + 1, f + 1, g + 1, a, t, n, hg, hl, hr => by
    obtain ⟨h1, h2, h3, h4, h5⟩ := readS_parts hr
    refine readS_back h1 h2 h3 h4 (readK_sub (Q := Lev h) (fun a t n hr hl => readS_lev h f g a t n (by omega) hl hr) _ _ _ _ _ h5 fun s hs => ?_)
    rcases hl with ⟨a1, _⟩ | ⟨_, a2⟩
    · rw [a1] at hs
      cases hs
    · exact (a2 s hs).1
theorem readS_enough {P : List S110} : ∀ (f g a : Nat) (t : PT) (n : Nat), P.length < a + g → readS P f a = some (t, n) → readS P g a = some (t, n)
  | 0, g, a, t, n, _, h => by cases h
  | f + 1, g, a, t, n, hg, h => by
    obtain ⟨h1, h2, h3, h4, h5⟩ := readS_parts h
    cases g with
    | zero => omega
    | succ g =>
      refine readS_back h1 h2 h3 h4 ?_
      have : ∀ (l : List Int) (next : Nat) (acc ts : List PT) (n : Nat), a + 1 ≤ next → readK (readS P f) l next acc = some (ts, n) → readK (readS P g) l next acc = some (ts, n) := by
        intro l
        induction l with
        | nil => intro next acc ts n _ h; exact h
        | cons k ks ih =>
          intro next acc ts n hn h
          rw [readK] at h ⊢
          split at h
          · cases h
          · rename_i hk
            rw [if_neg hk]
            cases hr : readS P f next with
            | none => rw [hr] at h; cases h
            | some r =>
              rw [hr] at h
              rw [readS_enough f g next r.1 r.2 (by omega) hr]
              have := readS_le f next r.1 r.2 hr
              exact ih r.2 _ ts n (by omega) h
      exact this _ _ _ _ _ (Nat.le_refl _) h5
theorem readK_big {P : List S110} {rd : Nat → Option (PT × Nat)} (hrd : ∀ a t n, rd a = some (t, n) → a < n ∧ t.big ≤ n - a) : ∀ (l : List Int) (next : Nat) (acc ts : List PT) (n : Nat), readK rd l next acc = some (ts, n) → next ≤ n ∧ PT.bigL ts ≤ PT.bigL acc + (n - next)
  | [], next, acc, ts, n, h => by
    rw [readK] at h
    injection h with h
    injection h with e1 e2
    subst e1; subst e2
    omega
  | k :: ks, next, acc, ts, n, h => by
    rw [readK] at h
    split at h
    · cases h
    · cases hr : rd next with
      | none => rw [hr] at h; cases h
      | some r =>
        rw [hr] at h
        have h1 := hrd next r.1 r.2 hr
        have h2 := readK_big (P := P) hrd ks r.2 _ ts n h
        have h3 : ∀ (l : List PT) (x : PT), PT.bigL (l ++ [x]) = PT.bigL l + x.big := by
          intro l x
          induction l with
          | nil => simp [PT.bigL]
          | cons y l ih => rw [List.cons_append, PT.bigL, PT.bigL, ih]; omega
        rw [h3] at h2
        omega
theorem readS_big {P : List S110} : ∀ (f a : Nat) (t : PT) (n : Nat), readS P f a = some (t, n) → a < n ∧ t.big ≤ n - a
  | 0, a, t, n, h => by cases h
  | f + 1, a, t, n, h => by
    obtain ⟨h1, h2, h3, h4, h5⟩ := readS_parts h
    have := readK_big (P := P) (fun a t n h => readS_big f a t n h) _ _ _ _ _ h5
    cases t with | mk keys vals kids =>
    rw [PT.big]
    simp only [PT.kids, PT.bigL] at this
    omega
theorem rootOk_iff (t : PT) : rootOk t = true ↔ ¬ (t.kids.length ≠ 0 ∧ t.keys.length = 0) := by
  unfold rootOk
  cases hk : t.kids with
  | nil => simp
  | cons c cs =>
    simp only [List.isEmpty_cons, Bool.false_or, decide_eq_true_eq, List.length_cons]
    omega
/-- With rounds enough the program's tree is the reference's. -/
theorem root_ev (P : List S110) (hP : P.length ≤ 1048576) : Ev (fun k => rootI k P) (ofS P) := by
  unfold rootI ofS
  cases h1 : readS P (P.length + 1) 0 with
  | none =>
    have h2 : readS P 10 0 = none := by
      cases h : readS P 10 0 with
      | none => rfl
      | some r => have := readS_enough 10 (P.length + 1) 0 r.1 r.2 (by omega) h; rw [h1] at this; cases this
    rw [h2]
    exact Ev.val rfl
  | some r =>
    obtain ⟨t, n⟩ := r
    obtain ⟨hlt, hfits⟩ := readS_fits _ 0 t n h1
    have hle := readS_le _ 0 t n h1
    have hbig := readS_big _ 0 t n h1
    have hk := hfits.k
    have hv := hfits.v
    have hvl := allV_len hfits.shp
    have hap := arePairs_ev (allK t) (allV t) (by omega) (by omega)
    have he := even_lev _ t (Nat.le_refl _) (by omega)
    have hd := depth_lev _ t (Nat.le_refl _) (by omega)
    simp only
    by_cases hn : n = P.length
    · refine Ev.ifn (by simp [hn]) ?_
      have hpc := pairs_chk (allK t) (allV t) hvl
      rcases hd with ⟨h, hl, hdp⟩ | ⟨hno, hdp⟩
      · -- level h
        by_cases hh : h ≤ 10
        · have h2 := readS_lev h (P.length + 1) 10 0 t n hh hl h1
          rw [h2]
          simp only
          rw [if_neg (by simp [hn]), hdp]
          have hev : evenS t = (h : Int) := by
            rcases he with ⟨g, gl, ge⟩ | ⟨hno, _⟩
            · rw [ge, lev_uniq gl hl]
            · exact absurd hl (hno h)
          cases hro : rootOk t with
          | false =>
            have : ¬ ¬ (t.kids.length ≠ 0 ∧ t.keys.length = 0) := fun h => by rw [(rootOk_iff t).2 h] at hro; cases hro
            have := Decidable.not_not.1 this
            refine Ev.ifp rfl (Ev.val ?_)
            split
            · rfl
            · rw [if_pos (.inr (.inl this))]
          | true =>
            have hr2 := (rootOk_iff t).1 hro
            refine Ev.ifn (by simp) (Ev.bind hap (Ev.val ?_))
            rw [hpc]
            cases hc : chkS (allK t) (allV t) none with
            | false =>
              rw [if_pos rfl, Bool.and_false]
              rfl
            | true =>
              rw [Bool.and_true]
              by_cases h40 : (allK t).length ≤ 40
              · rw [if_pos (decide_eq_true h40), if_neg (show ¬ (true = false) by decide), if_neg (by rw [hev]; omega)]
              · rw [if_neg (show ¬ decide ((allK t).length ≤ 40) = true by simpa using h40), if_neg (show ¬ (true = false) by decide), if_pos (.inr (.inr (by omega)))]
        · -- too deep: too many keys
          have h2 : readS P 10 0 = none ∨ ∃ r, readS P 10 0 = some r := by
            cases readS P 10 0 with
            | none => exact .inl rfl
            | some r => exact .inr ⟨r, rfl⟩
          obtain ⟨g, rfl⟩ : ∃ g, h = g + 1 := ⟨h - 1, by omega⟩
          have hcnt := cnt_lev g t hfits.shp hl
          have h3 : 3 ^ 10 ≤ 3 ^ g := Nat.pow_le_pow_right (by omega) (by omega)
          have h310 : (3 : Nat) ^ 10 = 59049 := by decide
          have hmany : 40 < (allK t).length := by
            have : 1 * 3 ^ g ≤ (t.keys.length + 1) * 3 ^ g := Nat.mul_le_mul_right _ (by omega)
            omega
          have hfalse : pairsOk (allK t) (allV t) = false := by rw [hpc, decide_eq_false (by omega), Bool.false_and]
          rcases h2 with h2 | ⟨r, h2⟩
          · rw [h2]
            cases hro : rootOk t with
            | false =>
              rw [hdp, hro]
              exact Ev.ifp rfl (Ev.val rfl)
            | true =>
              rw [hdp, hro]
              refine Ev.ifn (by simp) (Ev.bind hap (Ev.val ?_))
              rw [hfalse]
              rfl
          · have h4 := readS_enough 10 (P.length + 1) 0 r.1 r.2 (by omega) h2
            rw [h1] at h4
            injection h4 with h4
            injection h4 with e1 e2
            rw [h2]
            simp only
            rw [← e1, ← e2, if_neg (by simp [hn])]
            have : (if chkS (allK t) (allV t) none = false then (none : Option PT) else if evenS t < 0 ∨ (t.kids.length ≠ 0 ∧ t.keys.length = 0) ∨ 40 < (allK t).length then none else some t) = none := by
              split
              · rfl
              · rw [if_pos (.inr (.inr hmany))]
            rw [this]
            cases hro : rootOk t with
            | false =>
              rw [hdp, hro]
              exact Ev.ifp rfl (Ev.val rfl)
            | true =>
              rw [hdp, hro]
              refine Ev.ifn (by simp) (Ev.bind hap (Ev.val ?_))
              rw [hfalse]
              rfl
      · rw [hdp]
        refine Ev.ifp rfl (Ev.val ?_)
        cases h2 : readS P 10 0 with
        | none => rfl
        | some r =>
          have h4 := readS_enough 10 (P.length + 1) 0 r.1 r.2 (by omega) h2
          rw [h1] at h4
          injection h4 with h4
          injection h4 with e1 e2
          simp only
          rw [← e1, ← e2, if_neg (by simp [hn])]
          have hev : evenS t = -1 := by
            rcases he with ⟨g, gl, _⟩ | ⟨_, h⟩
            · exact absurd gl (hno g)
            · exact h
          split
          · rfl
          · rw [if_pos (.inl (by rw [hev]; decide))]
    · refine Ev.ifp (by simpa using hn) (Ev.val ?_)
      cases h2 : readS P 10 0 with
      | none => rfl
      | some r =>
        have h4 := readS_enough 10 (P.length + 1) 0 r.1 r.2 (by omega) h2
        rw [h1] at h4
        injection h4 with h4
        injection h4 with e1 e2
        simp only
        rw [← e2, if_pos (by simpa using hn)]
end Go.Proofs.Ytoddejmlcnbdmaa.Pure
namespace Go.Proofs.Ytoddejmlcnbdmaa.Pure
open Go.RowKit Go.Proofs.Ytoddejmlcnbdmaa.Fn Go.Proofs.YtoddejmlcnbdmaaW.PrintWords Go.Proofs.YtoddejmlcnbdmaaW.PrintLast Go.Proofs.YtoddejmlcnbdmaaW.PrintMore Go.Proofs.Ytoddejmlcnbdmaa.Tree
set_option linter.unusedSimpArgs false
set_option linter.unusedVariables false

theorem bless_eq : ∀ (x y : List UInt8), Op.bytesLess x y = decide (x < y)
  | [], [] => by simp [Op.bytesLess]
  | _ :: _, [] => by simp [Op.bytesLess]
  | [], _ :: _ => by simp [Op.bytesLess]
  | a :: x, b :: y => by
    rw [Op.bytesLess, bless_eq x y]
    simp only [List.cons_lt_cons_iff]
    by_cases h1 : a < b <;> by_cases h2 : a = b <;> by_cases h3 : x < y <;> simp [h1, h2, h3]
def lt_ (a b : ByteArray) : Prop := a.toList < b.toList
theorem ltB_iff (a b : ByteArray) : ltB a b = true ↔ lt_ a b := by
  unfold ltB lt_
  rw [bless_eq, decide_eq_true_eq]
theorem lt_trans {a b c : ByteArray} (h : lt_ a b) (k : lt_ b c) : lt_ a c := List.lt_trans h k
theorem lt_irrefl (a : ByteArray) : ¬ lt_ a a := List.lt_irrefl _
theorem lt_asymm {a b : ByteArray} (h : lt_ a b) : ¬ lt_ b a := fun k => lt_irrefl a (lt_trans h k)
abbrev Srt (K : List ByteArray) : Prop := K.Pairwise lt_
theorem rise_srt : ∀ (K : List ByteArray) (prev : Option ByteArray), riseP K prev = true → Srt K ∧ ∀ p, prev = some p → ∀ k ∈ K, lt_ p k
  | [], prev, _ => ⟨.nil, fun _ _ k hk => by cases hk⟩
  | k :: ks, prev, h => by
    rw [riseP, Bool.and_eq_true, Bool.and_eq_true] at h
    obtain ⟨h1, h2, h3⟩ := h
    obtain ⟨i1, i2⟩ := rise_srt ks (some k) h3
    refine ⟨List.pairwise_cons.2 ⟨fun x hx => i2 k rfl x hx, i1⟩, ?_⟩
    rintro p rfl x hx
    have hp : lt_ p k := (ltB_iff _ _).1 h2
    rcases List.mem_cons.1 hx with rfl | hx
    · exact hp
    · exact lt_trans hp (i2 k rfl x hx)
/-- The place of a key among rising ones: all ahead are less, none behind. -/
theorem atI_lt (key : ByteArray) : ∀ (K : List ByteArray) (i : Nat) (x : ByteArray), i < atI key K → K[i]? = some x → ltB x key = true
  | [], i, x, h, _ => by rw [atI] at h; omega
  | k :: ks, i, x, h, hx => by
    rw [atI] at h
    split at h
    · rename_i hk
      cases i with
      | zero =>
        obtain rfl := Option.some.inj hx
        exact hk
      | succ i => exact atI_lt key ks i x (by omega) (by simpa using hx)
    · omega
theorem atI_ge (key : ByteArray) : ∀ (K : List ByteArray), Srt K → ∀ (i : Nat) (x : ByteArray), atI key K ≤ i → K[i]? = some x → ltB x key = false
  | [], _, i, x, _, hx => by simp at hx
  | k :: ks, hs, i, x, h, hx => by
    obtain ⟨h1, h2⟩ := List.pairwise_cons.1 hs
    rw [atI] at h
    split at h
    · cases i with
      | zero => omega
      | succ i => exact atI_ge key ks h2 i x (by omega) (by simpa using hx)
    · rename_i hk
      cases hlt : ltB x key with
      | false => rfl
      | true =>
        cases i with
        | zero =>
          obtain rfl := Option.some.inj hx
          exact absurd hlt hk
        | succ i =>
          have hx' : x ∈ ks := List.mem_of_getElem? (i := i) (by simpa using hx)
          exact absurd ((ltB_iff _ _).2 (lt_trans (h1 x hx') ((ltB_iff _ _).1 hlt))) hk
theorem less_f (a b : ByteArray) : cmp_Less_string.f a b = some (ltB a b) := by
  simp [cmp_Less_string.f, cmp_isNaN_string.f, ltB]
theorem nan_f (a : ByteArray) : slices_isNaN_string.f a = some false := by simp [slices_isNaN_string.f]
theorem mid_eq (i j : Nat) (h1 : i < j) (h2 : j ≤ 1048576000) : wrap64 ((IntKind.u64.wrap (wrap64 ((i : Int) + (j : Int)))) / 2) = (((i + j) / 2 : Nat) : Int) := by
  rw [wrap_ok (n := (i : Int) + j) (by omega) (by omega)]
  have e : IntKind.u64.wrap ((i : Int) + j) = (i : Int) + j := by
    simp only [IntKind.wrap, IntKind.bits, IntKind.signed]
    simp
    omega
  rw [e, wrap_ok (by omega) (by omega)]
  omega
theorem search_ev (K : List ByteArray) (key : ByteArray) (hK : K.length ≤ 1048576000) (hs : Srt K) : ∃ b, Ev (fun k => slices_BinarySearch_string_string.f k K key) ((atI key K : Int), b) := by
  have hle := atI_le key K
  have key2 : ∀ (d i j : Nat), j - i ≤ d → i ≤ atI key K → atI key K ≤ j → j ≤ K.length → ∃ b, Ev (fun k => slices_BinarySearch_string_string.l0 k K key (K.length : Int) (i : Int) (j : Int)) ((atI key K : Int), b) := by
    intro d
    induction d with
    | zero =>
      intro i j h1 h2 h3 h4
      have hi : i = atI key K := by omega
      have hj : j = i := by omega
      subst hj
      by_cases hlt : j < K.length
      · have hx : K[j]? = some K[j] := List.getElem?_eq_getElem hlt
        by_cases he : K[j].toList = key.toList
        · refine ⟨true, ?_⟩
          (refine Ev.up ?_; simp only [slices_BinarySearch_string_string.l0, decT])
          simp only [rdOf_at hx]
          (repeat (first | with_reducible refine Ev.bindS ?_ | (with_reducible refine Ev.ifp ?_ ?_; (· exact cnd_)) | (with_reducible refine Ev.ifn ?_ ?_; (· exact cnd_))))
          exact Ev.val (by rw [hi])
        · refine ⟨false, ?_⟩
          (refine Ev.up ?_; simp only [slices_BinarySearch_string_string.l0, decT])
          simp only [rdOf_at hx, nan_f, Option.bind_some]
          (repeat (first | with_reducible refine Ev.bindS ?_ | (with_reducible refine Ev.ifp ?_ ?_; (· exact cnd_)) | (with_reducible refine Ev.ifn ?_ ?_; (· exact cnd_))))
          exact Ev.val (by rw [hi])
      · refine ⟨false, ?_⟩
        (refine Ev.up ?_; simp only [slices_BinarySearch_string_string.l0, decT])
        (repeat (first | with_reducible refine Ev.bindS ?_ | (with_reducible refine Ev.ifp ?_ ?_; (· exact cnd_)) | (with_reducible refine Ev.ifn ?_ ?_; (· exact cnd_))))
        exact Ev.val (by rw [hi])
    | succ d ih =>
      intro i j h1 h2 h3 h4
      by_cases hij : i < j
      · have hm := mid_eq i j hij (by omega)
        obtain ⟨m, hm2⟩ : ∃ m, m = (i + j) / 2 := ⟨_, rfl⟩
        rw [← hm2] at hm
        have hlt : m < K.length := by omega
        have hx : K[m]? = some K[m] := List.getElem?_eq_getElem hlt
        cases hb : ltB K[m] key with
        | true =>
          have hge : m < atI key K := by
            rcases Nat.lt_or_ge m (atI key K) with h | h
            · exact h
            · have := atI_ge key K hs m _ h hx
              rw [hb] at this
              cases this
          obtain ⟨b, h⟩ := ih (m + 1) j (by omega) (by omega) h3 h4
          refine ⟨b, ?_⟩
          (refine Ev.up ?_; simp only [slices_BinarySearch_string_string.l0, decT])
          simp only [hm, rdOf_at hx, less_f, hb, Option.bind_some, wrap_succ (i := m) (by omega)]
          (repeat (first | with_reducible refine Ev.bindS ?_ | (with_reducible refine Ev.ifp ?_ ?_; (· exact cnd_)) | (with_reducible refine Ev.ifn ?_ ?_; (· exact cnd_))))
          exact h
        | false =>
          have hge : atI key K ≤ m := by
            rcases Nat.lt_or_ge m (atI key K) with h | h
            · have := atI_lt key K m _ h hx
              rw [hb] at this
              cases this
            · exact h
          obtain ⟨b, h⟩ := ih i m (by omega) h2 hge (by omega)
          refine ⟨b, ?_⟩
          (refine Ev.up ?_; simp only [slices_BinarySearch_string_string.l0, decT])
          simp only [hm, rdOf_at hx, less_f, hb, Option.bind_some]
          (repeat (first | with_reducible refine Ev.bindS ?_ | (with_reducible refine Ev.ifp ?_ ?_; (· exact cnd_)) | (with_reducible refine Ev.ifn ?_ ?_; (· exact cnd_))))
          exact h
      · exact ih i j (by omega) h2 h3 h4
  exact key2 K.length 0 K.length (by omega) (by omega) hle (Nat.le_refl _)
theorem lessI_ev (K : List ByteArray) (key : ByteArray) (hK : K.length ≤ 1048576000) (hs : Srt K) : Ev (fun k => impl_less.f k K key) (atI key K : Int) := by
  obtain ⟨b, h⟩ := search_ev K key hK hs
  simp only [impl_less.f]
  exact Ev.bind h (Ev.val rfl)
theorem hasAt_f (K : List ByteArray) (i : Nat) (key : ByteArray) : impl_hasAt.f K (i : Int) key = some (hasS K i key) := by
  unfold impl_hasAt.f hasS
  rcases Nat.lt_or_ge i K.length with h | h
  · have hx : K[i]? = some K[i] := List.getElem?_eq_getElem h
    rw [if_pos (by omega), if_pos (by omega), rdOf_at hx, hx]
  · rw [if_neg (by omega), List.getElem?_eq_none h]
/-! the keys of a node, of a kid, among all -/
theorem weave_keys {α : Type} : ∀ (cs : List (List α)) (ks : List α), ks.Sublist (weave cs ks)
  | [], ks => List.Sublist.refl _
  | c :: cs, [] => List.nil_sublist _
  | c :: cs, k :: ks => by
    rw [weave]
    exact ((weave_keys cs ks).cons_cons k).trans (List.sublist_append_right _ _)
theorem weave_kid {α : Type} : ∀ (cs : List (List α)) (ks : List α), cs.length ≤ ks.length + 1 → ∀ c ∈ cs, c.Sublist (weave cs ks)
  | [], ks, _, c, hc => by cases hc
  | [d], [], _, c, hc => by rw [List.mem_singleton.1 hc]; exact List.Sublist.refl _
  | d :: e :: cs, [], h, c, hc => by simp at h
  | d :: cs, k :: ks, h, c, hc => by
    rw [weave]
    rcases List.mem_cons.1 hc with rfl | hc
    · exact List.sublist_append_left _ _
    · exact ((weave_kid cs ks (by simpa using h) c hc).trans (List.sublist_cons_self _ _)).trans (List.sublist_append_right _ _)
theorem srt_keys {t : PT} (h : Srt (allK t)) : Srt t.keys := by
  rw [allK_eq] at h
  exact h.sublist (weave_keys _ _)
theorem srt_kid {t s : PT} {i : Nat} (hs : Shp t) (h : Srt (allK t)) (hi : t.kids[i]? = some s) : Srt (allK s) := by
  rw [allK_eq] at h
  have h1 := hs.one
  unfold Shp1 at h1
  refine h.sublist (weave_kid _ _ (by rw [List.length_map]; omega) _ ?_)
  exact List.mem_map_of_mem (List.mem_of_getElem? hi)
/-- With rounds enough the program finds what the reference finds. -/
theorem get_ev : ∀ (n : Nat) (t : PT) (key : ByteArray), t.big ≤ n → Shp t → Srt (allK t) → ∃ K, ∀ k, K ≤ k → ∀ m, n ≤ m → getI k m t key = some (getS n t key)
  | 0, t, key, hb, _, _ => absurd t.big_pos (by omega)
  | n + 1, t, key, hb, hs, hsrt => by
    have h1 := hs.one
    unfold Shp1 at h1
    obtain ⟨K1, g1⟩ := lessI_ev t.keys key (by omega) (srt_keys hsrt)
    have hle := atI_le key t.keys
    by_cases h0 : t.kids.length = 0
    · refine ⟨K1, fun k hk m hm => ?_⟩
      obtain ⟨m, rfl⟩ : ∃ j, m = j + 1 := ⟨m - 1, by omega⟩
      have e1 := g1 k hk
      dsimp only at e1
      rw [getI, e1, Option.bind_some, hasAt_f, Option.bind_some, getS]
      cases hh : hasS t.keys (atI key t.keys) key with
      | true =>
        have := hasS_lt hh
        rw [if_pos rfl, if_pos rfl, if_pos (by omega)]
      | false => rw [if_neg (show ¬ (false = true) by decide), if_neg (show ¬ (false = true) by decide), if_pos h0, if_pos h0]
    · have hkl : t.kids.length = t.keys.length + 1 := h1.2.2.resolve_left h0
      have hlt : atI key t.keys < t.kids.length := by omega
      have hx : t.kids[atI key t.keys]? = some t.kids[atI key t.keys] := List.getElem?_eq_getElem hlt
      have hkb := PT.big_kid hx
      obtain ⟨K2, g2⟩ := get_ev n _ key (by omega) (hs.kid hx) (srt_kid hs hsrt hx)
      refine ⟨max K1 K2, fun k hk m hm => ?_⟩
      obtain ⟨m, rfl⟩ : ∃ j, m = j + 1 := ⟨m - 1, by omega⟩
      have e1 := g1 k (by omega)
      dsimp only at e1
      rw [getI, e1, Option.bind_some, hasAt_f, Option.bind_some, getS]
      cases hh : hasS t.keys (atI key t.keys) key with
      | true =>
        have := hasS_lt hh
        rw [if_pos rfl, if_pos rfl, if_pos (by omega)]
      | false =>
        rw [if_neg (show ¬ (false = true) by decide), if_neg (show ¬ (false = true) by decide), if_neg h0, if_neg h0, if_pos (by omega), Int.toNat_natCast, hx]
        exact g2 k (by omega) m (by omega)
end Go.Proofs.Ytoddejmlcnbdmaa.Pure
namespace Go.Proofs.Ytoddejmlcnbdmaa.Pure
open Go.RowKit Go.Proofs.Ytoddejmlcnbdmaa.Fn Go.Proofs.YtoddejmlcnbdmaaW.PrintWords Go.Proofs.YtoddejmlcnbdmaaW.PrintLast Go.Proofs.YtoddejmlcnbdmaaW.PrintMore Go.Proofs.Ytoddejmlcnbdmaa.Tree
set_option linter.unusedSimpArgs false
set_option linter.unusedVariables false

theorem pages_ok (l : List S115) (hl : l.length ≤ 1048576) (hs : ∀ p ∈ l, shortP 1048576 p) :
    okP (l.map cvP) = true ∧ (l.map cvP).length ≤ 1048576 ∧ Ev (fun k => laws_toTree.f k l) (l.map cvP) ∧ Ev (fun k => laws_eqTree.f k (l.map cvP) (l.map cvP)) true := by
  have hm : ∀ q ∈ l.map cvP, lenP q := fun q hq => by
    obtain ⟨p, hp, rfl⟩ := List.mem_map.1 hq
    obtain ⟨a1, a2, a3, _⟩ := hs p hp
    exact ⟨by show p.f0.length ≤ _; omega, by show p.f1.length ≤ _; omega, by show p.f2.length ≤ _; omega⟩
  refine ⟨?_, by rw [List.length_map]; exact hl, toTree_ev l hl (fun p hp => by obtain ⟨a1, a2, a3, _⟩ := hs p hp; omega), eqTree_ev _ (by rw [List.length_map]; exact hl) hm⟩
  unfold okP
  simp only [Bool.and_eq_true, decide_eq_true_eq, List.all_eq_true, List.length_map]
  refine ⟨by omega, fun q hq => ?_⟩
  obtain ⟨a1, a2, a3⟩ := hm q hq
  omega
/-- A good tree. -/
structure Good (t : PT) : Prop where
  shp : Shp t
  srt : Srt (allK t)
  few : (allK t).length ≤ 40
  big : t.big ≤ 1048576
  four : t.keys.length ≤ 4
  lev : ∃ h, Lev h t ∧ evenS t = (h : Int) ∧ depthP t = ((h : Int), true)
  keys : (allK t).all keyOk = true
  vals : (allV t).all valOk = true
theorem rise_keys : ∀ (K : List ByteArray) (prev : Option ByteArray), riseP K prev = true → K.all keyOk = true
  | [], _, _ => rfl
  | k :: ks, prev, h => by
    rw [riseP, Bool.and_eq_true, Bool.and_eq_true] at h
    rw [List.all_cons, h.1, rise_keys ks (some k) h.2.2]
    rfl
theorem of_good {P : List S110} {t : PT} (hP : P.length ≤ 1048576) (h : ofS P = some t) : Good t := by
  unfold ofS at h
  cases hrs : readS P 10 0 with
  | none => rw [hrs] at h; cases h
  | some r =>
    rw [hrs] at h
    simp only at h
    obtain ⟨r1, r2⟩ := r
    have hf := (readS_fits 10 0 r1 r2 hrs).2
    have hbig := readS_big 10 0 r1 r2 hrs
    have hle := readS_le 10 0 r1 r2 hrs
    split at h
    · cases h
    · split at h
      · cases h
      · split at h
        · cases h
        · rename_i hc hno
          obtain rfl := Option.some.inj h
          have hc' : chkS (allK r1) (allV r1) none = true := by cases hcc : chkS (allK r1) (allV r1) none <;> simp_all
          rw [chk_split _ _ _ (allV_len hf.shp).symm, Bool.and_eq_true] at hc'
          have hno' : ¬ evenS r1 < 0 ∧ ¬ (r1.kids.length ≠ 0 ∧ r1.keys.length = 0) ∧ ¬ 40 < (allK r1).length := ⟨fun h => hno (.inl h), fun h => hno (.inr (.inl h)), fun h => hno (.inr (.inr h))⟩
          refine ⟨hf.shp, (rise_srt _ _ hc'.1).1, by have := hno'.2.2; show (allK r1).length ≤ 40; omega, by show r1.big ≤ 1048576; omega, hf.four, ?_, rise_keys _ _ hc'.1, hc'.2⟩
          rcases even_lev _ r1 (Nat.le_refl _) (by omega) with ⟨g, gl, ge⟩ | ⟨_, ge⟩
          · refine ⟨g, gl, ge, ?_⟩
            rcases depth_lev _ r1 (Nat.le_refl _) (by omega) with ⟨f, fl, fe⟩ | ⟨hno2, _⟩
            · rw [fe, lev_uniq fl gl, (rootOk_iff r1).2 hno'.2.1]
            · exact absurd gl (hno2 g)
          · omega
end Go.Proofs.Ytoddejmlcnbdmaa.Pure
namespace Go.Proofs.Ytoddejmlcnbdmaa.Pure
open Go.RowKit Go.Proofs.Ytoddejmlcnbdmaa.Fn Go.Proofs.YtoddejmlcnbdmaaW.PrintWords Go.Proofs.YtoddejmlcnbdmaaW.PrintLast Go.Proofs.YtoddejmlcnbdmaaW.PrintMore Go.Proofs.Ytoddejmlcnbdmaa.Tree
set_option linter.unusedSimpArgs false
set_option linter.unusedVariables false

theorem atI_zero {key k : ByteArray} : ∀ {ks : List ByteArray}, Srt (k :: ks) → ltB k key = false → atI key ks = 0
  | [], _, _ => rfl
  | x :: xs, hs, h => by
    rw [atI]
    cases hx : ltB x key with
    | false => rfl
    | true =>
      have hk : lt_ k x := (List.pairwise_cons.1 hs).1 x List.mem_cons_self
      have := (ltB_iff _ _).2 (lt_trans hk ((ltB_iff _ _).1 hx))
      rw [h] at this
      cases this
theorem inB_eq (a b k : ByteArray) : inB a b k = (!ltB k a && ltB k b) := rfl
theorem range_eq {a b : ByteArray} (hab : ltB a b = true) : ∀ (K V : List ByteArray), Srt K → V.length = K.length →
    atI a K ≤ atI b K ∧ rngK a b K = (K.take (atI b K)).drop (atI a K) ∧ rngV a b K V = (V.take (atI b K)).drop (atI a K)
  | [], V, _, _ => by
    refine ⟨Nat.le_refl _, by simp [rngK, atI], ?_⟩
    simp [rngV, atI]
  | k :: ks, [], _, h => by simp at h
  | k :: ks, v :: vs, hs, h => by
    obtain ⟨i1, i2, i3⟩ := range_eq hab ks vs (List.pairwise_cons.1 hs).2 (by simpa using h)
    cases ha : ltB k a with
    | true =>
      have hb : ltB k b = true := (ltB_iff _ _).2 (lt_trans ((ltB_iff _ _).1 ha) ((ltB_iff _ _).1 hab))
      have hin : inB a b k = false := by rw [inB_eq, ha]; rfl
      have ea : atI a (k :: ks) = atI a ks + 1 := by rw [atI, if_pos ha]
      have eb : atI b (k :: ks) = atI b ks + 1 := by rw [atI, if_pos hb]
      rw [ea, eb]
      refine ⟨by omega, ?_, ?_⟩
      · rw [List.take_succ_cons, List.drop_succ_cons, ← i2]
        unfold rngK
        rw [List.filter_cons_of_neg (by simp [hin])]
      · rw [List.take_succ_cons, List.drop_succ_cons, ← i3, rngV, if_neg (by simp [hin])]
    | false =>
      have ea : atI a (k :: ks) = 0 := by rw [atI, if_neg (by simp [ha])]
      have ea2 : atI a ks = 0 := atI_zero hs ha
      rw [ea2] at i2 i3
      cases hb : ltB k b with
      | true =>
        have hin : inB a b k = true := by rw [inB_eq, ha, hb]; rfl
        have eb : atI b (k :: ks) = atI b ks + 1 := by rw [atI, if_pos hb]
        rw [ea, eb]
        refine ⟨Nat.zero_le _, ?_, ?_⟩
        · rw [List.take_succ_cons, List.drop_zero]
          unfold rngK
          rw [List.filter_cons_of_pos hin]
          have : ks.filter (inB a b) = (ks.take (atI b ks)).drop 0 := i2
          rw [this, List.drop_zero]
        · rw [List.take_succ_cons, List.drop_zero, rngV, if_pos hin, i3, List.drop_zero]
      | false =>
        have hin : inB a b k = false := by rw [inB_eq, ha, hb]; rfl
        have eb : atI b (k :: ks) = 0 := by rw [atI, if_neg (by simp [hb])]
        have eb2 : atI b ks = 0 := atI_zero hs hb
        rw [eb2] at i2 i3
        rw [ea, eb]
        refine ⟨Nat.le_refl _, ?_, ?_⟩
        · unfold rngK
          rw [List.filter_cons_of_neg (by simp [hin])]
          have : ks.filter (inB a b) = (ks.take 0).drop 0 := i2
          rw [this]
          rfl
        · rw [rngV, if_neg (by simp [hin]), i3]
          rfl
def rangeOk (a b : ByteArray) : Bool := keyOk a && (keyOk b && ltB a b)
theorem valOk_nil : valOk (⟨#[]⟩ : ByteArray) = true := by decide
theorem isRange_eq (a b : ByteArray) : impl_isRange.f a b = some (rangeOk a b) := by
  simp only [impl_isRange.f, isKey_eq, Option.bind_some, rangeOk, ltB]
  cases keyOk a <;> cases keyOk b <;> simp
theorem l7Range_eq (a b : ByteArray) : spec_l7Range.f a b = some (rangeOk a b) := by
  simp only [spec_l7Range.f, pair_eq, valOk_nil, Bool.and_true, Option.bind_some, rangeOk, ltB]
  cases keyOk a <;> cases keyOk b <;> simp
def rangeS (t : PT) (a b : ByteArray) : List ByteArray × List ByteArray × Bool := if rangeOk a b = true then (rngK a b (allK t), rngV a b (allK t) (allV t), true) else ([], [], false)
def rangeP (P : List S110) (a b : ByteArray) : List ByteArray × List ByteArray × Bool := match ofS P with | none => ([], [], false) | some t => rangeS t a b
theorem rangeS_f {P : List S110} {a b : ByteArray} (hok : okP P = true) : spec_RangeOf.f P a b = some (rangeP P a b) := by
  unfold spec_RangeOf.f rangeP
  rw [if_pos hok]
  cases ofS P with
  | none => rfl
  | some t =>
    simp only [l7Range_eq, Option.bind_some, rangeS]
    split <;> rfl
theorem rangeI_ev {P : List S110} {a b : ByteArray} (hok : okP P = true) (hP : P.length ≤ 1048576) : Ev (fun k => impl_RangeOf.f k P a b) (rangeP P a b) := by
  simp only [impl_RangeOf.f, if_pos hok]
  refine Ev.bind (root_ev _ hP) ?_
  unfold rangeP
  cases hof : ofS P with
  | none => exact Ev.val rfl
  | some t =>
    have hg := of_good hP hof
    simp only [isRange_eq, Option.bind_some, rangeS]
    cases hr : rangeOk a b with
    | false =>
      refine Ev.ifn (by decide) ?_
      exact Ev.val (by simp)
    | true =>
      have hab : ltB a b = true := by
        unfold rangeOk at hr
        simp only [Bool.and_eq_true] at hr
        exact hr.2.2
      have hK : (allK t).length ≤ 1048576000 := by have := hg.few; omega
      obtain ⟨r1, r2, r3⟩ := range_eq hab (allK t) (allV t) hg.srt (allV_len hg.shp)
      have la := atI_le a (allK t)
      have lb := atI_le b (allK t)
      refine Ev.ifp rfl ?_
      refine Ev.bind (lessI_ev _ a hK hg.srt) (Ev.bind (lessI_ev _ b hK hg.srt) ?_)
      refine Ev.ifp ⟨by omega, by omega, by omega⟩ ?_
      have e : (if ((atI a (allK t) : Nat) : Int) < ((atI b (allK t) : Nat) : Int) then ((atI b (allK t) : Nat) : Int) else ((atI a (allK t) : Nat) : Int)) = ((atI b (allK t) : Nat) : Int) := by split <;> omega
      rw [e, Int.toNat_natCast, Int.toNat_natCast, ← r2, ← r3]
      exact Ev.val (by simp)
theorem range_none {P : List S110} {a b : ByteArray} (h : (rangeP P a b).2.2 = false) : (rangeP P a b).1 = [] := by
  unfold rangeP at h ⊢
  cases hof : ofS P with
  | none => rfl
  | some t =>
    rw [hof] at h
    unfold rangeS at h ⊢
    simp only at h ⊢
    split at h
    · cases h
    · rename_i c
      rw [if_neg c]
def atP (P : List S110) (i : Int) : ByteArray × ByteArray × Bool := match ofS P with | none => (⟨#[]⟩, ⟨#[]⟩, false) | some t => atS t i
theorem atP_f {P : List S110} {i : Int} (hok : okP P = true) : spec_AtPlace.f P i = some (atP P i) := by
  unfold spec_AtPlace.f atP
  rw [if_pos hok]
  cases ofS P <;> rfl
theorem atI_ev {P : List S110} {i : Int} (hok : okP P = true) (hP : P.length ≤ 1048576) : Ev (fun k => impl_AtPlace.f k P i) (atP P i) := by
  simp only [impl_AtPlace.f, if_pos hok]
  refine Ev.bind (root_ev _ hP) ?_
  unfold atP
  cases ofS P with
  | none => exact Ev.val rfl
  | some t => exact Ev.val rfl
def keysP (P : List S110) : List ByteArray × Bool := match ofS P with | none => ([], false) | some t => (allK t, true)
theorem keysP_f {P : List S110} (hok : okP P = true) : spec_KeysIn.f P = some (keysP P) := by
  unfold spec_KeysIn.f keysP
  rw [if_pos hok]
  cases ofS P <;> rfl
theorem keysI_ev {P : List S110} (hok : okP P = true) (hP : P.length ≤ 1048576) : Ev (fun k => impl_KeysIn.f k P) (keysP P) := by
  simp only [impl_KeysIn.f, if_pos hok]
  refine Ev.bind (root_ev _ hP) ?_
  unfold keysP
  cases ofS P with
  | none => exact Ev.val rfl
  | some t => exact Ev.val rfl
end Go.Proofs.Ytoddejmlcnbdmaa.Pure
namespace Go.Proofs.Ytoddejmlcnbdmaa.Pure
open Go.RowKit Go.Proofs.Ytoddejmlcnbdmaa.Fn Go.Proofs.YtoddejmlcnbdmaaW.PrintWords Go.Proofs.YtoddejmlcnbdmaaW.PrintLast Go.Proofs.YtoddejmlcnbdmaaW.PrintMore
set_option linter.unusedSimpArgs false
set_option linter.unusedVariables false

theorem str_append_size (a b : ByteArray) : (a ++ b).size = a.size + b.size := by
  rw [← nm_length, ← nm_length, ← nm_length, nm_append, List.length_append]
theorem one_size (c : Int) : (strOfNums [c]).size = 1 := rfl
theorem markText_some (n : Int) (hn : n ≤ 1073741824) : ∃ t, Ev (fun k => laws_markText.f k n) t := by
  have key : ∀ (d : Nat) (x : Int) (s : ByteArray), x ≤ d → x ≤ 1073741824 → (s.size : Int) + d ≤ 4611686018427387904 → ∃ t, Ev (fun k => laws_markText.l0 k x s) t := by
    intro d
    induction d with
    | zero =>
      intro x s h1 h2 h3
      refine ⟨(⟨#[109]⟩ : ByteArray) ++ s, ?_⟩
      (refine Ev.up ?_; simp only [laws_markText.l0, decT])
      (repeat (first | with_reducible refine Ev.bindS ?_ | (with_reducible refine Ev.ifp ?_ ?_; (· exact cnd_)) | (with_reducible refine Ev.ifn ?_ ?_; (· exact cnd_))))
      exact Ev.val rfl
    | succ d ih =>
      intro x s h1 h2 h3
      by_cases hx : x > 0
      · have e1 : wrap64 (Int.tdiv x 10) = x / 10 := by
          rw [Int.tdiv_eq_ediv_of_nonneg (by omega)]
          exact wrap_ok (by omega) (by omega)
        have hz : ∀ c : Int, (strOfNums [c]).size = 1 := one_size
        obtain ⟨t, ht⟩ := ih (x / 10) (strOfNums [(wrap64 (48 + (Int.tmod x 10))) % 256] ++ s) (by omega) (by omega) (by rw [str_append_size, hz]; omega)
        refine ⟨t, ?_⟩
        (refine Ev.up ?_; simp only [laws_markText.l0, decT])
        rw [e1]
        (repeat (first | with_reducible refine Ev.bindS ?_ | (with_reducible refine Ev.ifp ?_ ?_; (· exact cnd_)) | (with_reducible refine Ev.ifn ?_ ?_; (· exact cnd_))))
        rw [hz]
        (repeat (first | with_reducible refine Ev.bindS ?_ | (with_reducible refine Ev.ifp ?_ ?_; (· exact cnd_)) | (with_reducible refine Ev.ifn ?_ ?_; (· exact cnd_))))
        exact ht
      · refine ⟨(⟨#[109]⟩ : ByteArray) ++ s, ?_⟩
        (refine Ev.up ?_; simp only [laws_markText.l0, decT])
        (repeat (first | with_reducible refine Ev.bindS ?_ | (with_reducible refine Ev.ifp ?_ ?_; (· exact cnd_)) | (with_reducible refine Ev.ifn ?_ ?_; (· exact cnd_))))
        exact Ev.val rfl
  by_cases h : n ≤ 0
  · refine ⟨(⟨#[109, 48]⟩ : ByteArray), ?_⟩
    simp only [laws_markText.f]
    (repeat (first | with_reducible refine Ev.bindS ?_ | (with_reducible refine Ev.ifp ?_ ?_; (· exact cnd_)) | (with_reducible refine Ev.ifn ?_ ?_; (· exact cnd_))))
    exact Ev.val rfl
  · obtain ⟨t, ht⟩ := key n.toNat n (⟨#[]⟩ : ByteArray) (by omega) hn (by show ((0 : Nat) : Int) + _ ≤ _; omega)
    refine ⟨t, ?_⟩
    simp only [laws_markText.f]
    (repeat (first | with_reducible refine Ev.bindS ?_ | (with_reducible refine Ev.ifp ?_ ?_; (· exact cnd_)) | (with_reducible refine Ev.ifn ?_ ?_; (· exact cnd_))))
    exact ht
theorem markText_all : ∃ f : Int → ByteArray, ∀ n, n ≤ 1073741824 → Ev (fun k => laws_markText.f k n) (f n) := by
  have h : ∀ n : Int, ∃ t, n ≤ 1073741824 → Ev (fun k => laws_markText.f k n) t := by
    intro n
    by_cases hn : n ≤ 1073741824
    · obtain ⟨t, ht⟩ := markText_some n hn
      exact ⟨t, fun _ => ht⟩
    · exact ⟨(⟨#[]⟩ : ByteArray), fun h => absurd h hn⟩
  exact ⟨fun n => Classical.choose (h n), fun n => Classical.choose_spec (h n)⟩
theorem markStrs_ev (l : List ByteArray) (hl : l.length ≤ 1048576) (c : Int) (h0 : 0 ≤ c) (h1 : c ≤ 1000000000) :
    ∃ l' : List ByteArray, l'.length = l.length ∧ Ev (fun k => laws_markStringS.f k l c) (c + l.length, l') ∧ Ev (fun k => laws_heldStringS.f k l' c) (c + l.length) := by
  obtain ⟨f, hf⟩ := markText_all
  refine ⟨l.mapIdx fun i _ => f (c + i), by simp, ?_, ?_⟩
  · have h := mark_ev (fun k x a i => laws_markStringS.l0 k x a i) (fun i => c + (i : Int)) (fun i _ => f (c + i)) l ?_ ?_
    · simp only [laws_markStringS.f]
      rw [show c + ((0 : Nat) : Int) = c by omega] at h
      exact h
    · intro k x hx
      simp only [laws_markStringS.l0]
      rw [if_neg (by omega)]
    · intro i y hy
      have hlt := (List.getElem?_eq_some_iff.1 hy).1
      obtain ⟨K, hK⟩ := hf (c + i) (by omega)
      refine ⟨K, fun k x hk hx _ => ?_⟩
      have e1 : wrap64 (c + (i : Int) + 1) = c + ((i + 1 : Nat) : Int) := by rw [wrap_ok (by omega) (by omega)]; omega
      have hk := hK k hk
      dsimp only at hk
      simp only [laws_markStringS.l0]
      rw [if_pos (by omega), hk, Option.bind_some, if_pos (by omega), wrap_succ (by omega), e1, Int.toNat_natCast]
  · have key : ∀ (t : List ByteArray) (i : Nat), (l.mapIdx fun i _ => f (c + i)).drop i = t → i ≤ l.length → Ev (fun k => laws_heldStringS.l0 k (l.mapIdx fun i _ => f (c + i)) (c + i) i) (c + l.length) := by
      intro t
      induction t with
      | nil =>
        intro i h hi
        have h2 := drop_nil h
        simp only [List.length_mapIdx] at h2
        have e : i = l.length := by omega
        (refine Ev.up ?_; simp only [laws_heldStringS.l0, decT])
        rw [List.length_mapIdx]
        (repeat (first | with_reducible refine Ev.bindS ?_ | (with_reducible refine Ev.ifp ?_ ?_; (· exact cnd_)) | (with_reducible refine Ev.ifn ?_ ?_; (· exact cnd_))))
        exact Ev.val (by rw [e])
      | cons x t ih =>
        intro i h hi
        obtain ⟨p1, p2, p3⟩ := drop_cons h
        rw [List.length_mapIdx] at p1
        have ih := ih (i + 1) p3 (by omega)
        have hx : x = f (c + i) := by
          rw [List.getElem?_mapIdx] at p2
          obtain ⟨y, _, hy⟩ := Option.map_eq_some_iff.1 p2
          exact hy.symm
        have e1 : wrap64 (c + (i : Int) + 1) = c + ((i + 1 : Nat) : Int) := by rw [wrap_ok (by omega) (by omega)]; omega
        (refine Ev.up ?_; simp only [laws_heldStringS.l0, decT])
        rw [List.length_mapIdx, rdOf_at p2, e1, wrap_succ (by omega)]
        (repeat (first | with_reducible refine Ev.bindS ?_ | (with_reducible refine Ev.ifp ?_ ?_; (· exact cnd_)) | (with_reducible refine Ev.ifn ?_ ?_; (· exact cnd_))))
        refine Ev.bind (hf (c + i) (by omega)) ?_
        rw [hx]
        (repeat (first | with_reducible refine Ev.bindS ?_ | (with_reducible refine Ev.ifp ?_ ?_; (· exact cnd_)) | (with_reducible refine Ev.ifn ?_ ?_; (· exact cnd_))))
        exact ih
    have h := key _ 0 rfl (by omega)
    simp only [laws_heldStringS.f]
    rw [show c + ((0 : Nat) : Int) = c by omega] at h
    exact h
end Go.Proofs.Ytoddejmlcnbdmaa.Pure
namespace Go.Proofs.Ytoddejmlcnbdmaa.Pure
open Go.RowKit Go.Proofs.Ytoddejmlcnbdmaa.Fn Go.Proofs.YtoddejmlcnbdmaaW.PrintWords Go.Proofs.YtoddejmlcnbdmaaW.PrintLast Go.Proofs.YtoddejmlcnbdmaaW.PrintMore Go.Proofs.Ytoddejmlcnbdmaa.Tree
set_option linter.unusedSimpArgs false
set_option linter.unusedVariables false

theorem szStrs_ev2 (l : List ByteArray) (hl : l.length ≤ maxLen) (hs : ∀ y ∈ l, y.size ≤ maxLen) (a : Int) (h0 : 0 ≤ a) (h1 : a ≤ 1048576) :
    ∃ r : Int, Ev (fun k => laws_szStringS.f k l a) r ∧ r ≤ a ∧ (0 ≤ r → r + (l.length : Int) ≤ a ∧ ∀ y ∈ l, (y.size : Int) ≤ a) := by
  simp only [maxLen] at hl hs
  have key : ∀ (t : List ByteArray) (i : Nat) (m : Int), l.drop i = t → i ≤ l.length → 0 ≤ m → m ≤ a →
      ∃ r : Int, Ev (fun k => laws_szStringS.l0 k l m i) r ∧ r ≤ m ∧ (0 ≤ r → ∀ y ∈ t, (y.size : Int) ≤ a) := by
    intro t
    induction t with
    | nil =>
      intro i m h _ _ hm
      have := drop_nil h
      exact ⟨m, by (refine Ev.up ?_; simp only [laws_szStringS.l0, decT]); (repeat (first | with_reducible refine Ev.bindS ?_ | (with_reducible refine Ev.ifp ?_ ?_; (· exact cnd_)) | (with_reducible refine Ev.ifn ?_ ?_; (· exact cnd_)))); exact Ev.val rfl, Int.le_refl _, by simp⟩
    | cons x t ih =>
      intro i m h hi hm0 hm
      obtain ⟨p1, p2, p3⟩ := drop_cons h
      have hx := hs x (List.mem_of_getElem? p2)
      have e : wrap64 (m - (x.size : Int)) = m - (x.size : Int) := wrap_ok (by omega) (by omega)
      by_cases hlt : m - (x.size : Int) < 0
      · refine ⟨-1, ?_, by omega, by omega⟩
        (refine Ev.up ?_; simp only [laws_szStringS.l0, decT])
        rw [rdOf_at p2, e]
        (repeat (first | with_reducible refine Ev.bindS ?_ | (with_reducible refine Ev.ifp ?_ ?_; (· exact cnd_)) | (with_reducible refine Ev.ifn ?_ ?_; (· exact cnd_))))
        exact Ev.val rfl
      · obtain ⟨r, q1, q2, q3⟩ := ih (i + 1) (m - x.size) p3 (by omega) (by omega) (by omega)
        refine ⟨r, ?_, by omega, fun hr y hy => ?_⟩
        · (refine Ev.up ?_; simp only [laws_szStringS.l0, decT])
          rw [rdOf_at p2, e, wrap_succ (by omega)]
          (repeat (first | with_reducible refine Ev.bindS ?_ | (with_reducible refine Ev.ifp ?_ ?_; (· exact cnd_)) | (with_reducible refine Ev.ifn ?_ ?_; (· exact cnd_))))
          exact q1
        · rcases List.mem_cons.1 hy with rfl | hy
          · omega
          · exact q3 hr y hy
  have e : wrap64 (a - (l.length : Int)) = a - (l.length : Int) := wrap_ok (by omega) (by omega)
  by_cases hlt : a - (l.length : Int) < 0
  · refine ⟨-1, ?_, by omega, by omega⟩
    simp only [laws_szStringS.f, e]
    (repeat (first | with_reducible refine Ev.bindS ?_ | (with_reducible refine Ev.ifp ?_ ?_; (· exact cnd_)) | (with_reducible refine Ev.ifn ?_ ?_; (· exact cnd_))))
    exact Ev.val rfl
  · obtain ⟨r, q1, q2, q3⟩ := key l 0 (a - l.length) rfl (by omega) (by omega) (by omega)
    refine ⟨r, ?_, by omega, fun hr => ⟨by omega, q3 hr⟩⟩
    simp only [laws_szStringS.f, e]
    (repeat (first | with_reducible refine Ev.bindS ?_ | (with_reducible refine Ev.ifp ?_ ?_; (· exact cnd_)) | (with_reducible refine Ev.ifn ?_ ?_; (· exact cnd_))))
    exact q1
def wgt (p : S110) : Nat := p.f0.length + p.f1.length + p.f2.length
def tot (P : List S110) : Nat := (P.map wgt).sum
theorem tot_take_succ {P : List S110} {i : Nat} {y : S110} (h : P[i]? = some y) : tot (P.take (i + 1)) = tot (P.take i) + wgt y := by
  obtain ⟨h1, h2⟩ := List.getElem?_eq_some_iff.1 h
  unfold tot
  rw [List.take_add_one, h, Option.toList_some, List.map_append, List.sum_append]
  simp
theorem tot_take_le : ∀ (P : List S110) (i : Nat), tot (P.take i) ≤ tot P
  | [], i => by simp
  | p :: P, 0 => by simp [tot]
  | p :: P, i + 1 => by
    have := tot_take_le P i
    unfold tot at *
    simp only [List.take_succ_cons, List.map_cons, List.sum_cons]
    omega
theorem szPage_ev2 (p : S115) (h : wfP p) (a : Int) (h0 : 0 ≤ a) (h1 : a ≤ 1048576) :
    ∃ r : Int, Ev (fun k => laws_szPage.f k p.f0 p.f1 p.f2 a) r ∧ r ≤ a ∧ (0 ≤ r → r + (wgt (cvP p) : Int) ≤ a ∧ shortP a p) := by
  obtain ⟨r1, e1, l1, s1⟩ := szStrs_ev2 p.f0 h.1.1 h.1.2 a h0 h1
  simp only [laws_szPage.f]
  by_cases c1 : r1 < 0
  · exact ⟨-1, Ev.bind e1 (by (repeat (first | with_reducible refine Ev.bindS ?_ | (with_reducible refine Ev.ifp ?_ ?_; (· exact cnd_)) | (with_reducible refine Ev.ifn ?_ ?_; (· exact cnd_)))); exact Ev.val rfl), by omega, by omega⟩
  obtain ⟨r2, e2, l2, s2⟩ := szStrs_ev2 p.f1 h.2.1.1 h.2.1.2 r1 (by omega) (by omega)
  by_cases c2 : r2 < 0
  · exact ⟨-1, Ev.bind e1 (by (repeat (first | with_reducible refine Ev.bindS ?_ | (with_reducible refine Ev.ifp ?_ ?_; (· exact cnd_)) | (with_reducible refine Ev.ifn ?_ ?_; (· exact cnd_)))); exact Ev.bind e2 (by (repeat (first | with_reducible refine Ev.bindS ?_ | (with_reducible refine Ev.ifp ?_ ?_; (· exact cnd_)) | (with_reducible refine Ev.ifn ?_ ?_; (· exact cnd_)))); exact Ev.val rfl)), by omega, by omega⟩
  have hw : wrap64 (r2 - (p.f2.length : Int)) = r2 - (p.f2.length : Int) := wrap_ok (by have := h.2.2; simp only [maxLen] at this; omega) (by omega)
  have s1' := s1 (by omega)
  have s2' := s2 (by omega)
  by_cases c3 : r2 - (p.f2.length : Int) < 0
  · refine ⟨-1, Ev.bind e1 (by (repeat (first | with_reducible refine Ev.bindS ?_ | (with_reducible refine Ev.ifp ?_ ?_; (· exact cnd_)) | (with_reducible refine Ev.ifn ?_ ?_; (· exact cnd_)))); exact Ev.bind e2 (by (repeat (first | with_reducible refine Ev.bindS ?_ | (with_reducible refine Ev.ifp ?_ ?_; (· exact cnd_)) | (with_reducible refine Ev.ifn ?_ ?_; (· exact cnd_)))); simp only [laws_szIntS.f, hw, if_pos c3, Option.bind_some]; exact Ev.val (by simp))), by omega, by omega⟩
  · refine ⟨r2 - (p.f2.length : Int), Ev.bind e1 (by (repeat (first | with_reducible refine Ev.bindS ?_ | (with_reducible refine Ev.ifp ?_ ?_; (· exact cnd_)) | (with_reducible refine Ev.ifn ?_ ?_; (· exact cnd_)))); exact Ev.bind e2 (by (repeat (first | with_reducible refine Ev.bindS ?_ | (with_reducible refine Ev.ifp ?_ ?_; (· exact cnd_)) | (with_reducible refine Ev.ifn ?_ ?_; (· exact cnd_)))); simp only [laws_szIntS.f, hw, if_neg c3, Option.bind_some]; exact Ev.val rfl)), by omega, fun _ => ⟨?_, ⟨by omega, by omega, by omega, s1'.2, fun y hy => by have := s2'.2 y hy; omega⟩⟩⟩
    have := s1'.1
    have := s2'.1
    show r2 - (p.f2.length : Int) + ((p.f0.length + p.f1.length + p.f2.length : Nat) : Int) ≤ a
    omega
theorem shortP_mono {a b : Int} {p : S115} (h : shortP a p) (hab : a ≤ b) : shortP b p :=
  ⟨by have := h.1; omega, by have := h.2.1; omega, by have := h.2.2.1; omega, fun y hy => by have := h.2.2.2.1 y hy; omega, fun y hy => by have := h.2.2.2.2 y hy; omega⟩
theorem szTree_ev2 (P : List S115) (hl : P.length ≤ maxLen) (hw : ∀ p ∈ P, wfP p) :
    ∃ r : Int, Ev (fun k => laws_szTree.f k P 1048576) r ∧ (0 ≤ r → P.length ≤ 1048576 ∧ tot (P.map cvP) ≤ 1048576 ∧ ∀ p ∈ P, shortP 1048576 p) := by
  have key : ∀ (t : List S115) (i : Nat) (m : Int), P.drop i = t → i ≤ P.length → 0 ≤ m → m ≤ 1048576 →
      ∃ r : Int, Ev (fun k => laws_szPageS.l0 k P m i) r ∧ (0 ≤ r → r + (tot (t.map cvP) : Int) ≤ m ∧ ∀ p ∈ t, shortP 1048576 p) := by
    intro t
    induction t with
    | nil =>
      intro i m h _ _ hm
      have := drop_nil h
      exact ⟨m, by (refine Ev.up ?_; simp only [laws_szPageS.l0, decT]); (repeat (first | with_reducible refine Ev.bindS ?_ | (with_reducible refine Ev.ifp ?_ ?_; (· exact cnd_)) | (with_reducible refine Ev.ifn ?_ ?_; (· exact cnd_)))); exact Ev.val rfl, fun _ => ⟨by simp [tot], by simp⟩⟩
    | cons x t ih =>
      intro i m h hi hm0 hm
      obtain ⟨p1, p2, p3⟩ := drop_cons h
      obtain ⟨r1, e1, l1, s1⟩ := szPage_ev2 x (hw x (List.mem_of_getElem? p2)) m hm0 hm
      have hrd : rd_T115 P (i : Int) = x := rdOf_at (z := z115) p2
      simp only [maxLen] at hl
      by_cases c : r1 < 0
      · refine ⟨-1, ?_, by omega⟩
        (refine Ev.up ?_; simp only [laws_szPageS.l0, decT])
        rw [hrd]
        (repeat (first | with_reducible refine Ev.bindS ?_ | (with_reducible refine Ev.ifp ?_ ?_; (· exact cnd_)) | (with_reducible refine Ev.ifn ?_ ?_; (· exact cnd_))))
        exact Ev.bind e1 (by (repeat (first | with_reducible refine Ev.bindS ?_ | (with_reducible refine Ev.ifp ?_ ?_; (· exact cnd_)) | (with_reducible refine Ev.ifn ?_ ?_; (· exact cnd_)))); exact Ev.val rfl)
      · obtain ⟨r, q1, q2⟩ := ih (i + 1) r1 p3 (by omega) (by omega) (by omega)
        have s1' := s1 (by omega)
        refine ⟨r, ?_, fun hr => ⟨?_, fun p hp => ?_⟩⟩
        · (refine Ev.up ?_; simp only [laws_szPageS.l0, decT])
          rw [hrd, wrap_succ (by omega)]
          (repeat (first | with_reducible refine Ev.bindS ?_ | (with_reducible refine Ev.ifp ?_ ?_; (· exact cnd_)) | (with_reducible refine Ev.ifn ?_ ?_; (· exact cnd_))))
          exact Ev.bind e1 (by (repeat (first | with_reducible refine Ev.bindS ?_ | (with_reducible refine Ev.ifp ?_ ?_; (· exact cnd_)) | (with_reducible refine Ev.ifn ?_ ?_; (· exact cnd_)))); exact q1)
        · have := (q2 hr).1
          have e : tot ((x :: t).map cvP) = wgt (cvP x) + tot (t.map cvP) := by simp [tot]
          omega
        · rcases List.mem_cons.1 hp with rfl | hp
          · exact shortP_mono s1'.2 hm
          · exact (q2 hr).2 p hp
  have hl' := hl
  simp only [maxLen] at hl'
  have e : wrap64 (1048576 - (P.length : Int)) = 1048576 - (P.length : Int) := wrap_ok (by omega) (by omega)
  simp only [laws_szTree.f, laws_szPageS.f]
  by_cases hlt : 1048576 - (P.length : Int) < 0
  · refine ⟨-1, ?_, by omega⟩
    rw [e]
    refine Ev.bind (a := -1) ?_ ?_
    · (repeat (first | with_reducible refine Ev.bindS ?_ | (with_reducible refine Ev.ifp ?_ ?_; (· exact cnd_)) | (with_reducible refine Ev.ifn ?_ ?_; (· exact cnd_))))
      exact Ev.val rfl
    · (repeat (first | with_reducible refine Ev.bindS ?_ | (with_reducible refine Ev.ifp ?_ ?_; (· exact cnd_)) | (with_reducible refine Ev.ifn ?_ ?_; (· exact cnd_))))
      exact Ev.val rfl
  · obtain ⟨r, q1, q2⟩ := key P 0 (1048576 - P.length) rfl (by omega) (by omega) (by omega)
    by_cases c : r < 0
    · refine ⟨-1, ?_, by omega⟩
      rw [e]
      refine Ev.bind (a := r) ?_ ?_
      · (repeat (first | with_reducible refine Ev.bindS ?_ | (with_reducible refine Ev.ifp ?_ ?_; (· exact cnd_)) | (with_reducible refine Ev.ifn ?_ ?_; (· exact cnd_))))
        exact q1
      · (repeat (first | with_reducible refine Ev.bindS ?_ | (with_reducible refine Ev.ifp ?_ ?_; (· exact cnd_)) | (with_reducible refine Ev.ifn ?_ ?_; (· exact cnd_))))
        exact Ev.val rfl
    · refine ⟨r, ?_, fun hr => ⟨by omega, by have := (q2 hr).1; omega, (q2 hr).2⟩⟩
      rw [e]
      refine Ev.bind (a := r) ?_ ?_
      · (repeat (first | with_reducible refine Ev.bindS ?_ | (with_reducible refine Ev.ifp ?_ ?_; (· exact cnd_)) | (with_reducible refine Ev.ifn ?_ ?_; (· exact cnd_))))
        exact q1
      · (repeat (first | with_reducible refine Ev.bindS ?_ | (with_reducible refine Ev.ifp ?_ ?_; (· exact cnd_)) | (with_reducible refine Ev.ifn ?_ ?_; (· exact cnd_))))
        exact Ev.val rfl
/-! marks -/
theorem markInts_ev (l : List Int) (hl : l.length ≤ 1048576) (c : Int) (h0 : 0 ≤ c) (h1 : c ≤ 1000000000) :
    ∃ l' : List Int, Ev (fun k => laws_markIntS.f k l c) (c + l.length, l') := by
  refine ⟨l.mapIdx fun i _ => c + i, ?_⟩
  have h := mark_ev (fun k x a i => laws_markIntS.l0 k x a i) (fun i => c + (i : Int)) (fun i _ => c + i) l ?_ ?_
  · simp only [laws_markIntS.f]
    rw [show c + ((0 : Nat) : Int) = c by omega] at h
    exact h
  · intro k x hx
    simp only [laws_markIntS.l0]
    rw [if_neg (by omega)]
  · intro i y hy
    have hlt := (List.getElem?_eq_some_iff.1 hy).1
    refine ⟨0, fun k x hk hx _ => ?_⟩
    have e1 : wrap64 (c + (i : Int) + 1) = c + ((i + 1 : Nat) : Int) := by rw [wrap_ok (by omega) (by omega)]; omega
    simp only [laws_markIntS.l0]
    rw [if_pos (by omega), if_pos (by omega), wrap_succ (by omega), e1, Int.toNat_natCast]
theorem markPage_ev (p : S110) (hp : wgt p ≤ 1048576) (c : Int) (h0 : 0 ≤ c) (h1 : c ≤ 900000000) :
    ∃ q : S110, ∃ K, ∀ k, K ≤ k → laws_markStringS.f k p.f0 c = some (c + p.f0.length, q.f0) ∧ laws_markStringS.f k p.f1 (c + p.f0.length) = some (c + p.f0.length + p.f1.length, q.f1) ∧ laws_markIntS.f k p.f2 (c + p.f0.length + p.f1.length) = some (c + ((wgt p : Nat) : Int), q.f2) := by
  have hw : wgt p = p.f0.length + p.f1.length + p.f2.length := rfl
  obtain ⟨l0, _, ⟨K0, m0⟩, _⟩ := markStrs_ev p.f0 (by omega) c h0 (by omega)
  obtain ⟨l1, _, ⟨K1, m1⟩, _⟩ := markStrs_ev p.f1 (by omega) (c + p.f0.length) (by omega) (by omega)
  obtain ⟨l2, ⟨K2, m2⟩⟩ := markInts_ev p.f2 (by omega) (c + p.f0.length + p.f1.length) (by omega) (by omega)
  refine ⟨⟨l0, l1, l2⟩, max K0 (max K1 K2), fun k hk => ⟨m0 k (by omega), m1 k (by omega), ?_⟩⟩
  have := m2 k (by omega)
  dsimp only at this
  rw [this, hw]
  congr 2
  omega
theorem markPages_ev (P : List S110) (hl : P.length ≤ 1048576) (ht : tot P ≤ 1048576) :
    ∃ u : List S110, Ev (fun k => laws_markPageS.f k P 1) (1 + ((tot P : Nat) : Int), u) := by
  have hw : ∀ {i : Nat} {y : S110}, P[i]? = some y → tot (P.take i) + wgt y ≤ 1048576 := fun {i y} h => by
    have := tot_take_succ h
    have := tot_take_le P (i + 1)
    omega
  have ex : ∀ (i : Nat) (y : S110), ∃ q : S110, P[i]? = some y → ∃ K, ∀ k, K ≤ k → laws_markStringS.f k y.f0 (1 + ((tot (P.take i) : Nat) : Int)) = some (1 + ((tot (P.take i) : Nat) : Int) + y.f0.length, q.f0) ∧ laws_markStringS.f k y.f1 (1 + ((tot (P.take i) : Nat) : Int) + y.f0.length) = some (1 + ((tot (P.take i) : Nat) : Int) + y.f0.length + y.f1.length, q.f1) ∧ laws_markIntS.f k y.f2 (1 + ((tot (P.take i) : Nat) : Int) + y.f0.length + y.f1.length) = some (1 + ((tot (P.take i) : Nat) : Int) + ((wgt y : Nat) : Int), q.f2) := by
    intro i y
    by_cases h : P[i]? = some y
    · have := hw h
      obtain ⟨q, hq⟩ := markPage_ev y (by omega) (1 + ((tot (P.take i) : Nat) : Int)) (by omega) (by omega)
      exact ⟨q, fun _ => hq⟩
    · exact ⟨y, fun h2 => absurd h2 h⟩
  obtain ⟨g, hg⟩ : ∃ g : Nat → S110 → S110, ∀ (i : Nat) (y : S110), P[i]? = some y → ∃ K, ∀ k, K ≤ k → laws_markStringS.f k y.f0 (1 + ((tot (P.take i) : Nat) : Int)) = some (1 + ((tot (P.take i) : Nat) : Int) + y.f0.length, (g i y).f0) ∧ laws_markStringS.f k y.f1 (1 + ((tot (P.take i) : Nat) : Int) + y.f0.length) = some (1 + ((tot (P.take i) : Nat) : Int) + y.f0.length + y.f1.length, (g i y).f1) ∧ laws_markIntS.f k y.f2 (1 + ((tot (P.take i) : Nat) : Int) + y.f0.length + y.f1.length) = some (1 + ((tot (P.take i) : Nat) : Int) + ((wgt y : Nat) : Int), (g i y).f2) := ⟨fun i y => Classical.choose (ex i y), fun i y => Classical.choose_spec (ex i y)⟩
  refine ⟨P.mapIdx g, ?_⟩
  have h := mark_ev (fun k x a i => laws_markPageS.l0 k x a i) (fun i => 1 + (((tot (P.take i) : Nat) : Int) : Int)) g P ?_ ?_
  · simp only [laws_markPageS.f]
    rw [show (1 : Int) + ((tot (P.take 0) : Nat) : Int) = 1 by simp [tot], List.take_length] at h
    exact h
  · intro k x hx
    simp only [laws_markPageS.l0]
    rw [if_neg (by omega)]
  · intro i y hy
    have hlt := (List.getElem?_eq_some_iff.1 hy).1
    obtain ⟨K, hK⟩ := hg i y hy
    refine ⟨K, fun k x hk hx hxy => ?_⟩
    obtain ⟨a, b, c⟩ := hK k hk
    have hrd : rd_T110 x (i : Int) = y := rdOf_at (z := z110) hxy
    have hs := tot_take_succ hy
    simp only [laws_markPageS.l0]
    rw [if_pos (by omega), if_pos (by omega), hrd, a, Option.bind_some]
    dsimp only
    rw [b, Option.bind_some]
    dsimp only
    rw [c, Option.bind_some, wrap_succ (by omega), Int.toNat_natCast, hs]
    dsimp only
    rw [show (1 : Int) + ((tot (P.take i) : Nat) : Int) + ((wgt y : Nat) : Int) = 1 + ((tot (P.take i) + wgt y : Nat) : Int) by omega]
end Go.Proofs.Ytoddejmlcnbdmaa.Pure
namespace Go.Proofs.Ytoddejmlcnbdmaa.Pure
open Go.RowKit Go.Proofs.Ytoddejmlcnbdmaa.Fn Go.Proofs.YtoddejmlcnbdmaaW.PrintWords Go.Proofs.YtoddejmlcnbdmaaW.PrintLast Go.Proofs.YtoddejmlcnbdmaaW.PrintMore Go.Proofs.Ytoddejmlcnbdmaa.Tree
set_option linter.unusedSimpArgs false
set_option linter.unusedVariables false

theorem FnExactRangeOf : ∀ (l : List (S115)) (a1 : ByteArray) (a2 : ByteArray), (l.length ≤ maxLen ∧ ∀ y4 ∈ l, ((y4.f0.length ≤ maxLen ∧ ∀ y5 ∈ y4.f0, y5.size ≤ maxLen) ∧ (y4.f1.length ≤ maxLen ∧ ∀ y6 ∈ y4.f1, y6.size ≤ maxLen) ∧ (y4.f2.length ≤ maxLen ∧ ∀ y7 ∈ y4.f2, (Lit.int .i64 y7).wf = true))) → a1.size ≤ 140737488351232 → a2.size ≤ 140737488351232 → ∃ k, laws_FnExactRangeOf.Runs k l a1 a2 := by
  intro l a b h _ _
  by_cases ha : 1048576 < (a.size : Int)
  · exact ⟨0, .inl ha⟩
  by_cases hb : 1048576 < (b.size : Int)
  · exact ⟨0, .inr ⟨by omega, .inl hb⟩⟩
  obtain ⟨r, ⟨Kr, hr⟩, hb⟩ := szTree_ev2 l h.1 fun p hp => ⟨(h.2 p hp).1, (h.2 p hp).2.1, (h.2 p hp).2.2.1⟩
  by_cases c : r < 0
  · exact ⟨Kr, .inr ⟨by omega, .inr ⟨by omega, r, hr Kr (Nat.le_refl _), .inl c⟩⟩⟩
  obtain ⟨hl, ht, hs⟩ := hb (by omega)
  obtain ⟨hok, hlen, ⟨K1, hto⟩, ⟨K5, heq⟩⟩ := pages_ok l hl hs
  obtain ⟨u, ⟨K6, h6⟩⟩ := markPages_ev (l.map cvP) hlen ht
  obtain ⟨K3, h3⟩ := rangeI_ev (a := a) (b := b) hok hlen
  have e2 := rangeS_f (a := a) (b := b) hok
  have hk : (rangeP (l.map cvP) a b).1.length ≤ 40 ∧ (rangeP (l.map cvP) a b).2.1.length ≤ 40 := by
    unfold rangeP
    cases hof : ofS (l.map cvP) with
    | none => simp
    | some t =>
      have hf := (of_good hlen hof).few
      have h1 := List.length_filter_le (inB a b) (allK t)
      have h2 := rngV_len a b (allK t) (allV t)
      unfold rangeS
      simp only
      split
      · exact ⟨by show (rngK a b (allK t)).length ≤ 40; unfold rngK; omega, by show (rngV a b (allK t) (allV t)).length ≤ 40; omega⟩
      · simp
  obtain ⟨z1, _, ⟨K7, h7⟩, ⟨K8, h8⟩⟩ := markStrs_ev (rangeP (l.map cvP) a b).1 (by omega) 1 (by omega) (by omega)
  obtain ⟨z2, _, ⟨K9, h9⟩, ⟨K10, h10⟩⟩ := markStrs_ev (rangeP (l.map cvP) a b).2.1 (by omega) (1 + (rangeP (l.map cvP) a b).1.length) (by omega) (by omega)
  obtain ⟨K4, h4⟩ := eqStrs_ev (rangeP (l.map cvP) a b).1 (by omega)
  obtain ⟨K11, h11⟩ := eqStrs_ev (rangeP (l.map cvP) a b).2.1 (by omega)
  refine ⟨Kr + K1 + K3 + K4 + K5 + K6 + K7 + K8 + K9 + K10 + K11, .inr ⟨by omega, .inr ⟨by omega, r, hr _ (by omega), .inr ⟨by omega, l.map cvP, (rangeP (l.map cvP) a b).1, (rangeP (l.map cvP) a b).2.1, (rangeP (l.map cvP) a b).2.2, _, u, _, z1, _, z2, hto _ (by omega), e2, h3 _ (by omega), h4 _ (by omega), h11 _ (by omega), heq _ (by omega), h6 _ (by omega), h7 _ (by omega), h9 _ (by omega), h8 _ (by omega), h10 _ (by omega), by omega, by omega, by omega⟩⟩⟩⟩
end Go.Proofs.Ytoddejmlcnbdmaa.Pure
namespace Go.Proofs.Ytoddejmlcnbdmaa.OpenA
open Go.RowKit Go.Deep Go.ChangeShapes Go.Joins Go.Proofs.YtoddejmlcnbdmaaW Go.Proofs.YtoddejmlcnbdmaaW.PrintWords

/-- What can be read as data of type t can be read as kind d, and is well formed. -/
def Op (P : Program) (t : TypeId) {α : Type} (d : Kd α) (Wf : α → Prop) : Prop :=
  ∀ {H : Type} {enc : TypeId × Value → H} {w : World} {base : Nat} {spare : Nat → Bool} {held : Bool} {fuel : Nat} {cs : List Value} {x : DataW H × List MemPlace},
    DataW.trod enc P w base spare held fuel t cs = some x → ∃ a : α, d.K w a cs ∧ Wf a

variable {P : Program} {t e : TypeId}

theorem op_int {k : IntKind} (hu : P.underlying t = some (.int k)) : Op P t (Kd.int k) (fun n => (Lit.int k n).wf = true) := by
  intro H enc w base spare held fuel cs x h
  obtain ⟨n, rfl, _, hw⟩ := DataW.trod_int hu h
  exact ⟨n, rfl, hw⟩
theorem op_bool (hu : P.underlying t = some .bool) : Op P t Kd.bool (fun _ => True) := by
  intro H enc w base spare held fuel cs x h
  obtain ⟨b, rfl, _⟩ := DataW.trod_bool hu h
  exact ⟨b, rfl, trivial⟩
theorem op_string (hu : P.underlying t = some .string) : Op P t Kd.string (fun s => s.size ≤ maxLen) := by
  intro H enc w base spare held fuel cs x h
  obtain ⟨s, rfl, _, hs⟩ := DataW.trod_string hu h
  exact ⟨s, rfl, hs⟩
theorem cells_of {w : World} {base : Nat} {a : Addr} {n : Nat} {cs : List Value} (h : w.cells? base a n = some cs) : cs.length = n ∧ ∀ j u, cs[j]? = some u → w.cell? (a.add j) = some u := by
  unfold World.cells? at h
  split at h
  · have hl := mapM_some_length h
    refine ⟨by simpa using hl, fun j u hj => ?_⟩
    have hlt : j < n := by
      have := (List.getElem?_eq_some_iff.1 hj).1
      have : cs.length = n := by simpa using hl
      omega
    have := mapM_some_get h j j (by simp [hlt])
    rw [hj] at this
    exact this
  · simp at h
theorem op_slice {α : Type} {d : Kd α} {Wf : α → Prop} (hu : P.underlying t = some (.slice e)) (hc : P.cellsOf e = d.sz) (h : Op P e d Wf) :
    Op P t (Kd.slice e d) (fun xs => xs.length ≤ maxLen ∧ ∀ x ∈ xs, Wf x) := by
  intro H enc w base spare held fuel cs x hf
  rcases open_slice hu hf with ⟨rfl, _⟩ | ⟨a, len, cap, m, n, D, Pl, rfl, _, hl, hm, hmm, hxe, hall⟩
  · exact ⟨[], ⟨none, 0, rfl, Nat.le_refl _, rfl, by simp, fun h => absurd h (by simp)⟩, by simp, by simp⟩
  · have hlm : len ≤ m := by rw [hmm]; split <;> omega
    have hx : ∀ i, i < len → ∃ y : α × List Value, w.cells? base (a.add (i * P.cellsOf e)) (P.cellsOf e) = some y.2 ∧ d.K w y.1 y.2 ∧ Wf y.1 := by
      intro i hi
      obtain ⟨cs', h1, h2⟩ := hall i (by omega)
      obtain ⟨y, h3, h4⟩ := h h2
      exact ⟨⟨y, cs'⟩, h1, h3, h4⟩
    have hx' : ∃ ys : List (α × List Value), ys.length = len ∧ ∀ i y, ys[i]? = some y → w.cells? base (a.add (i * P.cellsOf e)) (P.cellsOf e) = some y.2 ∧ d.K w y.1 y.2 ∧ Wf y.1 := by
      clear hall hf hmm hlm hl hm hxe
      induction len with
      | zero => exact ⟨[], rfl, by simp⟩
      | succ len ih =>
        obtain ⟨ys, h1, h2⟩ := ih (fun i hi => hx i (by omega))
        obtain ⟨y, hy⟩ := hx len (by omega)
        refine ⟨ys ++ [y], by simp [h1], fun i z hz => ?_⟩
        rcases Nat.lt_or_ge i ys.length with hi | hi
        · rw [List.getElem?_append_left hi] at hz
          exact h2 i z hz
        · rw [List.getElem?_append_right hi] at hz
          have h0 : i - ys.length = 0 := by
            rcases Nat.eq_zero_or_pos (i - ys.length) with h0 | h0
            · exact h0
            · rw [List.getElem?_eq_none (by simp; omega)] at hz
              cases hz
          rw [h0] at hz
          have hz' : y = z := by simpa using hz
          have : i = len := by omega
          subst this
          subst hz'
          exact hy
    obtain ⟨ys, hl2, hys⟩ := hx'
    have hlen : (ys.map (·.1)).length = len := by simp [hl2]
    refine ⟨ys.map (·.1), ⟨some a, cap, by rw [hlen], by omega, ?_⟩, by simp only [maxLen] at *; omega, ?_⟩
    · refine ⟨rfl, by rw [hlen]; simp only [maxLen] at hm; omega, fun _ => ⟨a, rfl, fun j p hj => ?_⟩⟩
      rw [List.getElem?_map] at hj
      obtain ⟨y, hy, rfl⟩ := Option.map_eq_some_iff.1 hj
      obtain ⟨h1, h2, _⟩ := hys j y hy
      obtain ⟨h3, h4⟩ := cells_of h1
      refine ⟨y.2, by rw [h3, hc], h2, fun i u hu => ?_⟩
      have := h4 i u hu
      rw [PrintWords.add_add, hc] at this
      exact this
    · intro x hx
      obtain ⟨y, hy, rfl⟩ := List.mem_map.1 hx
      obtain ⟨i, hi⟩ := List.mem_iff_getElem?.1 hy
      exact (hys i y hi).2.2

theorem len1 {l : List Value} (h : l.length = 1) : ∃ a, l = [a] := by
  match l, h with
  | [a], _ => exact ⟨a, rfl⟩
theorem len2 {l : List Value} (h : l.length = 2) : ∃ a b, l = [a, b] := by
  match l, h with
  | [a, b], _ => exact ⟨a, b, rfl⟩
theorem len3 {l : List Value} (h : l.length = 3) : ∃ a b c, l = [a, b, c] := by
  match l, h with
  | [a, b, c], _ => exact ⟨a, b, c, rfl⟩
theorem len4 {l : List Value} (h : l.length = 4) : ∃ a b c d, l = [a, b, c, d] := by
  match l, h with
  | [a, b, c, d], _ => exact ⟨a, b, c, d, rfl⟩

theorem fields_of {H : Type} {enc : TypeId × Value → H} {w : World} {base : Nat} {spare : Nat → Bool} {held : Bool} {fuel : Nat} {cs : List Value} {x : DataW H × List MemPlace} {fs : Array Field}
    (hs : P.underlying t = some (.struct fs)) (hone : oneCellFields P fs = true) (hC : P.cellsOf t = fs.size) (h : DataW.trod enc P w base spare held fuel t cs = some x) :
    cs.length = fs.size ∧ ∃ n, ∀ (i : Nat) (f : Field) (v : Value), fs[i]? = some f → cs[i]? = some v → ∃ y, DataW.trod enc P w base spare held n f.type [v] = some y := by
  obtain ⟨xs, n, _, _, hl, hx, hf⟩ := DataW.trod_struct hs h
  refine ⟨hl.trans hC, n, fun i f v hi hv => ?_⟩
  have h1 := hf i f hi
  obtain ⟨h2, h3⟩ := hone_of hone i f hi
  have hlt : i < fs.size := (Array.getElem?_eq_some_iff.1 hi).1
  have h4 : xs[i]? = some (xs[i]'(by omega)) := List.getElem?_eq_getElem (by omega)
  have h5 : (cs.drop f.offset).take (P.cellsOf f.type) = [v] := by
    rw [h2, h3]
    have hlt2 : i < cs.length := by omega
    rw [List.getElem?_eq_getElem hlt2] at hv
    injection hv with hv
    rw [List.drop_eq_getElem_cons hlt2, hv]
    simp
  rw [h5, h4] at h1
  exact ⟨_, h1⟩

theorem op_struct1 {α S : Type} {d0 : Kd α} {W0 : α → Prop} {f0 : Field} {f : S → α} (mk : α → S) (hf : ∀ a, f (mk a) = a)
    (hs : P.underlying t = some (.struct #[f0])) (hone : oneCellFields P #[f0] = true) (hC : P.cellsOf t = 1) (h0 : Op P f0.type d0 W0) :
    Op P t (Kd.iso d0 f) (fun x => W0 (f x)) := by
  intro H enc w base spare held fuel cs x h
  obtain ⟨hl, n, hF⟩ := fields_of hs hone hC h
  obtain ⟨c0, rfl⟩ := len1 hl
  obtain ⟨y0, k0⟩ := hF 0 f0 c0 rfl rfl
  obtain ⟨a0, q0, w0⟩ := h0 k0
  exact ⟨mk a0, by show d0.K w (f (mk a0)) [c0]; rw [hf]; exact q0, by show W0 (f (mk a0)); rw [hf]; exact w0⟩
theorem op_struct2 {α β S : Type} {d0 : Kd α} {d1 : Kd β} {W0 : α → Prop} {W1 : β → Prop} {f0 f1 : Field} {f : S → α × β} (mk : α → β → S) (hf : ∀ a b, f (mk a b) = (a, b))
    (hs : P.underlying t = some (.struct #[f0, f1])) (hone : oneCellFields P #[f0, f1] = true) (hC : P.cellsOf t = 2) (h0 : Op P f0.type d0 W0) (h1 : Op P f1.type d1 W1) :
    Op P t (Kd.iso (Kd.pair d0 d1) f) (fun x => W0 (f x).1 ∧ W1 (f x).2) := by
  intro H enc w base spare held fuel cs x h
  obtain ⟨hl, n, hF⟩ := fields_of hs hone hC h
  obtain ⟨c0, c1, rfl⟩ := len2 hl
  obtain ⟨y0, k0⟩ := hF 0 f0 c0 rfl rfl
  obtain ⟨y1, k1⟩ := hF 1 f1 c1 rfl rfl
  obtain ⟨a0, q0, w0⟩ := h0 k0
  obtain ⟨a1, q1, w1⟩ := h1 k1
  exact ⟨mk a0 a1, ⟨[c0], [c1], rfl, by rw [hf]; exact q0, by rw [hf]; exact q1⟩, by dsimp only; rw [hf]; exact ⟨w0, w1⟩⟩
theorem op_struct3 {α β γ S : Type} {d0 : Kd α} {d1 : Kd β} {d2 : Kd γ} {W0 : α → Prop} {W1 : β → Prop} {W2 : γ → Prop} {f0 f1 f2 : Field} {f : S → α × β × γ} (mk : α → β → γ → S) (hf : ∀ a b c, f (mk a b c) = (a, b, c))
    (hs : P.underlying t = some (.struct #[f0, f1, f2])) (hone : oneCellFields P #[f0, f1, f2] = true) (hC : P.cellsOf t = 3) (h0 : Op P f0.type d0 W0) (h1 : Op P f1.type d1 W1) (h2 : Op P f2.type d2 W2) :
    Op P t (Kd.iso (Kd.pair d0 (Kd.pair d1 d2)) f) (fun x => W0 (f x).1 ∧ W1 (f x).2.1 ∧ W2 (f x).2.2) := by
  intro H enc w base spare held fuel cs x h
  obtain ⟨hl, n, hF⟩ := fields_of hs hone hC h
  obtain ⟨c0, c1, c2, rfl⟩ := len3 hl
  obtain ⟨y0, k0⟩ := hF 0 f0 c0 rfl rfl
  obtain ⟨y1, k1⟩ := hF 1 f1 c1 rfl rfl
  obtain ⟨y2, k2⟩ := hF 2 f2 c2 rfl rfl
  obtain ⟨a0, q0, w0⟩ := h0 k0
  obtain ⟨a1, q1, w1⟩ := h1 k1
  obtain ⟨a2, q2, w2⟩ := h2 k2
  exact ⟨mk a0 a1 a2, ⟨[c0], [c1, c2], rfl, by rw [hf]; exact q0, [c1], [c2], rfl, by rw [hf]; exact q1, by rw [hf]; exact q2⟩, by dsimp only; rw [hf]; exact ⟨w0, w1, w2⟩⟩
theorem op_struct4 {α β γ δ S : Type} {d0 : Kd α} {d1 : Kd β} {d2 : Kd γ} {d3 : Kd δ} {W0 : α → Prop} {W1 : β → Prop} {W2 : γ → Prop} {W3 : δ → Prop} {f0 f1 f2 f3 : Field} {f : S → α × β × γ × δ} (mk : α → β → γ → δ → S) (hf : ∀ a b c d, f (mk a b c d) = (a, b, c, d))
    (hs : P.underlying t = some (.struct #[f0, f1, f2, f3])) (hone : oneCellFields P #[f0, f1, f2, f3] = true) (hC : P.cellsOf t = 4) (h0 : Op P f0.type d0 W0) (h1 : Op P f1.type d1 W1) (h2 : Op P f2.type d2 W2) (h3 : Op P f3.type d3 W3) :
    Op P t (Kd.iso (Kd.pair d0 (Kd.pair d1 (Kd.pair d2 d3))) f) (fun x => W0 (f x).1 ∧ W1 (f x).2.1 ∧ W2 (f x).2.2.1 ∧ W3 (f x).2.2.2) := by
  intro H enc w base spare held fuel cs x h
  obtain ⟨hl, n, hF⟩ := fields_of hs hone hC h
  obtain ⟨c0, c1, c2, c3, rfl⟩ := len4 hl
  obtain ⟨y0, k0⟩ := hF 0 f0 c0 rfl rfl
  obtain ⟨y1, k1⟩ := hF 1 f1 c1 rfl rfl
  obtain ⟨y2, k2⟩ := hF 2 f2 c2 rfl rfl
  obtain ⟨y3, k3⟩ := hF 3 f3 c3 rfl rfl
  obtain ⟨a0, q0, w0⟩ := h0 k0
  obtain ⟨a1, q1, w1⟩ := h1 k1
  obtain ⟨a2, q2, w2⟩ := h2 k2
  obtain ⟨a3, q3, w3⟩ := h3 k3
  exact ⟨mk a0 a1 a2 a3, ⟨[c0], [c1, c2, c3], rfl, by rw [hf]; exact q0, [c1], [c2, c3], rfl, by rw [hf]; exact q1, [c2], [c3], rfl, by rw [hf]; exact q2, by rw [hf]; exact q3⟩, by dsimp only; rw [hf]; exact ⟨w0, w1, w2, w3⟩⟩

/-- A struct's value, by its list of cells. -/
theorem agg_of {cs : Array Value} {l : List Value} (h : cs.toList = l) : cs = l.toArray := by
  cases cs
  simp at h
  simp [h]
end Go.Proofs.Ytoddejmlcnbdmaa.OpenA
namespace Go.Proofs.Ytoddejmlcnbdmaa.fnExactRangeOf
open Go.ChangeShapes Go.WideShapes Go.ChangeAt Go.RowKit Go.Proofs.Ytoddejmlcnbdmaa.Fn Go.Proofs.YtoddejmlcnbdmaaW.PrintWords Go.Proofs.Ytoddejmlcnbdmaa.OpenA
open Go.ChangeMaps (open_string shut_string)
set_option linter.unusedVariables false
theorem own : ownKnob Try.prog.godebug = none := by kernel_rfl
theorem laidOut : laidOutB Try.prog = true := by kernel_rfl
theorem op115 : OpenA.Op Try.prog 115 k115 (fun x => ((x.f0.length ≤ maxLen ∧ ∀ y43 ∈ x.f0, y43.size ≤ maxLen) ∧ (x.f1.length ≤ maxLen ∧ ∀ y44 ∈ x.f1, y44.size ≤ maxLen) ∧ (x.f2.length ≤ maxLen ∧ ∀ y45 ∈ x.f2, (Lit.int .i64 y45).wf = true))) := op_struct3 (f := fun x : S115 => (x.f0, x.f1, x.f2)) S115.mk (fun _ _ _ => rfl) Try.underlying115 (by kernel_rfl) (by kernel_rfl) (op_slice Try.underlying38 (by kernel_rfl) (op_string Try.underlying9)) (op_slice Try.underlying38 (by kernel_rfl) (op_string Try.underlying9)) (op_slice Try.underlying108 (by kernel_rfl) (op_int Try.underlying3))
set_option maxRecDepth 100000 in
theorem lifted (os : Os) (started : os.Started) (H : Type) (enc : TypeId × Value → H) :
    ReturnsInHanded {} Try.checked os 9 .any (Rows.fnExactRangeOfSpec.pre6 enc Try.prog Try.f9 Rows.fnExactRangeOfRow.domain false) (Rows.fnExactRangeOfSpec.post enc Try.prog Try.f9 false true false false) := by
  refine returnsInHanded_of_change_sized (C := Try.checked) own started (by kernel_rfl) Try.func9
    (ChangeSpec.witness6 (enc := enc) (C := Try.checked) false ⟨#[], #[.agg #[.slice none 0 0], .string ByteArray.empty, .string ByteArray.empty], []⟩ 8 (by kernel_rfl) (by kernel_rfl) (by kernel_rfl) (by kernel_rfl)) ?_
  intro W base args ds gs before hval0 hW hcnd hsz0 _
  have hsz : (DataW.weightsEach Try.prog (Try.f9.params.toList ++ Rows.fnExactRangeOfSpec.plain.varTypes Try.prog) (ds ++ gs)).all (· ≤ reachBytes) = true := hsz0
  have hval : ∀ (j : Nat) t v, Try.f9.params[j]? = some t → args[j]? = some v → Value.okWide Try.prog W .any base t v := hval0
  have hW' := hW
  obtain ⟨p, q, hA0, hV, rfl, hfz, hnd⟩ := hW
  have hA : DataW.TrodAll enc Try.prog W 0 (fun _ => true) true Try.f9.params.toList args.toList ds p := hA0
  rw [Try.params9] at hA hval hsz
  obtain ⟨v0, vs0, d0, ds0, p0, q0, hargs, rfl, rfl, h0, r0⟩ := trodAll_cons hA
  obtain ⟨v1, vs1, d1, ds1, p1, q1, rfl, rfl, rfl, h1, r1⟩ := trodAll_cons r0
  obtain ⟨v2, vs2, d2, ds2, p2, q2, rfl, rfl, rfl, h2, r2⟩ := trodAll_cons r1
  obtain ⟨rfl, rfl, rfl⟩ := trodAll_nil r2
  obtain rfl : args = #[v0, v1, v2] := by cases args; simp_all
  obtain ⟨rfl, rfl⟩ := trodVars_none hV
  obtain ⟨cs0, rfl, hz0⟩ := okWide_struct Try.underlying24 (hval 0 24 v0 rfl rfl)
  have k0 := h0
  have lt0 : ∀ x ∈ p0, x.block < W.heap.size := by obtain ⟨m, hm⟩ := k0; exact DataW.trod_lt m _ _ _ hm
  obtain ⟨fuel0, hf0⟩ := h0
  obtain ⟨hl0, n0, hF0⟩ := fields_of Try.underlying24 (by kernel_rfl) (by kernel_rfl) hf0
  obtain ⟨c0_0, e0⟩ := len1 hl0
  have e0' := agg_of (cs := cs0) (by simpa [Value.cells] using e0)
  obtain ⟨y0_0, k0_0⟩ := hF0 0 _ c0_0 rfl (by rw [e0]; rfl)
  obtain ⟨a0_0, q0_0, w0_0⟩ := (op_slice Try.underlying22 (by kernel_rfl) op115) k0_0
  obtain ⟨A0_0, b0_0, g0_0, hc0_0, hr0_0⟩ := q0_0
  obtain rfl := (List.cons.inj g0_0).1
  clear hF0
  subst e0'
  obtain ⟨a1, rfl, rfl, rfl, y1⟩ := open_string Try.underlying9 (hval 1 9 v1 rfl rfl) h1
  have w1 : a1.size ≤ 140737488351232 := by
    have z := sized_string hsz (j := 1) (t := 9) rfl rfl
    rw [Array.length_toList] at z
    exact z
  obtain ⟨a2, rfl, rfl, rfl, y2⟩ := open_string Try.underlying9 (hval 2 9 v2 rfl rfl) h2
  have w2 : a2.size ≤ 140737488351232 := by
    have z := sized_string hsz (j := 2) (t := 9) rfl rfl
    rw [Array.length_toList] at z
    exact z
  clear hA0 hval0 hsz0 hsz
  obtain ⟨k, h⟩ := Pure.FnExactRangeOf a0_0 a1 a2 w0_0 w1 w2
  refine (laws_FnExactRangeOf.calls k _ _ a0_0 a1 a2 true W hr0_0 hc0_0 h rfl).mono fun e W' ⟨he, bel0⟩ => ?_
  have bel : Below W.heap.size W W' := bel0
  subst he
  exact ⟨_, rfl, _, _, _, [], _, [], hW', trodAll_mk1 (shut_bool Try.underlying4 _), (trodAll_cons_mk (Below.trod laidOut (by kernel_rfl) (of_decide_eq_true (by kernel_rfl)) k0 bel lt0) (trodAll_cons_mk (shut_string Try.underlying9 y1) (trodAll_cons_mk (shut_string Try.underlying9 y2) trodAll_mk0))), rfl, bel.frame _, fun h => by cases h⟩
theorem over : Rows.fnExactRangeOfRow.holds Try.pinned (OpenSpec.ofChange Rows.fnExactRangeOfSpec) :=
  OpenClaim.holds_of_wide 9 Try.f9 rfl rfl rfl rfl rfl rfl rfl ⟨rfl, rfl, rfl, rfl, rfl⟩ rfl rfl rfl rfl rfl (by kernel_rfl) Try.func9 (by kernel_rfl)
    (of_decide_eq_true (by kernel_rfl)) (by unfold Func.isWrapper; first | (rw [if_pos (by decide +kernel)]; kernel_rfl) | (rw [if_neg (by decide +kernel)]; exact ⟨rfl, rfl⟩))
    (fun os started H enc _ => lifted os started H enc)
theorem proved : Rows.FnExactRangeOfSaid := over
#print axioms proved
end Go.Proofs.Ytoddejmlcnbdmaa.fnExactRangeOf
namespace Go.Proofs.Ytoddejmlcnbdmaa
/-- The row, under a short name, for the claim. -/
theorem fnExactRangeOf_holds : Rows.FnExactRangeOfSaid := fnExactRangeOf.proved
end Go.Proofs.Ytoddejmlcnbdmaa
