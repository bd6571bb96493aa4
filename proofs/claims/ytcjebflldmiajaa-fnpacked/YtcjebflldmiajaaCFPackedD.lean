/- The law FnPacked holds of the given program: at every input it answers true and leaves its arguments as they were; no condition. This text: part 4 of what its proof reaches. -/
import Derived.Test.YtcjebflldmiajaaQWLast
import Derived.Test.YtcjebflldmiajaaQWMore
import Derived.Test.YtcjebflldmiajaaQWWords
import Derived.OpenShut
import Derived.WideShapes
import Derived.Lib.Strings
import Derived.Laws.BitsLemmas
import Derived.Laws.BytesArg
import Derived.Test.YtcjebflldmiajaaCFPackedA
import Derived.Test.YtcjebflldmiajaaCFPackedB
import Derived.Test.YtcjebflldmiajaaCFPackedC
namespace Go.Proofs.Ytcjebflldmiajaa.Fn
open Go.RowKit Go.Proofs.YtcjebflldmiajaaW.PrintWords Go.Proofs.YtcjebflldmiajaaW.PrintLast Go.Proofs.YtcjebflldmiajaaW.PrintMore
attribute [local go_sem] max2_int min2_int max_two min_two max_three min_three max_four min_four   -- for this text's walks alone
set_option linter.unusedVariables false
set_option linter.unusedSimpArgs false

/-! ### spec_DrawLowFor: function 39 -/
def spec_DrawLowFor.f (l0 : List Int) : Option (Int × Int) := (spec_l1Cur_among.f l0 0 0 (([(-1), 0, 1, 3, 10, 60, 61] : List Int))).bind fun bt825 => ((spec_l1Cur_among.f l0 bt825.2.1 bt825.2.2 (([(-1), 0, 1, 7, 100, 10000, 10001] : List Int))).bind fun bt831 => (some (bt825.1, bt831.1)))
set_option maxHeartbeats 8000000 in
set_option maxRecDepth 100000 in
theorem spec_DrawLowFor.calls (A0 : Option Addr) (c0 : Nat) (l0 : List Int) (r1 : Int) (r2 : Int) (w : World) (hr0 : Kd.C (Kd.int .u8) w A0 l0.length l0) (hc0 : l0.length ≤ c0) (h : spec_DrawLowFor.f l0 = some (r1, r2)) :
    Calls Try.prog 39 #[.slice A0 l0.length c0] w fun e w' => e = .returned (.tuple #[.int .i64 r1, .int .i64 r2]) ∧ Below w.heap.size w w' := by
  have hu73 := Try.underlying73
  have HR0 := Aside0.mk hr0
  have HC0 := Aside0.mk hc0
  clear hr0 hc0
  have HB := Aside0.mk (Below.refl w.heap.size w)
  have H : ((spec_l1Cur_among.f l0 0 0 (([(-1), 0, 1, 3, 10, 60, 61] : List Int))).bind fun bt825 => ((spec_l1Cur_among.f l0 bt825.2.1 bt825.2.2 (([(-1), 0, 1, 7, 100, 10000, 10001] : List Int))).bind fun bt831 => (some (bt825.1, bt831.1)))) = some (r1, r2) := h
  clear h
  obtain ⟨y822, hy822⟩ : ∃ y_ : List Int, y_ = (([(-1), 0, 1, 3, 10, 60, 61] : List Int)) := ⟨_, rfl⟩
  replace H : ((spec_l1Cur_among.f l0 0 0 y822).bind fun bt825 => ((spec_l1Cur_among.f l0 bt825.2.1 bt825.2.2 (([(-1), 0, 1, 7, 100, 10000, 10001] : List Int))).bind fun bt831 => (some (bt825.1, bt831.1)))) = some (r1, r2) := by first | (rw [hy822]; with_reducible exact H) | (have H2_ := (Option.bind_some _ _).symm.trans H; rw [hy822]; with_reducible exact H2_) | (have H2_ := (Option.bind_some _ _).symm.trans H; with_reducible exact H2_) | with_reducible exact H | (rw [hy822]; exact H) | exact H
  have Ny822 := Aside0.mk hy822
  clear hy822
  replace H := Option.bind_eq_some_iff.mp H
  obtain ⟨⟨t825, t826, t827⟩, A20, H⟩ := H
  replace H : ((spec_l1Cur_among.f l0 t826 t827 (([(-1), 0, 1, 7, 100, 10000, 10001] : List Int))).bind fun bt831 => (some (t825, bt831.1))) = some (r1, r2) := H
  have A2 := Aside0.mk A20
  clear A20
  obtain ⟨y828, hy828⟩ : ∃ y_ : List Int, y_ = (([(-1), 0, 1, 7, 100, 10000, 10001] : List Int)) := ⟨_, rfl⟩
  replace H : ((spec_l1Cur_among.f l0 t826 t827 y828).bind fun bt831 => (some (t825, bt831.1))) = some (r1, r2) := by first | (rw [hy828]; with_reducible exact H) | (have H2_ := (Option.bind_some _ _).symm.trans H; rw [hy828]; with_reducible exact H2_) | (have H2_ := (Option.bind_some _ _).symm.trans H; with_reducible exact H2_) | with_reducible exact H | (rw [hy828]; exact H) | exact H
  have Ny828 := Aside0.mk hy828
  clear hy828
  replace H := Option.bind_eq_some_iff.mp H
  obtain ⟨⟨t831, t832, t833⟩, A30, H⟩ := H
  replace H : (some (t825, t831)) = some (r1, r2) := H
  have A3 := Aside0.mk A30
  clear A30
  simp only [Option.some.injEq, Prod.mk.injEq] at H
  obtain ⟨rfl, rfl⟩ := H
  go_enter Try.func39, Try.ntmps39
  go_wp2_with (first | ((with_reducible refine gate_dst (N := 7) rfl ?_); refine box_event ?hg (N := 7) ?hd (cs := #[.slice A0 l0.length c0, .int .i64 0, .int .u64 0]) (t := 73) ?hr ?_; (case hd => rfl); (case hg => rfl); (case hr => first | (go_simp; done) | (go_simp; rfl)); intro gb821 hg w4 hbox hb; have n0_ := Aside0.mk (below_step (by repeat (first | (with_reducible first | exact HB.out | apply below_alloc | apply pw_below_drewN | apply below_drew1) | exact HB.out)) hb); have n1_ := Aside0.mk ((⟨_, _, hbox, (by rw [hg]; exact (below_size (by repeat (first | (with_reducible first | exact HB.out | apply below_alloc | apply pw_below_drewN | apply below_drew1) | exact HB.out)))), HR0.out⟩ : IsS73 w w4 gb821 l0 0 0)); have n2_ := Aside0.mk ((by rw [hg]; exact (below_size (by repeat (first | (with_reducible first | exact HB.out | apply below_alloc | apply pw_below_drewN | apply below_drew1) | exact HB.out))) : w.heap.size ≤ gb821)); have n3_ := Aside0.mk ((by rw [hg]; exact (below_size (by repeat (first | (with_reducible first | exact HB.out | apply below_alloc | apply pw_below_drewN | apply below_drew1) | exact HB.out))) : w.heap.size ≤ gb821)); clear HB; have HB := n0_; have HI821 := n1_; have GW821 := n2_; have GE821 := n3_; clear n0_ n1_ n2_ n3_; clear hb hbox hg) | ((with_reducible refine gate_dst (N := 9) rfl ?_); refine Kd.R_lit (Kd.int .i64) _ 3 ?hg (N := 9) ?hd (xs := ([(-1), 0, 1, 3, 10, 60, 61] : List Int)) (inner := [.int .i64 (-1), .int .i64 0, .int .i64 1, .int .i64 3, .int .i64 10, .int .i64 60, .int .i64 61]) (ok := fun _ => True) (okp := fun _ => True) ?hr ?hp (fun _ hk => hk) trivial (Below.refl _ _) (Nat.le_refl _) (by simp) ?_; (case hd => rfl); (case hg => rfl); (case hr => first | (go_simp; done) | (go_simp; rfl)); (case hp => exact (Reps.one (show Kd.M (Kd.int .i64) _ _ _ (-1) [.int .i64 (-1)] from rfl) (Reps.one (show Kd.M (Kd.int .i64) _ _ _ 0 [.int .i64 0] from rfl) (Reps.one (show Kd.M (Kd.int .i64) _ _ _ 1 [.int .i64 1] from rfl) (Reps.one (show Kd.M (Kd.int .i64) _ _ _ 3 [.int .i64 3] from rfl) (Reps.one (show Kd.M (Kd.int .i64) _ _ _ 10 [.int .i64 10] from rfl) (Reps.one (show Kd.M (Kd.int .i64) _ _ _ 60 [.int .i64 60] from rfl) (Reps.one (show Kd.M (Kd.int .i64) _ _ _ 61 [.int .i64 61] from rfl) (Reps.none _ _))))))))); intro v823 w5 ho6 hb hg_ hnew_; clear hg_ hnew_; (first | rw [← Ny822.out] at ho6 | (simp only [Int.reduceToNat] at ho6; rw [← Ny822.out] at ho6)); have n0_ := Aside0.mk (Kd.R_lower ho6 (below_size (by repeat (first | (with_reducible first | exact HB.out | apply below_alloc | apply pw_below_drewN | apply below_drew1 | refine below_set ?_ (IsS73.ge HI821.out)) | exact HB.out)))); have n1_ := Aside0.mk (IsS73.below (by repeat (first | (with_reducible first | exact HI821.out | apply IsS73.alloc | apply IsS73.drewN | apply IsS73.drew | apply IsS73.set_1 | apply IsS73.set_2) | exact HI821.out)) hb); have n2_ := Aside0.mk (below_step (by repeat (first | (with_reducible first | exact HB.out | apply below_alloc | apply pw_below_drewN | apply below_drew1 | refine below_set ?_ (IsS73.ge HI821.out)) | exact HB.out)) hb); clear HI821; clear HB; have HO824 := n0_; have HI821 := n1_; have HB := n2_; clear n0_ n1_ n2_; clear hb ho6; obtain ⟨Ao7, co7, eo7⟩ := Kd.R_slice HO824.out; subst eo7) | ((with_reducible refine gate_callee (f := 68) rfl ?_); refine goesL_ (some 10) rfl rfl Try.func68 (by kernel_rfl) rfl #[.pointer (some ⟨gb821, 0, none⟩), .slice Ao7 y822.length co7] rfl (by (try simp only [List.map_toArray, List.map_cons, List.map_nil]); first | done | rfl | (simp only [List.length_drop, List.length_take]; rfl)) ?_; (with_reducible refine (spec_l1Cur_among.calls gb821 l0 0 0 _ _ y822 t825 t826 t827 w _ ?side1 ?side2 ?side3 ?side4 ?side5 A2.out).mono ?_); (case side1 => repeat (first | (with_reducible first | exact HI821.out | apply IsS73.alloc | apply IsS73.drewN | apply IsS73.drew | apply IsS73.set_1 | apply IsS73.set_2) | exact HI821.out)); (case side2 => repeat (first | (with_reducible first | exact HB.out | apply below_alloc | apply pw_below_drewN | apply below_drew1 | refine below_set ?_ (IsS73.ge HI821.out)) | exact HB.out)); (case side3 => repeat (first | exact (Kd.R_reads' HO824.out).2.2 | (with_reducible refine Kd.C_alloc ?_ _) | (with_reducible refine Kd.C_drewN ?_ _) | (with_reducible refine Kd.C_drew ?_))); (case side4 => exact (Kd.R_reads' HO824.out).2.1); (case side5 => exact far_slice (IsS73.own_ne HI821.out HO824.out (by decide))); rintro e w8 ⟨rfl, hi, hb, hk⟩; refine ⟨_, rfl, ?_⟩; have n0_ := Aside0.mk (Kd.R_mono (Kd.R_keep (IsS73.apart (show IsS73 w _ gb821 l0 0 0 from by repeat (first | (with_reducible first | exact HI821.out | apply IsS73.alloc | apply IsS73.drewN | apply IsS73.drew | apply IsS73.set_1 | apply IsS73.set_2) | exact HI821.out)) (by (with_reducible repeat (first | apply Kd.R_alloc | apply Kd.R_drewN | apply Kd.R_drew)); exact HO824.out) (by decide)) hk (fun _ h => h.2)) (fun _ h => h.1)); have n1_ := Aside0.mk (hb); have n2_ := Aside0.mk (hi); clear HO824; clear HB; clear HI821; have HO824 := n0_; have HB := n1_; have HI821 := n2_; clear n0_ n1_ n2_; (try clear hb); (try clear hb2); (try clear hk); (try clear hi)) | ((with_reducible refine gate_dst (N := 12) rfl ?_); refine Kd.R_lit (Kd.int .i64) _ 3 ?hg (N := 12) ?hd (xs := ([(-1), 0, 1, 7, 100, 10000, 10001] : List Int)) (inner := [.int .i64 (-1), .int .i64 0, .int .i64 1, .int .i64 7, .int .i64 100, .int .i64 10000, .int .i64 10001]) (ok := fun _ => True) (okp := fun _ => True) ?hr ?hp (fun _ hk => hk) trivial (Below.refl _ _) (Nat.le_refl _) (by simp) ?_; (case hd => rfl); (case hg => rfl); (case hr => first | (go_simp; done) | (go_simp; rfl)); (case hp => exact (Reps.one (show Kd.M (Kd.int .i64) _ _ _ (-1) [.int .i64 (-1)] from rfl) (Reps.one (show Kd.M (Kd.int .i64) _ _ _ 0 [.int .i64 0] from rfl) (Reps.one (show Kd.M (Kd.int .i64) _ _ _ 1 [.int .i64 1] from rfl) (Reps.one (show Kd.M (Kd.int .i64) _ _ _ 7 [.int .i64 7] from rfl) (Reps.one (show Kd.M (Kd.int .i64) _ _ _ 100 [.int .i64 100] from rfl) (Reps.one (show Kd.M (Kd.int .i64) _ _ _ 10000 [.int .i64 10000] from rfl) (Reps.one (show Kd.M (Kd.int .i64) _ _ _ 10001 [.int .i64 10001] from rfl) (Reps.none _ _))))))))); intro v829 w9 ho10 hb hg_ hnew_; clear hg_ hnew_; (first | rw [← Ny828.out] at ho10 | (simp only [Int.reduceToNat] at ho10; rw [← Ny828.out] at ho10)); have n0_ := Aside0.mk (Kd.R_elder' (by (with_reducible repeat (first | apply Kd.R_alloc | apply Kd.R_drewN | apply Kd.R_drew)); exact HO824.out) (Kd.R_base ho10) hb); have n1_ := Aside0.mk (Kd.R_lower (Kd.R_new' ho10 (Kd.R_lt (by (with_reducible repeat (first | apply Kd.R_alloc | apply Kd.R_drewN | apply Kd.R_drew)); exact HO824.out))) (below_size (by repeat (first | (with_reducible first | exact HB.out | apply below_alloc | apply pw_below_drewN | apply below_drew1 | refine below_set ?_ (IsS73.ge HI821.out)) | exact HB.out)))); have n2_ := Aside0.mk (IsS73.below (by repeat (first | (with_reducible first | exact HI821.out | apply IsS73.alloc | apply IsS73.drewN | apply IsS73.drew | apply IsS73.set_1 | apply IsS73.set_2) | exact HI821.out)) hb); have n3_ := Aside0.mk (below_step (by repeat (first | (with_reducible first | exact HB.out | apply below_alloc | apply pw_below_drewN | apply below_drew1 | refine below_set ?_ (IsS73.ge HI821.out)) | exact HB.out)) hb); clear HO824; clear HI821; clear HB; have HO824 := n0_; have HO830 := n1_; have HI821 := n2_; have HB := n3_; clear n0_ n1_ n2_ n3_; clear hb ho10; obtain ⟨Ao11, co11, eo11⟩ := Kd.R_slice HO830.out; subst eo11) | ((with_reducible refine gate_callee (f := 68) rfl ?_); refine goesL_ (some 13) rfl rfl Try.func68 (by kernel_rfl) rfl #[.pointer (some ⟨gb821, 0, none⟩), .slice Ao11 y828.length co11] rfl (by (try simp only [List.map_toArray, List.map_cons, List.map_nil]); first | done | rfl | (simp only [List.length_drop, List.length_take]; rfl)) ?_; (with_reducible refine (spec_l1Cur_among.calls gb821 l0 t826 t827 _ _ y828 t831 t832 t833 w _ ?side1 ?side2 ?side3 ?side4 ?side5 A3.out).mono ?_); (case side1 => repeat (first | (with_reducible first | exact HI821.out | apply IsS73.alloc | apply IsS73.drewN | apply IsS73.drew | apply IsS73.set_1 | apply IsS73.set_2) | exact HI821.out)); (case side2 => repeat (first | (with_reducible first | exact HB.out | apply below_alloc | apply pw_below_drewN | apply below_drew1 | refine below_set ?_ (IsS73.ge HI821.out)) | exact HB.out)); (case side3 => repeat (first | exact (Kd.R_reads' HO830.out).2.2 | (with_reducible refine Kd.C_alloc ?_ _) | (with_reducible refine Kd.C_drewN ?_ _) | (with_reducible refine Kd.C_drew ?_))); (case side4 => exact (Kd.R_reads' HO830.out).2.1); (case side5 => exact far_slice (IsS73.own_ne HI821.out HO830.out (by decide))); rintro e w12 ⟨rfl, hi, hb, hk⟩; refine ⟨_, rfl, ?_⟩; have n0_ := Aside0.mk (Kd.R_mono (Kd.R_keep (IsS73.apart (show IsS73 w _ gb821 l0 t826 t827 from by repeat (first | (with_reducible first | exact HI821.out | apply IsS73.alloc | apply IsS73.drewN | apply IsS73.drew | apply IsS73.set_1 | apply IsS73.set_2) | exact HI821.out)) (by (with_reducible repeat (first | apply Kd.R_alloc | apply Kd.R_drewN | apply Kd.R_drew)); exact HO824.out) (by decide)) hk (fun _ h => h.2)) (fun _ h => h.1)); have n1_ := Aside0.mk (Kd.R_mono (Kd.R_keep (IsS73.apart (show IsS73 w _ gb821 l0 t826 t827 from by repeat (first | (with_reducible first | exact HI821.out | apply IsS73.alloc | apply IsS73.drewN | apply IsS73.drew | apply IsS73.set_1 | apply IsS73.set_2) | exact HI821.out)) (by (with_reducible repeat (first | apply Kd.R_alloc | apply Kd.R_drewN | apply Kd.R_drew)); exact HO830.out) (by decide)) hk (fun _ h => h.2)) (fun _ h => h.1)); have n2_ := Aside0.mk (hb); have n3_ := Aside0.mk (hi); clear HO824; clear HO830; clear HB; clear HI821; have HO824 := n0_; have HO830 := n1_; have HB := n2_; have HI821 := n3_; clear n0_ n1_ n2_ n3_; (try clear hb); (try clear hb2); (try clear hk); (try clear hi)))
  go_ret2
  exact ⟨by first | rfl | (simp [errW_none, errW_some] <;> rfl) | (simp [*, errW_none, errW_some] <;> rfl), by repeat (first | (with_reducible first | exact HB.out | apply below_alloc | apply pw_below_drewN | apply below_drew1 | refine below_set ?_ (IsS73.ge HI821.out)) | exact HB.out)⟩

end Go.Proofs.Ytcjebflldmiajaa.Fn
namespace Go.Proofs.Ytcjebflldmiajaa.Fn
open Go.RowKit Go.Proofs.YtcjebflldmiajaaW.PrintWords Go.Proofs.YtcjebflldmiajaaW.PrintLast Go.Proofs.YtcjebflldmiajaaW.PrintMore
attribute [local go_sem] max2_int min2_int max_two min_two max_three min_three max_four min_four   -- for this text's walks alone
set_option linter.unusedVariables false
set_option linter.unusedSimpArgs false

/-! ### impl_LowFor: function 40 -/
def impl_LowFor.f (k : Nat) (a0 : Int) (a1 : Int) : Option (Int × Bool) := (impl_within.f a0 0 60).bind fun t834 => (if t834 = true then ((impl_within.f a1 0 10000).bind fun t835 => (if t835 = true then ((impl_lowFor.f k a0 a1).bind fun t836 => (some (t836, true))) else (some (0, false)))) else (some (0, false)))
theorem impl_LowFor.mono : ∀ a0 a1 k, LeO (impl_LowFor.f k a0 a1) (impl_LowFor.f (k + 1) a0 a1) := by
  intro a0 a1 k
  unfold impl_LowFor.f
  repeat' first
      | (with_reducible exact impl_lowFor.mono _ _ _)
      | (with_reducible exact LeO.refl _)
      | (with_reducible exact LeO.none _)
      | (with_reducible refine LeO.ite ?_ ?_)
      | (with_reducible refine LeO.bind ?_ (fun _ => ?_))
      | exact impl_lowFor.mono _ _ _
      | exact LeO.none _
      | refine LeO.ite ?_ ?_
      | refine LeO.bind ?_ (fun _ => ?_)
set_option maxHeartbeats 8000000 in
set_option maxRecDepth 100000 in
theorem impl_LowFor.calls (k : Nat) (a0 : Int) (a1 : Int) (r1 : Int) (r2 : Bool) (w : World) (h : impl_LowFor.f k a0 a1 = some (r1, r2)) :
    Calls Try.prog 40 #[.int .i64 a0, .int .i64 a1] w fun e w' => e = .returned (.tuple #[.int .i64 r1, .bool r2]) ∧ Drawn0 w w' := by
  have H : ((impl_within.f a0 0 60).bind fun t834 => (if t834 = true then ((impl_within.f a1 0 10000).bind fun t835 => (if t835 = true then ((impl_lowFor.f k a0 a1).bind fun t836 => (some (t836, true))) else (some (0, false)))) else (some (0, false)))) = some (r1, r2) := h
  clear h
  replace H := Option.bind_eq_some_iff.mp H
  obtain ⟨t834, A30, H⟩ := H
  replace H : (if t834 = true then ((impl_within.f a1 0 10000).bind fun t835 => (if t835 = true then ((impl_lowFor.f k a0 a1).bind fun t836 => (some (t836, true))) else (some (0, false)))) else (some (0, false))) = some (r1, r2) := H
  have A3 := Aside0.mk A30
  clear A30
  by_cases c4 : t834 = true
  · subst c4
    have H1 : ((impl_within.f a1 0 10000).bind fun t835 => (if t835 = true then ((impl_lowFor.f k a0 a1).bind fun t836 => (some (t836, true))) else (some (0, false)))) = some (r1, r2) := by rw [if_pos rfl] at H; exact H
    clear H
    have H := H1
    clear H1
    replace H := Option.bind_eq_some_iff.mp H
    obtain ⟨t835, A50, H⟩ := H
    replace H : (if t835 = true then ((impl_lowFor.f k a0 a1).bind fun t836 => (some (t836, true))) else (some (0, false))) = some (r1, r2) := H
    have A5 := Aside0.mk A50
    clear A50
    by_cases c6 : t835 = true
    · subst c6
      have H1 : ((impl_lowFor.f k a0 a1).bind fun t836 => (some (t836, true))) = some (r1, r2) := by rw [if_pos rfl] at H; exact H
      clear H
      have H := H1
      clear H1
      replace H := Option.bind_eq_some_iff.mp H
      obtain ⟨t836, A70, H⟩ := H
      replace H : (some (t836, true)) = some (r1, r2) := H
      have A7 := Aside0.mk A70
      clear A70
      simp only [Option.some.injEq, Prod.mk.injEq] at H
      obtain ⟨rfl, rfl⟩ := H
      go_enter Try.func40, Try.ntmps40
      go_wp2_with (first | ((with_reducible refine gate_callee (f := 58) rfl ?_); refine goesL_ (some 7) rfl rfl Try.func58 (by kernel_rfl) rfl #[.int .i64 a0, .int .i64 0, .int .i64 60] rfl (by (try simp only [List.map_toArray, List.map_cons, List.map_nil]); first | done | rfl | (simp only [List.length_drop, List.length_take]; rfl)) ?_; (with_reducible refine (impl_within.calls a0 0 60 true _ A3.out).mono ?_); rintro e w' ⟨rfl, ⟨nd, rfl⟩⟩; refine ⟨_, rfl, ?_⟩) | (go_at_call 58; (with_reducible refine (impl_within.calls a1 0 10000 true _ A5.out).mono ?_); rintro e w' ⟨rfl, ⟨nd, rfl⟩⟩) | ((with_reducible refine gate_callee (f := 69) rfl ?_); refine goesL_ (some 16) rfl rfl Try.func69 (by kernel_rfl) rfl #[.int .i64 a0, .int .i64 a1] rfl (by (try simp only [List.map_toArray, List.map_cons, List.map_nil]); first | done | rfl | (simp only [List.length_drop, List.length_take]; rfl)) ?_; (with_reducible refine (impl_lowFor.calls k a0 a1 t836 _ A7.out).mono ?_); rintro e w' ⟨rfl, ⟨nd, rfl⟩⟩; refine ⟨_, rfl, ?_⟩))
      go_ret2
      exact ⟨by first | rfl | (simp; done) | (simp [*]; done), by repeat (first | exact Drawn0.refl _ | apply Drawn0.step)⟩
    · replace c6 := Bool.eq_false_iff.mpr c6
      subst c6
      have H1 : (some (0, false)) = some (r1, r2) := by rw [if_neg (show ¬ (false = true) by decide)] at H; exact H
      clear H
      have H := H1
      clear H1
      simp only [Option.some.injEq, Prod.mk.injEq] at H
      obtain ⟨rfl, rfl⟩ := H
      go_enter Try.func40, Try.ntmps40
      go_wp2_with (first | ((with_reducible refine gate_callee (f := 58) rfl ?_); refine goesL_ (some 7) rfl rfl Try.func58 (by kernel_rfl) rfl #[.int .i64 a0, .int .i64 0, .int .i64 60] rfl (by (try simp only [List.map_toArray, List.map_cons, List.map_nil]); first | done | rfl | (simp only [List.length_drop, List.length_take]; rfl)) ?_; (with_reducible refine (impl_within.calls a0 0 60 true _ A3.out).mono ?_); rintro e w' ⟨rfl, ⟨nd, rfl⟩⟩; refine ⟨_, rfl, ?_⟩) | (go_at_call 58; (with_reducible refine (impl_within.calls a1 0 10000 false _ A5.out).mono ?_); rintro e w' ⟨rfl, ⟨nd, rfl⟩⟩))
      go_ret2
      exact ⟨by first | rfl | (simp; done) | (simp [*]; done), by repeat (first | exact Drawn0.refl _ | apply Drawn0.step)⟩
  · replace c4 := Bool.eq_false_iff.mpr c4
    subst c4
    have H1 : (some (0, false)) = some (r1, r2) := by rw [if_neg (show ¬ (false = true) by decide)] at H; exact H
    clear H
    have H := H1
    clear H1
    simp only [Option.some.injEq, Prod.mk.injEq] at H
    obtain ⟨rfl, rfl⟩ := H
    go_enter Try.func40, Try.ntmps40
    go_wp2_with (first | ((with_reducible refine gate_callee (f := 58) rfl ?_); refine goesL_ (some 7) rfl rfl Try.func58 (by kernel_rfl) rfl #[.int .i64 a0, .int .i64 0, .int .i64 60] rfl (by (try simp only [List.map_toArray, List.map_cons, List.map_nil]); first | done | rfl | (simp only [List.length_drop, List.length_take]; rfl)) ?_; (with_reducible refine (impl_within.calls a0 0 60 false _ A3.out).mono ?_); rintro e w' ⟨rfl, ⟨nd, rfl⟩⟩; refine ⟨_, rfl, ?_⟩))
    go_ret2
    exact ⟨by first | rfl | (simp; done) | (simp [*]; done), by repeat (first | exact Drawn0.refl _ | apply Drawn0.step)⟩

end Go.Proofs.Ytcjebflldmiajaa.Fn
namespace Go.Proofs.Ytcjebflldmiajaa.Fn
open Go.RowKit Go.Proofs.YtcjebflldmiajaaW.PrintWords Go.Proofs.YtcjebflldmiajaaW.PrintLast Go.Proofs.YtcjebflldmiajaaW.PrintMore
attribute [local go_sem] max2_int min2_int max_two min_two max_three min_three max_four min_four   -- for this text's walks alone
set_option linter.unusedVariables false
set_option linter.unusedSimpArgs false

/-! ### spec_LowFor: function 41 -/
def spec_LowFor.f (k : Nat) (a0 : Int) (a1 : Int) : Option (Int × Bool) := (spec_l1In.f a0 0 60).bind fun t837 => (if t837 = true then ((spec_l1In.f a1 0 10000).bind fun t838 => (if t838 = true then ((spec_l8Low.f k a0 a1).bind fun t839 => (some (t839, true))) else (some (0, false)))) else (some (0, false)))
theorem spec_LowFor.mono : ∀ a0 a1 k, LeO (spec_LowFor.f k a0 a1) (spec_LowFor.f (k + 1) a0 a1) := by
  intro a0 a1 k
  unfold spec_LowFor.f
  repeat' first
      | (with_reducible exact spec_l8Low.mono _ _ _)
      | (with_reducible exact LeO.refl _)
      | (with_reducible exact LeO.none _)
      | (with_reducible refine LeO.ite ?_ ?_)
      | (with_reducible refine LeO.bind ?_ (fun _ => ?_))
      | exact spec_l8Low.mono _ _ _
      | exact LeO.none _
      | refine LeO.ite ?_ ?_
      | refine LeO.bind ?_ (fun _ => ?_)
set_option maxHeartbeats 8000000 in
set_option maxRecDepth 100000 in
theorem spec_LowFor.calls (k : Nat) (a0 : Int) (a1 : Int) (r1 : Int) (r2 : Bool) (w : World) (h : spec_LowFor.f k a0 a1 = some (r1, r2)) :
    Calls Try.prog 41 #[.int .i64 a0, .int .i64 a1] w fun e w' => e = .returned (.tuple #[.int .i64 r1, .bool r2]) ∧ Drawn0 w w' := by
  have H : ((spec_l1In.f a0 0 60).bind fun t837 => (if t837 = true then ((spec_l1In.f a1 0 10000).bind fun t838 => (if t838 = true then ((spec_l8Low.f k a0 a1).bind fun t839 => (some (t839, true))) else (some (0, false)))) else (some (0, false)))) = some (r1, r2) := h
  clear h
  replace H := Option.bind_eq_some_iff.mp H
  obtain ⟨t837, A30, H⟩ := H
  replace H : (if t837 = true then ((spec_l1In.f a1 0 10000).bind fun t838 => (if t838 = true then ((spec_l8Low.f k a0 a1).bind fun t839 => (some (t839, true))) else (some (0, false)))) else (some (0, false))) = some (r1, r2) := H
  have A3 := Aside0.mk A30
  clear A30
  by_cases c4 : t837 = true
  · subst c4
    have H1 : ((spec_l1In.f a1 0 10000).bind fun t838 => (if t838 = true then ((spec_l8Low.f k a0 a1).bind fun t839 => (some (t839, true))) else (some (0, false)))) = some (r1, r2) := by rw [if_pos rfl] at H; exact H
    clear H
    have H := H1
    clear H1
    replace H := Option.bind_eq_some_iff.mp H
    obtain ⟨t838, A50, H⟩ := H
    replace H : (if t838 = true then ((spec_l8Low.f k a0 a1).bind fun t839 => (some (t839, true))) else (some (0, false))) = some (r1, r2) := H
    have A5 := Aside0.mk A50
    clear A50
    by_cases c6 : t838 = true
    · subst c6
      have H1 : ((spec_l8Low.f k a0 a1).bind fun t839 => (some (t839, true))) = some (r1, r2) := by rw [if_pos rfl] at H; exact H
      clear H
      have H := H1
      clear H1
      replace H := Option.bind_eq_some_iff.mp H
      obtain ⟨t839, A70, H⟩ := H
      replace H : (some (t839, true)) = some (r1, r2) := H
      have A7 := Aside0.mk A70
      clear A70
      simp only [Option.some.injEq, Prod.mk.injEq] at H
      obtain ⟨rfl, rfl⟩ := H
      go_enter Try.func41, Try.ntmps41
      go_wp2_with (first | ((with_reducible refine gate_callee (f := 59) rfl ?_); refine goesL_ (some 7) rfl rfl Try.func59 (by kernel_rfl) rfl #[.int .i64 a0, .int .i64 0, .int .i64 60] rfl (by (try simp only [List.map_toArray, List.map_cons, List.map_nil]); first | done | rfl | (simp only [List.length_drop, List.length_take]; rfl)) ?_; (with_reducible refine (spec_l1In.calls a0 0 60 true _ A3.out).mono ?_); rintro e w' ⟨rfl, ⟨nd, rfl⟩⟩; refine ⟨_, rfl, ?_⟩) | (go_at_call 59; (with_reducible refine (spec_l1In.calls a1 0 10000 true _ A5.out).mono ?_); rintro e w' ⟨rfl, ⟨nd, rfl⟩⟩) | ((with_reducible refine gate_callee (f := 70) rfl ?_); refine goesL_ (some 16) rfl rfl Try.func70 (by kernel_rfl) rfl #[.int .i64 a0, .int .i64 a1] rfl (by (try simp only [List.map_toArray, List.map_cons, List.map_nil]); first | done | rfl | (simp only [List.length_drop, List.length_take]; rfl)) ?_; (with_reducible refine (spec_l8Low.calls k a0 a1 t839 _ A7.out).mono ?_); rintro e w' ⟨rfl, ⟨nd, rfl⟩⟩; refine ⟨_, rfl, ?_⟩))
      go_ret2
      exact ⟨by first | rfl | (simp; done) | (simp [*]; done), by repeat (first | exact Drawn0.refl _ | apply Drawn0.step)⟩
    · replace c6 := Bool.eq_false_iff.mpr c6
      subst c6
      have H1 : (some (0, false)) = some (r1, r2) := by rw [if_neg (show ¬ (false = true) by decide)] at H; exact H
      clear H
      have H := H1
      clear H1
      simp only [Option.some.injEq, Prod.mk.injEq] at H
      obtain ⟨rfl, rfl⟩ := H
      go_enter Try.func41, Try.ntmps41
      go_wp2_with (first | ((with_reducible refine gate_callee (f := 59) rfl ?_); refine goesL_ (some 7) rfl rfl Try.func59 (by kernel_rfl) rfl #[.int .i64 a0, .int .i64 0, .int .i64 60] rfl (by (try simp only [List.map_toArray, List.map_cons, List.map_nil]); first | done | rfl | (simp only [List.length_drop, List.length_take]; rfl)) ?_; (with_reducible refine (spec_l1In.calls a0 0 60 true _ A3.out).mono ?_); rintro e w' ⟨rfl, ⟨nd, rfl⟩⟩; refine ⟨_, rfl, ?_⟩) | (go_at_call 59; (with_reducible refine (spec_l1In.calls a1 0 10000 false _ A5.out).mono ?_); rintro e w' ⟨rfl, ⟨nd, rfl⟩⟩))
      go_ret2
      exact ⟨by first | rfl | (simp; done) | (simp [*]; done), by repeat (first | exact Drawn0.refl _ | apply Drawn0.step)⟩
  · replace c4 := Bool.eq_false_iff.mpr c4
    subst c4
    have H1 : (some (0, false)) = some (r1, r2) := by rw [if_neg (show ¬ (false = true) by decide)] at H; exact H
    clear H
    have H := H1
    clear H1
    simp only [Option.some.injEq, Prod.mk.injEq] at H
    obtain ⟨rfl, rfl⟩ := H
    go_enter Try.func41, Try.ntmps41
    go_wp2_with (first | ((with_reducible refine gate_callee (f := 59) rfl ?_); refine goesL_ (some 7) rfl rfl Try.func59 (by kernel_rfl) rfl #[.int .i64 a0, .int .i64 0, .int .i64 60] rfl (by (try simp only [List.map_toArray, List.map_cons, List.map_nil]); first | done | rfl | (simp only [List.length_drop, List.length_take]; rfl)) ?_; (with_reducible refine (spec_l1In.calls a0 0 60 false _ A3.out).mono ?_); rintro e w' ⟨rfl, ⟨nd, rfl⟩⟩; refine ⟨_, rfl, ?_⟩))
    go_ret2
    exact ⟨by first | rfl | (simp; done) | (simp [*]; done), by repeat (first | exact Drawn0.refl _ | apply Drawn0.step)⟩

end Go.Proofs.Ytcjebflldmiajaa.Fn
namespace Go.Proofs.Ytcjebflldmiajaa.Gen
open Go.RowKit Go.Proofs.YtcjebflldmiajaaW.PrintLast Go.Proofs.YtcjebflldmiajaaW.PrintWords

theorem no_true {o : Option Bool} {r : Bool} (h : o = some r) (hf : o = none ∨ o = some false) (ht : r = true) : False := by
  subst ht
  rcases hf with hf | hf <;> rw [hf] at h <;> simp at h

section
variable {P : Program} {ops : Array Oper} {Q : Exit → Act → World → Prop}
/-- The operation is a call through a slot. -/
theorem gateV {rest : List Oper} {o : Oper} {a : Act} {W : World} {t : Tmp} {xa : Array Operand} {ts : Array TypeId} (_ho : o.op = .call { callee := .value (.tmp t), args := xa, argTypes := ts }) (h : wpList P ops Q (o :: rest) a W) : wpList P ops Q (o :: rest) a W := h
theorem goesV_ {rest : List Oper} {oi : Oper} {a : Act} {w : World} (N : Option Tmp) (hd : oi.dst = N) (hg : oi.guard = none) {f : FuncId} {fn : Func} {t : Tmp} {xa : Array Operand} {ts : Array TypeId} (hf : P.funcs[f]? = some fn) (hname : (fn.name == "runtime.NumGoroutine") = false) (hb : fn.body.isSome = true) (args : Array Value)
    (hop : oi.op = .call { callee := .value (.tmp t), args := xa, argTypes := ts }) (hargs : xa.map a.eval = args) 
    (h : Calls P f args w fun e w' => ∃ v, e = .returned v ∧ wpList P ops Q rest (a.put N v) w') (hv : a.eval (.tmp t) = .func (.func f) #[] #[] := by rfl) : wpList P ops Q (oi :: rest) a w := by
  refine wpList_plain hg fun K hK => ?_
  have he := enters_ hf hname hb args w
  have hrun : (execOp a.eval oi).run P w = .ok (.enter f args) w := by
    unfold execOp
    simp [hop, resolve, Deferred.ofValue, invoke, hv, hargs, he]
  unfold Oper.wp
  rw [hrun, Oper.upon_enter]
  refine h.mono fun e w'' hh => ?_
  obtain ⟨v, rfl, hk⟩ := hh
  subst hd
  exact hK _ _ hk
end
end Go.Proofs.Ytcjebflldmiajaa.Gen
namespace Go.Proofs.Ytcjebflldmiajaa.Fn
open Go.RowKit Go.Proofs.YtcjebflldmiajaaW.PrintWords Go.Proofs.YtcjebflldmiajaaW.PrintLast Go.Proofs.YtcjebflldmiajaaW.PrintMore
attribute [local go_sem] max2_int min2_int max_two min_two max_three min_three max_four min_four   -- for this text's walks alone
set_option linter.unusedVariables false
set_option linter.unusedSimpArgs false

/-! ### laws_FnPacked: function 10 -/
mutual
def laws_FnPacked.j0 : Nat → List Int → List Int → Bool → Bool → Int → Int → List Int → List Bool → Option (Bool)
  | 0, _, _, _, _, _, _, _, _ => none
  | k + 1, x1, x5, x7, x57, x853000, x853001, x853002, x853003 => if x57 = true then (some false) else (if x7 = true then ((impl_UnpackList.f k x853000 x853001 x853002 x853003).bind fun bt864 => ((impl_BitsIn.f k x853000 x853001 x853002 x853003).bind fun bt868 => ((impl_GoodPacked.f k x853000 x853001 x853002 x853003).bind fun t870 => (if t870 = true then (if bt864.2 = true then ((laws_sameInts.f k bt864.1 x5).bind fun t871 => (if t871 = true then (if bt868.2 = true then (if bt868.1 > (wrap64 ((x5.length : Int) * (wrap64 (x853001 + 3)))) then (some false) else (laws_FnPacked.j1 k x1)) else (some false)) else (some false))) else (some false)) else (some false))))) else (laws_FnPacked.j1 k x1))
def laws_FnPacked.j1 : Nat → List Int → Option (Bool)
  | 0, _ => none
  | k + 1, x1 => (spec_DrawUnpackList.f k x1).bind fun bt872 => ((impl_UnpackList.f k bt872.1 bt872.2.1 bt872.2.2.1 bt872.2.2.2).bind fun bt881 => ((spec_UnpackList.f k bt872.1 bt872.2.1 bt872.2.2.1 bt872.2.2.2).bind fun bt885 => ((impl_BitsIn.f k bt872.1 bt872.2.1 bt872.2.2.1 bt872.2.2.2).bind fun bt889 => ((spec_BitsIn.f k bt872.1 bt872.2.1 bt872.2.2.1 bt872.2.2.2).bind fun bt891 => ((spec_DrawLowFor.f x1).bind fun bt893 => ((impl_LowFor.f k bt893.1 bt893.2).bind fun bt895 => ((spec_LowFor.f k bt893.1 bt893.2).bind fun bt897 => (if (bt881.2 != bt885.2) = true then (laws_FnPacked.j2 k bt881.1 bt881.2 true bt872.1 bt872.2.1 bt872.2.2.1 bt872.2.2.2) else ((laws_sameInts.f k bt881.1 bt885.1).bind fun t899 => (if t899 = true then (if (bt889.2 != bt891.2) = true then (laws_FnPacked.j2 k bt881.1 bt881.2 true bt872.1 bt872.2.1 bt872.2.2.1 bt872.2.2.2) else (if bt889.1 = bt891.1 then (if (bt895.2 != bt897.2) = true then (laws_FnPacked.j2 k bt881.1 bt881.2 true bt872.1 bt872.2.1 bt872.2.2.1 bt872.2.2.2) else (if bt895.1 = bt897.1 then ((impl_GoodPacked.f k bt872.1 bt872.2.1 bt872.2.2.1 bt872.2.2.2).bind fun t900 => (laws_FnPacked.j2 k bt881.1 bt881.2 (t900 != bt881.2) bt872.1 bt872.2.1 bt872.2.2.1 bt872.2.2.2)) else (laws_FnPacked.j2 k bt881.1 bt881.2 true bt872.1 bt872.2.1 bt872.2.2.1 bt872.2.2.2))) else (laws_FnPacked.j2 k bt881.1 bt881.2 true bt872.1 bt872.2.1 bt872.2.2.1 bt872.2.2.2))) else (laws_FnPacked.j2 k bt881.1 bt881.2 true bt872.1 bt872.2.1 bt872.2.2.1 bt872.2.2.2)))))))))))
def laws_FnPacked.j2 : Nat → List Int → Bool → Bool → Int → Int → List Int → List Bool → Option (Bool)
  | 0, _, _, _, _, _, _, _ => none
  | k + 1, x15, x16, x169, x881000, x881001, x881002, x881003 => if x169 = true then (some false) else (if x16 = true then ((impl_PackList.f k x15).bind fun bt901 => (if bt901.2.2.2.2 = true then ((laws_samePacked.f k bt901.1 bt901.2.1 bt901.2.2.1 bt901.2.2.2.1 x881000 x881001 x881002 x881003).bind fun t911 => (some t911)) else (some false))) else (some true))
end
def laws_FnPacked.f (k : Nat) (l0 : List Int) (l1 : List Int) : Option (Bool) := if (wrap64 ((l0.length : Int) + (l1.length : Int))) > 1048576 then (some true) else ((spec_DrawPackList.f k l0).bind fun t840 => ((impl_PackList.f k t840).bind fun bt843 => ((spec_PackList.f k t840).bind fun bt853 => (if (bt843.2.2.2.2 != bt853.2.2.2.2) = true then (laws_FnPacked.j0 k l1 t840 bt843.2.2.2.2 true bt843.1 bt843.2.1 bt843.2.2.1 bt843.2.2.2.1) else ((laws_samePacked.f k bt843.1 bt843.2.1 bt843.2.2.1 bt843.2.2.2.1 bt853.1 bt853.2.1 bt853.2.2.1 bt853.2.2.2.1).bind fun t863 => (laws_FnPacked.j0 k l1 t840 bt843.2.2.2.2 (!t863) bt843.1 bt843.2.1 bt843.2.2.1 bt843.2.2.2.1))))))
theorem laws_FnPacked.mono_l : ∀ k, (∀ y0 y1 y2 y3 y4 y5 y6 y7, LeO (laws_FnPacked.j0 k y0 y1 y2 y3 y4 y5 y6 y7) (laws_FnPacked.j0 (k + 1) y0 y1 y2 y3 y4 y5 y6 y7)) ∧ (∀ y0, LeO (laws_FnPacked.j1 k y0) (laws_FnPacked.j1 (k + 1) y0)) ∧ (∀ y0 y1 y2 y3 y4 y5 y6, LeO (laws_FnPacked.j2 k y0 y1 y2 y3 y4 y5 y6) (laws_FnPacked.j2 (k + 1) y0 y1 y2 y3 y4 y5 y6))
  | 0 => ⟨fun _ _ _ _ _ _ _ _ r h => by simp [laws_FnPacked.j0] at h, fun _ r h => by simp [laws_FnPacked.j1] at h, fun _ _ _ _ _ _ _ r h => by simp [laws_FnPacked.j2] at h⟩
  | k + 1 => by
    obtain ⟨ih0, ih1, ih2⟩ := laws_FnPacked.mono_l k
    refine ⟨?_, ?_, ?_⟩
    · intro y0 y1 y2 y3 y4 y5 y6 y7
      unfold laws_FnPacked.j0
      repeat' first
      | (with_reducible exact ih0 _ _ _ _ _ _ _ _)
      | (with_reducible exact ih1 _)
      | (with_reducible exact ih2 _ _ _ _ _ _ _)
      | (with_reducible exact impl_BitsIn.mono _ _ _ _ _)
      | (with_reducible exact impl_GoodPacked.mono _ _ _ _ _)
      | (with_reducible exact impl_LowFor.mono _ _ _)
      | (with_reducible exact impl_PackList.mono _ _)
      | (with_reducible exact impl_UnpackList.mono _ _ _ _ _)
      | (with_reducible exact laws_sameInts.mono _ _ _)
      | (with_reducible exact laws_samePacked.mono _ _ _ _ _ _ _ _ _)
      | (with_reducible exact spec_BitsIn.mono _ _ _ _ _)
      | (with_reducible exact spec_DrawPackList.mono _ _)
      | (with_reducible exact spec_DrawUnpackList.mono _ _)
      | (with_reducible exact spec_LowFor.mono _ _ _)
      | (with_reducible exact spec_PackList.mono _ _)
      | (with_reducible exact spec_UnpackList.mono _ _ _ _ _)
      | (with_reducible exact LeO.refl _)
      | (with_reducible exact LeO.none _)
      | (with_reducible refine LeO.ite ?_ ?_)
      | (with_reducible refine LeO.bind ?_ (fun _ => ?_))
      | exact ih0 _ _ _ _ _ _ _ _
      | exact ih1 _
      | exact ih2 _ _ _ _ _ _ _
      | exact impl_BitsIn.mono _ _ _ _ _
      | exact impl_GoodPacked.mono _ _ _ _ _
      | exact impl_LowFor.mono _ _ _
      | exact impl_PackList.mono _ _
      | exact impl_UnpackList.mono _ _ _ _ _
      | exact laws_sameInts.mono _ _ _
      | exact laws_samePacked.mono _ _ _ _ _ _ _ _ _
      | exact spec_BitsIn.mono _ _ _ _ _
      | exact spec_DrawPackList.mono _ _
      | exact spec_DrawUnpackList.mono _ _
      | exact spec_LowFor.mono _ _ _
      | exact spec_PackList.mono _ _
      | exact spec_UnpackList.mono _ _ _ _ _
      | exact LeO.none _
      | refine LeO.ite ?_ ?_
      | refine LeO.bind ?_ (fun _ => ?_)
    · intro y0
      unfold laws_FnPacked.j1
      repeat' first
      | (with_reducible exact ih0 _ _ _ _ _ _ _ _)
      | (with_reducible exact ih1 _)
      | (with_reducible exact ih2 _ _ _ _ _ _ _)
      | (with_reducible exact impl_BitsIn.mono _ _ _ _ _)
      | (with_reducible exact impl_GoodPacked.mono _ _ _ _ _)
      | (with_reducible exact impl_LowFor.mono _ _ _)
      | (with_reducible exact impl_PackList.mono _ _)
      | (with_reducible exact impl_UnpackList.mono _ _ _ _ _)
      | (with_reducible exact laws_sameInts.mono _ _ _)
      | (with_reducible exact laws_samePacked.mono _ _ _ _ _ _ _ _ _)
      | (with_reducible exact spec_BitsIn.mono _ _ _ _ _)
      | (with_reducible exact spec_DrawPackList.mono _ _)
      | (with_reducible exact spec_DrawUnpackList.mono _ _)
      | (with_reducible exact spec_LowFor.mono _ _ _)
      | (with_reducible exact spec_PackList.mono _ _)
      | (with_reducible exact spec_UnpackList.mono _ _ _ _ _)
      | (with_reducible exact LeO.refl _)
      | (with_reducible exact LeO.none _)
      | (with_reducible refine LeO.ite ?_ ?_)
      | (with_reducible refine LeO.bind ?_ (fun _ => ?_))
      | exact ih0 _ _ _ _ _ _ _ _
      | exact ih1 _
      | exact ih2 _ _ _ _ _ _ _
      | exact impl_BitsIn.mono _ _ _ _ _
      | exact impl_GoodPacked.mono _ _ _ _ _
      | exact impl_LowFor.mono _ _ _
      | exact impl_PackList.mono _ _
      | exact impl_UnpackList.mono _ _ _ _ _
      | exact laws_sameInts.mono _ _ _
      | exact laws_samePacked.mono _ _ _ _ _ _ _ _ _
      | exact spec_BitsIn.mono _ _ _ _ _
      | exact spec_DrawPackList.mono _ _
      | exact spec_DrawUnpackList.mono _ _
      | exact spec_LowFor.mono _ _ _
      | exact spec_PackList.mono _ _
      | exact spec_UnpackList.mono _ _ _ _ _
      | exact LeO.none _
      | refine LeO.ite ?_ ?_
      | refine LeO.bind ?_ (fun _ => ?_)
    · intro y0 y1 y2 y3 y4 y5 y6
      unfold laws_FnPacked.j2
      repeat' first
      | (with_reducible exact ih0 _ _ _ _ _ _ _ _)
      | (with_reducible exact ih1 _)
      | (with_reducible exact ih2 _ _ _ _ _ _ _)
      | (with_reducible exact impl_BitsIn.mono _ _ _ _ _)
      | (with_reducible exact impl_GoodPacked.mono _ _ _ _ _)
      | (with_reducible exact impl_LowFor.mono _ _ _)
      | (with_reducible exact impl_PackList.mono _ _)
      | (with_reducible exact impl_UnpackList.mono _ _ _ _ _)
      | (with_reducible exact laws_sameInts.mono _ _ _)
      | (with_reducible exact laws_samePacked.mono _ _ _ _ _ _ _ _ _)
      | (with_reducible exact spec_BitsIn.mono _ _ _ _ _)
      | (with_reducible exact spec_DrawPackList.mono _ _)
      | (with_reducible exact spec_DrawUnpackList.mono _ _)
      | (with_reducible exact spec_LowFor.mono _ _ _)
      | (with_reducible exact spec_PackList.mono _ _)
      | (with_reducible exact spec_UnpackList.mono _ _ _ _ _)
      | (with_reducible exact LeO.refl _)
      | (with_reducible exact LeO.none _)
      | (with_reducible refine LeO.ite ?_ ?_)
      | (with_reducible refine LeO.bind ?_ (fun _ => ?_))
      | exact ih0 _ _ _ _ _ _ _ _
      | exact ih1 _
      | exact ih2 _ _ _ _ _ _ _
      | exact impl_BitsIn.mono _ _ _ _ _
      | exact impl_GoodPacked.mono _ _ _ _ _
      | exact impl_LowFor.mono _ _ _
      | exact impl_PackList.mono _ _
      | exact impl_UnpackList.mono _ _ _ _ _
      | exact laws_sameInts.mono _ _ _
      | exact laws_samePacked.mono _ _ _ _ _ _ _ _ _
      | exact spec_BitsIn.mono _ _ _ _ _
      | exact spec_DrawPackList.mono _ _
      | exact spec_DrawUnpackList.mono _ _
      | exact spec_LowFor.mono _ _ _
      | exact spec_PackList.mono _ _
      | exact spec_UnpackList.mono _ _ _ _ _
      | exact LeO.none _
      | refine LeO.ite ?_ ?_
      | refine LeO.bind ?_ (fun _ => ?_)
theorem laws_FnPacked.mono : ∀ a0 a1 k, LeO (laws_FnPacked.f k a0 a1) (laws_FnPacked.f (k + 1) a0 a1) := by
  intro a0 a1 k
  obtain ⟨ih0, ih1, ih2⟩ := laws_FnPacked.mono_l k
  unfold laws_FnPacked.f
  repeat' first
      | (with_reducible exact ih0 _ _ _ _ _ _ _ _)
      | (with_reducible exact ih1 _)
      | (with_reducible exact ih2 _ _ _ _ _ _ _)
      | (with_reducible exact impl_BitsIn.mono _ _ _ _ _)
      | (with_reducible exact impl_GoodPacked.mono _ _ _ _ _)
      | (with_reducible exact impl_LowFor.mono _ _ _)
      | (with_reducible exact impl_PackList.mono _ _)
      | (with_reducible exact impl_UnpackList.mono _ _ _ _ _)
      | (with_reducible exact laws_sameInts.mono _ _ _)
      | (with_reducible exact laws_samePacked.mono _ _ _ _ _ _ _ _ _)
      | (with_reducible exact spec_BitsIn.mono _ _ _ _ _)
      | (with_reducible exact spec_DrawPackList.mono _ _)
      | (with_reducible exact spec_DrawUnpackList.mono _ _)
      | (with_reducible exact spec_LowFor.mono _ _ _)
      | (with_reducible exact spec_PackList.mono _ _)
      | (with_reducible exact spec_UnpackList.mono _ _ _ _ _)
      | (with_reducible exact LeO.refl _)
      | (with_reducible exact LeO.none _)
      | (with_reducible refine LeO.ite ?_ ?_)
      | (with_reducible refine LeO.bind ?_ (fun _ => ?_))
      | exact ih0 _ _ _ _ _ _ _ _
      | exact ih1 _
      | exact ih2 _ _ _ _ _ _ _
      | exact impl_BitsIn.mono _ _ _ _ _
      | exact impl_GoodPacked.mono _ _ _ _ _
      | exact impl_LowFor.mono _ _ _
      | exact impl_PackList.mono _ _
      | exact impl_UnpackList.mono _ _ _ _ _
      | exact laws_sameInts.mono _ _ _
      | exact laws_samePacked.mono _ _ _ _ _ _ _ _ _
      | exact spec_BitsIn.mono _ _ _ _ _
      | exact spec_DrawPackList.mono _ _
      | exact spec_DrawUnpackList.mono _ _
      | exact spec_LowFor.mono _ _ _
      | exact spec_PackList.mono _ _
      | exact spec_UnpackList.mono _ _ _ _ _
      | exact LeO.none _
      | refine LeO.ite ?_ ?_
      | refine LeO.bind ?_ (fun _ => ?_)
set_option maxHeartbeats 8000000 in
set_option maxRecDepth 100000 in
theorem laws_FnPacked.calls (k : Nat) (A0 : Option Addr) (c0 : Nat) (l0 : List Int) (A1 : Option Addr) (c1 : Nat) (l1 : List Int) (r : Bool) (w : World) (hr0 : Kd.C (Kd.int .u8) w A0 l0.length l0) (hc0 : l0.length ≤ c0) (hr1 : Kd.C (Kd.int .u8) w A1 l1.length l1) (hc1 : l1.length ≤ c1) (h : laws_FnPacked.f k l0 l1 = some r) (ht : r = true) :
    Calls Try.prog 10 #[.slice A0 l0.length c0, .slice A1 l1.length c1] w fun e w' => e = .returned (.bool r) ∧ Below w.heap.size w w' := by
  have HT := Aside0.mk ht
  clear ht
  have hu25 := Try.underlying25
  have HR0 := Aside0.mk hr0
  have HC0 := Aside0.mk hc0
  clear hr0 hc0
  have HR1 := Aside0.mk hr1
  have HC1 := Aside0.mk hc1
  clear hr1 hc1
  have HB := Aside0.mk (Below.refl w.heap.size w)
  have H : (if (wrap64 ((l0.length : Int) + (l1.length : Int))) > 1048576 then (some true) else ((spec_DrawPackList.f k l0).bind fun t840 => ((impl_PackList.f k t840).bind fun bt843 => ((spec_PackList.f k t840).bind fun bt853 => (if (bt843.2.2.2.2 != bt853.2.2.2.2) = true then (laws_FnPacked.j0 k l1 t840 bt843.2.2.2.2 true bt843.1 bt843.2.1 bt843.2.2.1 bt843.2.2.2.1) else ((laws_samePacked.f k bt843.1 bt843.2.1 bt843.2.2.1 bt843.2.2.2.1 bt853.1 bt853.2.1 bt853.2.2.1 bt853.2.2.2.1).bind fun t863 => (laws_FnPacked.j0 k l1 t840 bt843.2.2.2.2 (!t863) bt843.1 bt843.2.1 bt843.2.2.1 bt843.2.2.2.1))))))) = some r := h
  clear h
  by_cases c3 : (wrap64 ((l0.length : Int) + (l1.length : Int))) > 1048576
  · rw [if_pos c3] at H
    have c3b0 : decide (1048576 < (wrap64 ((l0.length : Int) + (l1.length : Int)))) = true := decide_eq_true c3
    clear c3
    obtain rfl := Option.some.inj H
    go_enter Try.func10, Try.ntmps10
    go_wp2
    go_ret
    exact ⟨by first | rfl | (simp [errW_none, errW_some] <;> rfl) | (simp [*, errW_none, errW_some] <;> rfl), by repeat (first | (with_reducible first | exact HB.out | apply below_alloc | apply pw_below_drewN | apply below_drew1) | exact HB.out)⟩
  · rw [if_neg c3] at H
    have c3b0 : decide (1048576 < (wrap64 ((l0.length : Int) + (l1.length : Int)))) = false := decide_eq_false c3
    clear c3
    replace H := Option.bind_eq_some_iff.mp H
    obtain ⟨t840, A40, H⟩ := H
    replace H : ((impl_PackList.f k t840).bind fun bt843 => ((spec_PackList.f k t840).bind fun bt853 => (if (bt843.2.2.2.2 != bt853.2.2.2.2) = true then (laws_FnPacked.j0 k l1 t840 bt843.2.2.2.2 true bt843.1 bt843.2.1 bt843.2.2.1 bt843.2.2.2.1) else ((laws_samePacked.f k bt843.1 bt843.2.1 bt843.2.2.1 bt843.2.2.2.1 bt853.1 bt853.2.1 bt853.2.2.1 bt853.2.2.2.1).bind fun t863 => (laws_FnPacked.j0 k l1 t840 bt843.2.2.2.2 (!t863) bt843.1 bt843.2.1 bt843.2.2.1 bt843.2.2.2.1))))) = some r := H
    have A4 := Aside0.mk A40
    clear A40
    replace H := Option.bind_eq_some_iff.mp H
    obtain ⟨⟨t843, t844, t845, t848, t851⟩, A50, H⟩ := H
    replace H : ((spec_PackList.f k t840).bind fun bt853 => (if (t851 != bt853.2.2.2.2) = true then (laws_FnPacked.j0 k l1 t840 t851 true t843 t844 t845 t848) else ((laws_samePacked.f k t843 t844 t845 t848 bt853.1 bt853.2.1 bt853.2.2.1 bt853.2.2.2.1).bind fun t863 => (laws_FnPacked.j0 k l1 t840 t851 (!t863) t843 t844 t845 t848)))) = some r := H
    have A5 := Aside0.mk A50
    clear A50
    replace H := Option.bind_eq_some_iff.mp H
    obtain ⟨⟨t853, t854, t855, t858, t861⟩, A60, H⟩ := H
    replace H : (if (t851 != t861) = true then (laws_FnPacked.j0 k l1 t840 t851 true t843 t844 t845 t848) else ((laws_samePacked.f k t843 t844 t845 t848 t853 t854 t855 t858).bind fun t863 => (laws_FnPacked.j0 k l1 t840 t851 (!t863) t843 t844 t845 t848))) = some r := H
    have A6 := Aside0.mk A60
    clear A60
    have HC7 := Aside0.mk H
    clear H
    go_enter Try.func10, Try.ntmps10
    go_upto_region 6 with (first | ((with_reducible refine gate_callee (f := 35) rfl ?_); refine goesL_ (some 38) rfl rfl Try.func35 (by kernel_rfl) rfl #[.slice A0 l0.length c0] rfl (by (try simp only [List.map_toArray, List.map_cons, List.map_nil]); first | done | rfl | (simp only [List.length_drop, List.length_take]; rfl)) ?_; (with_reducible refine (spec_DrawPackList.calls k _ _ l0 t840 _ ?side1 ?side2 A4.out).mono ?_); (case side1 => repeat (first | exact HR0.out | (with_reducible refine Kd.C_alloc ?_ _) | (with_reducible refine Kd.C_drewN ?_ _) | (with_reducible refine Kd.C_drew ?_))); (case side2 => exact HC0.out); rintro e w8 ⟨v841, rfl, ho0, hb⟩; refine ⟨_, rfl, ?_⟩; have n0_ := Aside0.mk (Kd.R_lower ho0 (below_size (by repeat (first | (with_reducible first | exact HB.out | apply below_alloc | apply pw_below_drewN | apply below_drew1) | exact HB.out)))); have n1_ := Aside0.mk (below_step (by repeat (first | (with_reducible first | exact HB.out | apply below_alloc | apply pw_below_drewN | apply below_drew1) | exact HB.out)) hb); clear HB; have HO842 := n0_; have HB := n1_; clear n0_ n1_; (try clear hb); (try clear hb2); (try clear hk); (try clear hi); (try clear ho0); obtain ⟨Ao9, co9, eo9⟩ := Kd.R_slice HO842.out; subst eo9) | ((with_reducible refine gate_callee (f := 14) rfl ?_); refine goesL_ (some 41) rfl rfl Try.func14 (by kernel_rfl) rfl #[.slice Ao9 t840.length co9] rfl (by (try simp only [List.map_toArray, List.map_cons, List.map_nil]); first | done | rfl | (simp only [List.length_drop, List.length_take]; rfl)) ?_; (with_reducible refine (impl_PackList.calls k _ _ t840 t843 t844 t845 t848 t851 _ ?side1 ?side2 A5.out).mono ?_); (case side1 => repeat (first | exact (Kd.R_reads' HO842.out).2.2 | (with_reducible refine Kd.C_alloc ?_ _) | (with_reducible refine Kd.C_drewN ?_ _) | (with_reducible refine Kd.C_drew ?_))); (case side2 => exact (Kd.R_reads' HO842.out).2.1); rintro e w10 ⟨v846, v849, rfl, ho0, ho1, hb⟩; refine ⟨_, rfl, ?_⟩; have n0_ := Aside0.mk (Kd.R_elder' (by (with_reducible repeat (first | apply Kd.R_alloc | apply Kd.R_drewN | apply Kd.R_drew)); exact HO842.out) (Kd.R_base ho0) hb); have n1_ := Aside0.mk (Kd.R_lower (Kd.R_new' ho0 (Kd.R_lt (by (with_reducible repeat (first | apply Kd.R_alloc | apply Kd.R_drewN | apply Kd.R_drew)); exact HO842.out))) (below_size (by repeat (first | (with_reducible first | exact HB.out | apply below_alloc | apply pw_below_drewN | apply below_drew1) | exact HB.out)))); have n2_ := Aside0.mk (Kd.R_lower ho1 (below_size (by repeat (first | (with_reducible first | exact HB.out | apply below_alloc | apply pw_below_drewN | apply below_drew1) | exact HB.out)))); have n3_ := Aside0.mk (below_step (by repeat (first | (with_reducible first | exact HB.out | apply below_alloc | apply pw_below_drewN | apply below_drew1) | exact HB.out)) hb); clear HO842; clear HB; have HO842 := n0_; have HO847 := n1_; have HO850 := n2_; have HB := n3_; clear n0_ n1_ n2_ n3_; (try clear hb); (try clear hb2); (try clear hk); (try clear hi); (try clear ho0); (try clear ho1)) | ((with_reducible refine gate_dst (N := 6) rfl ?_); (try (refine gate_guard (by rfl) ?_; dsimp only)); refine box_event ?hg (N := 6) ?hd (cs := #[.int .i64 0, .int .i64 0, .slice none 0 0, .slice none 0 0]) (t := 25) ?hr ?_; (case hd => rfl); (case hg => rfl); (case hr => first | (go_simp; done) | (go_simp; rfl)); intro gb852 hg w11 hbox hb; have n0_ := Aside0.mk (Kd.R_below (by (with_reducible repeat (first | apply Kd.R_alloc | apply Kd.R_drewN | apply Kd.R_drew)); exact HO842.out) hb); have n1_ := Aside0.mk (Kd.R_below (by (with_reducible repeat (first | apply Kd.R_alloc | apply Kd.R_drewN | apply Kd.R_drew)); exact HO847.out) hb); have n2_ := Aside0.mk (Kd.R_below (by (with_reducible repeat (first | apply Kd.R_alloc | apply Kd.R_drewN | apply Kd.R_drew)); exact HO850.out) hb); have n3_ := Aside0.mk (below_step (by repeat (first | (with_reducible first | exact HB.out | apply below_alloc | apply pw_below_drewN | apply below_drew1) | exact HB.out)) hb); have n4_ := Aside0.mk (hbox); have n5_ := Aside0.mk ((by rw [hg]; exact (below_size (by repeat (first | (with_reducible first | exact HB.out | apply below_alloc | apply pw_below_drewN | apply below_drew1) | exact HB.out))) : w.heap.size ≤ gb852)); have n6_ := Aside0.mk ((by rw [hg]; exact (below_size (by repeat (first | (with_reducible first | exact HB.out | apply below_alloc | apply pw_below_drewN | apply below_drew1) | exact HB.out))) : w.heap.size ≤ gb852)); clear HO842; clear HO847; clear HO850; clear HB; have HO842 := n0_; have HO847 := n1_; have HO850 := n2_; have HB := n3_; have BK852 := n4_; have GW852 := n5_; have GE852 := n6_; clear n0_ n1_ n2_ n3_ n4_ n5_ n6_; clear hb hbox hg; have hcz12_0 : w11.cell? ⟨gb852, 0, none⟩ = some (.int .i64 0) := (blk_cell BK852.out 0).trans rfl; have hcz12_1 : w11.cell? ⟨gb852, 1, none⟩ = some (.int .i64 0) := (blk_cell BK852.out 1).trans rfl; have hcz12_2 : w11.cell? ⟨gb852, 2, none⟩ = some (.slice none 0 0) := (blk_cell BK852.out 2).trans rfl; have hcz12_3 : w11.cell? ⟨gb852, 3, none⟩ = some (.slice none 0 0) := (blk_cell BK852.out 3).trans rfl; have hfz12_0 := blk_frozen BK852.out 0; have hfz12_1 := blk_frozen BK852.out 1; have hfz12_2 := blk_frozen BK852.out 2; have hfz12_3 := blk_frozen BK852.out 3; obtain ⟨Ao13, co13, eo13⟩ := Kd.R_slice HO847.out; subst eo13; obtain ⟨Ao14, co14, eo14⟩ := Kd.R_slice HO850.out; subst eo14) | ((with_reducible refine gate_callee (f := 12) rfl ?_); refine goesL_ (some 46) rfl rfl Try.func12 (by kernel_rfl) rfl #[.slice Ao9 t840.length co9] rfl (by (try simp only [List.map_toArray, List.map_cons, List.map_nil]); first | done | rfl | (simp only [List.length_drop, List.length_take]; rfl)) ?_; (with_reducible refine (spec_PackList.calls k _ _ t840 t853 t854 t855 t858 t861 _ ?side1 ?side2 A6.out).mono ?_); (case side1 => refine (Kd.R_reads' (e := 3) (base := w.heap.size) (ok := fun k_ => (True ∧ some k_ ≠ (.slice Ao13 t845.length co13 : Value).ownBlock)) (n := t840.length) (c := co9) ?_).2.2; exact (by (with_reducible repeat (first | apply Kd.R_alloc | apply Kd.R_drewN | apply Kd.R_drew)); exact (Kd.R_mono (Kd.R_far (p := ⟨gb852, 3, none⟩) (Kd.R_far (p := ⟨gb852, 2, none⟩) (Kd.R_far (p := ⟨gb852, 1, none⟩) (Kd.R_far (p := ⟨gb852, 0, none⟩) (Kd.R_types HO842.out BK852.out (by decide)) (fun _ hk => hk.2) (.int .i64 t843)) (fun _ hk => hk.2) (.int .i64 t844)) (fun _ hk => hk.2) (.slice Ao13 t845.length co13)) (fun _ hk => hk.2) (.slice Ao14 t848.length co14)) (fun _ h_ => h_.1)))); (case side2 => exact (Kd.R_reads' HO842.out).2.1); rintro e w15 ⟨v856, v859, rfl, ho0, ho1, hb⟩; refine ⟨_, rfl, ?_⟩; have n0_ := Aside0.mk (Kd.R_elder' (by (with_reducible repeat (first | apply Kd.R_alloc | apply Kd.R_drewN | apply Kd.R_drew)); exact (Kd.R_mono (Kd.R_far (p := ⟨gb852, 3, none⟩) (Kd.R_far (p := ⟨gb852, 2, none⟩) (Kd.R_far (p := ⟨gb852, 1, none⟩) (Kd.R_far (p := ⟨gb852, 0, none⟩) (Kd.R_types HO842.out BK852.out (by decide)) (fun _ hk => hk.2) (.int .i64 t843)) (fun _ hk => hk.2) (.int .i64 t844)) (fun _ hk => hk.2) (.slice Ao13 t845.length co13)) (fun _ hk => hk.2) (.slice Ao14 t848.length co14)) (fun _ h_ => h_.1))) (Kd.R_base ho0) hb); have n1_ := Aside0.mk (Kd.R_elder' (by (with_reducible repeat (first | apply Kd.R_alloc | apply Kd.R_drewN | apply Kd.R_drew)); exact (Kd.R_mono (Kd.R_far (p := ⟨gb852, 3, none⟩) (Kd.R_far (p := ⟨gb852, 2, none⟩) (Kd.R_far (p := ⟨gb852, 1, none⟩) (Kd.R_far (p := ⟨gb852, 0, none⟩) (Kd.R_types HO847.out BK852.out (by decide)) (fun _ hk => hk.2) (.int .i64 t843)) (fun _ hk => hk.2) (.int .i64 t844)) (fun _ hk => hk.2) (.slice Ao13 t845.length co13)) (fun _ hk => hk.2) (.slice Ao14 t848.length co14)) (fun _ h_ => h_.1))) (Kd.R_base ho0) hb); have n2_ := Aside0.mk (Kd.R_elder' (by (with_reducible repeat (first | apply Kd.R_alloc | apply Kd.R_drewN | apply Kd.R_drew)); exact (Kd.R_mono (Kd.R_far (p := ⟨gb852, 3, none⟩) (Kd.R_far (p := ⟨gb852, 2, none⟩) (Kd.R_far (p := ⟨gb852, 1, none⟩) (Kd.R_far (p := ⟨gb852, 0, none⟩) (Kd.R_types HO850.out BK852.out (by decide)) (fun _ hk => hk.2) (.int .i64 t843)) (fun _ hk => hk.2) (.int .i64 t844)) (fun _ hk => hk.2) (.slice Ao13 t845.length co13)) (fun _ hk => hk.2) (.slice Ao14 t848.length co14)) (fun _ h_ => h_.1))) (Kd.R_base ho1) hb); have n3_ := Aside0.mk (Kd.R_lower (Kd.R_new' (Kd.R_new' ho0 (Kd.R_lt (by (with_reducible repeat (first | apply Kd.R_alloc | apply Kd.R_drewN | apply Kd.R_drew)); exact (Kd.R_mono (Kd.R_far (p := ⟨gb852, 3, none⟩) (Kd.R_far (p := ⟨gb852, 2, none⟩) (Kd.R_far (p := ⟨gb852, 1, none⟩) (Kd.R_far (p := ⟨gb852, 0, none⟩) (Kd.R_types HO842.out BK852.out (by decide)) (fun _ hk => hk.2) (.int .i64 t843)) (fun _ hk => hk.2) (.int .i64 t844)) (fun _ hk => hk.2) (.slice Ao13 t845.length co13)) (fun _ hk => hk.2) (.slice Ao14 t848.length co14)) (fun _ h_ => h_.1))))) (Kd.R_lt (by (with_reducible repeat (first | apply Kd.R_alloc | apply Kd.R_drewN | apply Kd.R_drew)); exact (Kd.R_mono (Kd.R_far (p := ⟨gb852, 3, none⟩) (Kd.R_far (p := ⟨gb852, 2, none⟩) (Kd.R_far (p := ⟨gb852, 1, none⟩) (Kd.R_far (p := ⟨gb852, 0, none⟩) (Kd.R_types HO847.out BK852.out (by decide)) (fun _ hk => hk.2) (.int .i64 t843)) (fun _ hk => hk.2) (.int .i64 t844)) (fun _ hk => hk.2) (.slice Ao13 t845.length co13)) (fun _ hk => hk.2) (.slice Ao14 t848.length co14)) (fun _ h_ => h_.1))))) (below_size (by repeat (first | (with_reducible first | exact HB.out | apply below_alloc | apply pw_below_drewN | apply below_drew1 | refine below_set ?_ GE852.out) | exact HB.out)))); have n4_ := Aside0.mk (Kd.R_lower (Kd.R_new' ho1 (Kd.R_lt (by (with_reducible repeat (first | apply Kd.R_alloc | apply Kd.R_drewN | apply Kd.R_drew)); exact (Kd.R_mono (Kd.R_far (p := ⟨gb852, 3, none⟩) (Kd.R_far (p := ⟨gb852, 2, none⟩) (Kd.R_far (p := ⟨gb852, 1, none⟩) (Kd.R_far (p := ⟨gb852, 0, none⟩) (Kd.R_types HO850.out BK852.out (by decide)) (fun _ hk => hk.2) (.int .i64 t843)) (fun _ hk => hk.2) (.int .i64 t844)) (fun _ hk => hk.2) (.slice Ao13 t845.length co13)) (fun _ hk => hk.2) (.slice Ao14 t848.length co14)) (fun _ h_ => h_.1))))) (below_size (by repeat (first | (with_reducible first | exact HB.out | apply below_alloc | apply pw_below_drewN | apply below_drew1 | refine below_set ?_ GE852.out) | exact HB.out)))); have n5_ := Aside0.mk (blk_below (g := gb852) (o := .cells #[.int .i64 t843, .int .i64 t844, .slice Ao13 t845.length co13, .slice Ao14 t848.length co14] 25 (0, 0)) (by (with_reducible repeat (first | refine blk_drewN ?_ _ | refine blk_drew ?_ | refine blk_alloc ?_ _)); refine blk_put (cs := #[.int .i64 t843, .int .i64 t844, .slice Ao13 t845.length co13, .slice none 0 0]) ?_ 3 _ rfl; (with_reducible repeat (first | refine blk_drewN ?_ _ | refine blk_drew ?_ | refine blk_alloc ?_ _)); refine blk_put (cs := #[.int .i64 t843, .int .i64 t844, .slice none 0 0, .slice none 0 0]) ?_ 2 _ rfl; (with_reducible repeat (first | refine blk_drewN ?_ _ | refine blk_drew ?_ | refine blk_alloc ?_ _)); refine blk_put (cs := #[.int .i64 t843, .int .i64 0, .slice none 0 0, .slice none 0 0]) ?_ 1 _ rfl; (with_reducible repeat (first | refine blk_drewN ?_ _ | refine blk_drew ?_ | refine blk_alloc ?_ _)); refine blk_put (cs := #[.int .i64 0, .int .i64 0, .slice none 0 0, .slice none 0 0]) ?_ 0 _ rfl; (with_reducible repeat (first | refine blk_drewN ?_ _ | refine blk_drew ?_ | refine blk_alloc ?_ _)); exact BK852.out) hb); have n6_ := Aside0.mk (below_step (by repeat (first | (with_reducible first | exact HB.out | apply below_alloc | apply pw_below_drewN | apply below_drew1 | refine below_set ?_ GE852.out) | exact HB.out)) hb); clear HO842; clear HO847; clear HO850; clear BK852; clear HB; have HO842 := n0_; have HO847 := n1_; have HO850 := n2_; have HO857 := n3_; have HO860 := n4_; have BK852 := n5_; have HB := n6_; clear n0_ n1_ n2_ n3_ n4_ n5_ n6_; (try clear hb); (try clear hb2); (try clear hk); (try clear hi); (try clear ho0); (try clear ho1)) | ((with_reducible refine gate_dst (N := 8) rfl ?_); (try (refine gate_guard (by rfl) ?_; dsimp only)); refine box_event ?hg (N := 8) ?hd (cs := #[.int .i64 0, .int .i64 0, .slice none 0 0, .slice none 0 0]) (t := 25) ?hr ?_; (case hd => rfl); (case hg => rfl); (case hr => first | (go_simp; done) | (go_simp; rfl)); intro gb862 hg w16 hbox hb; have n0_ := Aside0.mk (Kd.R_below (by (with_reducible repeat (first | apply Kd.R_alloc | apply Kd.R_drewN | apply Kd.R_drew)); exact HO842.out) hb); have n1_ := Aside0.mk (Kd.R_below (by (with_reducible repeat (first | apply Kd.R_alloc | apply Kd.R_drewN | apply Kd.R_drew)); exact HO847.out) hb); have n2_ := Aside0.mk (Kd.R_below (by (with_reducible repeat (first | apply Kd.R_alloc | apply Kd.R_drewN | apply Kd.R_drew)); exact HO850.out) hb); have n3_ := Aside0.mk (Kd.R_below (by (with_reducible repeat (first | apply Kd.R_alloc | apply Kd.R_drewN | apply Kd.R_drew)); exact HO857.out) hb); have n4_ := Aside0.mk (Kd.R_below (by (with_reducible repeat (first | apply Kd.R_alloc | apply Kd.R_drewN | apply Kd.R_drew)); exact HO860.out) hb); have n5_ := Aside0.mk (blk_below (g := gb852) (o := .cells #[.int .i64 t843, .int .i64 t844, .slice Ao13 t845.length co13, .slice Ao14 t848.length co14] 25 (0, 0)) (by (with_reducible repeat (first | refine blk_drewN ?_ _ | refine blk_drew ?_ | refine blk_alloc ?_ _)); exact BK852.out) hb); have n6_ := Aside0.mk (below_step (by repeat (first | (with_reducible first | exact HB.out | apply below_alloc | apply pw_below_drewN | apply below_drew1 | refine below_set ?_ GE852.out) | exact HB.out)) hb); have n7_ := Aside0.mk (hbox); have n8_ := Aside0.mk ((by rw [hg]; exact (below_size (by repeat (first | (with_reducible first | exact HB.out | apply below_alloc | apply pw_below_drewN | apply below_drew1 | refine below_set ?_ GE852.out) | exact HB.out))) : w.heap.size ≤ gb862)); have n9_ := Aside0.mk ((by rw [hg]; exact (below_size (by repeat (first | (with_reducible first | exact HB.out | apply below_alloc | apply pw_below_drewN | apply below_drew1 | refine below_set ?_ GE852.out) | exact HB.out))) : w.heap.size ≤ gb862)); have n10_ := Aside0.mk ((by rw [hg]; exact Nat.ne_of_lt (blk_lt (g := gb852) (o := .cells #[.int .i64 t843, .int .i64 t844, .slice Ao13 t845.length co13, .slice Ao14 t848.length co14] 25 (0, 0)) (by (with_reducible repeat (first | refine blk_drewN ?_ _ | refine blk_drew ?_ | refine blk_alloc ?_ _)); exact BK852.out)) : gb852 ≠ gb862)); have n11_ := Aside0.mk ((by rw [hg]; exact Nat.ne_of_gt (blk_lt (g := gb852) (o := .cells #[.int .i64 t843, .int .i64 t844, .slice Ao13 t845.length co13, .slice Ao14 t848.length co14] 25 (0, 0)) (by (with_reducible repeat (first | refine blk_drewN ?_ _ | refine blk_drew ?_ | refine blk_alloc ?_ _)); exact BK852.out)) : gb862 ≠ gb852)); clear HO842; clear HO847; clear HO850; clear HO857; clear HO860; clear BK852; clear HB; have HO842 := n0_; have HO847 := n1_; have HO850 := n2_; have HO857 := n3_; have HO860 := n4_; have BK852 := n5_; have HB := n6_; have BK862 := n7_; have GW862 := n8_; have GE862 := n9_; have NB852_862 := n10_; have NB862_852 := n11_; clear n0_ n1_ n2_ n3_ n4_ n5_ n6_ n7_ n8_ n9_ n10_ n11_; clear hb hbox hg; have hnb17 := NB862_852.out; have hnc17 := NB852_862.out; have hcz18_0 : w16.cell? ⟨gb862, 0, none⟩ = some (.int .i64 0) := (blk_cell BK862.out 0).trans rfl; have hcz18_1 : w16.cell? ⟨gb862, 1, none⟩ = some (.int .i64 0) := (blk_cell BK862.out 1).trans rfl; have hcz18_2 : w16.cell? ⟨gb862, 2, none⟩ = some (.slice none 0 0) := (blk_cell BK862.out 2).trans rfl; have hcz18_3 : w16.cell? ⟨gb862, 3, none⟩ = some (.slice none 0 0) := (blk_cell BK862.out 3).trans rfl; have hfz18_0 := blk_frozen BK862.out 0; have hfz18_1 := blk_frozen BK862.out 1; have hfz18_2 := blk_frozen BK862.out 2; have hfz18_3 := blk_frozen BK862.out 3; obtain ⟨Ao19, co19, eo19⟩ := Kd.R_slice HO857.out; subst eo19; obtain ⟨Ao20, co20, eo20⟩ := Kd.R_slice HO860.out; subst eo20))
    (try simp only [Act.put, List.setIfInBounds_toArray, List.set_cons_zero, List.set_cons_succ])
    go_cut [57] (fun v57 wc => ∃ (kq : Nat) (x57_6 : Bool), v57 = .bool x57_6 ∧ Aside0 (laws_FnPacked.j0 kq l1 t840 t851 x57_6 t843 t844 t845 t848 = some r) ∧ Aside0 (kq ≤ k) ∧ Aside0 (Kd.R (Kd.int .i64) 3 wc w.heap.size (fun k_ => some k_ ≠ ((.slice Ao13 t845.length co13) : Value).ownBlock ∧ some k_ ≠ ((.slice Ao19 t855.length co19) : Value).ownBlock) (.slice Ao9 t840.length co9) t840) ∧ Aside0 (Kd.R (Kd.int .i64) 3 wc w.heap.size (fun k_ => some k_ ≠ ((.slice Ao9 t840.length co9) : Value).ownBlock ∧ some k_ ≠ ((.slice Ao19 t855.length co19) : Value).ownBlock) (.slice Ao13 t845.length co13) t845) ∧ Aside0 (Kd.R Kd.bool 4 wc w.heap.size (fun k_ => some k_ ≠ ((.slice Ao20 t858.length co20) : Value).ownBlock) (.slice Ao14 t848.length co14) t848) ∧ Aside0 (Kd.R (Kd.int .i64) 3 wc w.heap.size (fun k_ => some k_ ≠ ((.slice Ao9 t840.length co9) : Value).ownBlock ∧ some k_ ≠ ((.slice Ao13 t845.length co13) : Value).ownBlock) (.slice Ao19 t855.length co19) t855) ∧ Aside0 (Kd.R Kd.bool 4 wc w.heap.size (fun k_ => some k_ ≠ ((.slice Ao14 t848.length co14) : Value).ownBlock) (.slice Ao20 t858.length co20) t858) ∧ Aside0 (wc.heap[gb852]? = some (.cells #[.int .i64 t843, .int .i64 t844, (.slice Ao13 t845.length co13), (.slice Ao14 t848.length co14)] 25 (0, 0))) ∧ Aside0 (wc.heap[gb862]? = some (.cells #[.int .i64 t853, .int .i64 t854, (.slice Ao19 t855.length co19), (.slice Ao20 t858.length co20)] 25 (0, 0))) ∧ Aside0 (Below w.heap.size w wc))
    case first =>
      have H := HC7.out
      clear HC7
      by_cases c21 : (t851 != t861) = true
      · rw [if_pos c21] at H
        have c21b0 : (t851 != t861) = true := c21
        (try (have c21b1 : decide (t851 = t861) = false := by simpa using c21))
        (try (have c21b2 : (t851 == t861) = false := by simpa using c21))
        (try (have c21b3 : ¬ (t851 = t861) := by simpa using c21))
        clear c21
        (first | rw [c21b0] | (simp only [i64_w, i32_w]; rw [c21b0]) | rw [c21b1] | skip)
        exact (Go.Proofs.Ytcjebflldmiajaa.Gen.no_true H (by cases k <;> simp [laws_FnPacked.j0]) HT.out).elim
      · rw [if_neg c21] at H
        have c21b0 : (t851 != t861) = false := by simpa using c21
        (try (have c21b1 : decide (t851 = t861) = true := by simpa using c21))
        (try (have c21b2 : (t851 == t861) = true := by simpa using c21))
        clear c21
        (first | rw [c21b0] | (simp only [i64_w, i32_w]; rw [c21b0]) | rw [c21b1] | skip)
        replace H := Option.bind_eq_some_iff.mp H
        obtain ⟨t863, A220, H⟩ := H
        replace H : (laws_FnPacked.j0 k l1 t840 t851 (!t863) t843 t844 t845 t848) = some r := H
        have A22 := Aside0.mk A220
        clear A220
        have H' := Aside0.mk H
        clear H
        have hnb23 := NB852_862.out
        have hnc23 := NB862_852.out
        have hcz24_0 : w16.cell? ⟨gb852, 0, none⟩ = some (.int .i64 t843) := (blk_cell BK852.out 0).trans rfl
        have hcz24_1 : w16.cell? ⟨gb852, 1, none⟩ = some (.int .i64 t844) := (blk_cell BK852.out 1).trans rfl
        have hcz24_2 : w16.cell? ⟨gb852, 2, none⟩ = some (.slice Ao13 t845.length co13) := (blk_cell BK852.out 2).trans rfl
        have hcz24_3 : w16.cell? ⟨gb852, 3, none⟩ = some (.slice Ao14 t848.length co14) := (blk_cell BK852.out 3).trans rfl
        have hfz24_0 := blk_frozen BK852.out 0
        have hfz24_1 := blk_frozen BK852.out 1
        have hfz24_2 := blk_frozen BK852.out 2
        have hfz24_3 := blk_frozen BK852.out 3
        have hcz25_0 : w16.cell? ⟨gb862, 0, none⟩ = some (.int .i64 0) := (blk_cell BK862.out 0).trans rfl
        have hcz25_1 : w16.cell? ⟨gb862, 1, none⟩ = some (.int .i64 0) := (blk_cell BK862.out 1).trans rfl
        have hcz25_2 : w16.cell? ⟨gb862, 2, none⟩ = some (.slice none 0 0) := (blk_cell BK862.out 2).trans rfl
        have hcz25_3 : w16.cell? ⟨gb862, 3, none⟩ = some (.slice none 0 0) := (blk_cell BK862.out 3).trans rfl
        have hfz25_0 := blk_frozen BK862.out 0
        have hfz25_1 := blk_frozen BK862.out 1
        have hfz25_2 := blk_frozen BK862.out 2
        have hfz25_3 := blk_frozen BK862.out 3
        go_wp2_with (first | (go_at_call 36; (with_reducible refine (laws_samePacked.calls k t843 t844 _ _ t845 _ _ t848 t853 t854 _ _ t855 _ _ t858 t863 _ ?side1 ?side2 ?side3 ?side4 ?side5 ?side6 ?side7 ?side8 A22.out).mono ?_); (case side1 => refine (Kd.R_reads' (e := 3) (base := w.heap.size) (ok := fun k_ => ((True ∧ some k_ ≠ (.slice Ao9 t840.length co9 : Value).ownBlock) ∧ some k_ ≠ (.slice Ao19 t855.length co19 : Value).ownBlock)) (n := t845.length) (c := co13) ?_).2.2; exact (by (with_reducible repeat (first | apply Kd.R_alloc | apply Kd.R_drewN | apply Kd.R_drew)); exact (Kd.R_mono (Kd.R_far (p := ⟨gb862, 3, none⟩) (Kd.R_far (p := ⟨gb862, 2, none⟩) (Kd.R_far (p := ⟨gb862, 1, none⟩) (Kd.R_far (p := ⟨gb862, 0, none⟩) (Kd.R_types HO847.out BK862.out (by decide)) (fun _ hk => hk.2) (.int .i64 t853)) (fun _ hk => hk.2) (.int .i64 t854)) (fun _ hk => hk.2) (.slice Ao19 t855.length co19)) (fun _ hk => hk.2) (.slice Ao20 t858.length co20)) (fun _ h_ => h_.1)))); (case side2 => exact (Kd.R_reads' HO847.out).2.1); (case side3 => refine (Kd.R_reads' (e := 4) (base := w.heap.size) (ok := fun k_ => (True ∧ some k_ ≠ (.slice Ao20 t858.length co20 : Value).ownBlock)) (n := t848.length) (c := co14) ?_).2.2; exact (by (with_reducible repeat (first | apply Kd.R_alloc | apply Kd.R_drewN | apply Kd.R_drew)); exact (Kd.R_mono (Kd.R_far (p := ⟨gb862, 3, none⟩) (Kd.R_far (p := ⟨gb862, 2, none⟩) (Kd.R_far (p := ⟨gb862, 1, none⟩) (Kd.R_far (p := ⟨gb862, 0, none⟩) (Kd.R_types HO850.out BK862.out (by decide)) (fun _ hk => hk.2) (.int .i64 t853)) (fun _ hk => hk.2) (.int .i64 t854)) (fun _ hk => hk.2) (.slice Ao19 t855.length co19)) (fun _ hk => hk.2) (.slice Ao20 t858.length co20)) (fun _ h_ => h_.1)))); (case side4 => exact (Kd.R_reads' HO850.out).2.1); (case side5 => refine (Kd.R_reads' (e := 3) (base := w.heap.size) (ok := fun k_ => ((True ∧ some k_ ≠ (.slice Ao9 t840.length co9 : Value).ownBlock) ∧ some k_ ≠ (.slice Ao13 t845.length co13 : Value).ownBlock)) (n := t855.length) (c := co19) ?_).2.2; exact (by (with_reducible repeat (first | apply Kd.R_alloc | apply Kd.R_drewN | apply Kd.R_drew)); exact (Kd.R_mono (Kd.R_far (p := ⟨gb862, 3, none⟩) (Kd.R_far (p := ⟨gb862, 2, none⟩) (Kd.R_far (p := ⟨gb862, 1, none⟩) (Kd.R_far (p := ⟨gb862, 0, none⟩) (Kd.R_types HO857.out BK862.out (by decide)) (fun _ hk => hk.2) (.int .i64 t853)) (fun _ hk => hk.2) (.int .i64 t854)) (fun _ hk => hk.2) (.slice Ao19 t855.length co19)) (fun _ hk => hk.2) (.slice Ao20 t858.length co20)) (fun _ h_ => h_.1)))); (case side6 => exact (Kd.R_reads' HO857.out).2.1); (case side7 => refine (Kd.R_reads' (e := 4) (base := w.heap.size) (ok := fun k_ => (True ∧ some k_ ≠ (.slice Ao14 t848.length co14 : Value).ownBlock)) (n := t858.length) (c := co20) ?_).2.2; exact (by (with_reducible repeat (first | apply Kd.R_alloc | apply Kd.R_drewN | apply Kd.R_drew)); exact (Kd.R_mono (Kd.R_far (p := ⟨gb862, 3, none⟩) (Kd.R_far (p := ⟨gb862, 2, none⟩) (Kd.R_far (p := ⟨gb862, 1, none⟩) (Kd.R_far (p := ⟨gb862, 0, none⟩) (Kd.R_types HO860.out BK862.out (by decide)) (fun _ hk => hk.2) (.int .i64 t853)) (fun _ hk => hk.2) (.int .i64 t854)) (fun _ hk => hk.2) (.slice Ao19 t855.length co19)) (fun _ hk => hk.2) (.slice Ao20 t858.length co20)) (fun _ h_ => h_.1)))); (case side8 => exact (Kd.R_reads' HO860.out).2.1); rintro e w26 ⟨rfl, hb⟩; have n0_ := Aside0.mk (Kd.R_below (by (with_reducible repeat (first | apply Kd.R_alloc | apply Kd.R_drewN | apply Kd.R_drew)); exact (Kd.R_mono (Kd.R_far (p := ⟨gb862, 3, none⟩) (Kd.R_far (p := ⟨gb862, 2, none⟩) (Kd.R_far (p := ⟨gb862, 1, none⟩) (Kd.R_far (p := ⟨gb862, 0, none⟩) (Kd.R_types HO842.out BK862.out (by decide)) (fun _ hk => hk.2) (.int .i64 t853)) (fun _ hk => hk.2) (.int .i64 t854)) (fun _ hk => hk.2) (.slice Ao19 t855.length co19)) (fun _ hk => hk.2) (.slice Ao20 t858.length co20)) (fun _ h_ => h_.1))) hb); have n1_ := Aside0.mk (Kd.R_below (by (with_reducible repeat (first | apply Kd.R_alloc | apply Kd.R_drewN | apply Kd.R_drew)); exact (Kd.R_mono (Kd.R_far (p := ⟨gb862, 3, none⟩) (Kd.R_far (p := ⟨gb862, 2, none⟩) (Kd.R_far (p := ⟨gb862, 1, none⟩) (Kd.R_far (p := ⟨gb862, 0, none⟩) (Kd.R_types HO847.out BK862.out (by decide)) (fun _ hk => hk.2) (.int .i64 t853)) (fun _ hk => hk.2) (.int .i64 t854)) (fun _ hk => hk.2) (.slice Ao19 t855.length co19)) (fun _ hk => hk.2) (.slice Ao20 t858.length co20)) (fun _ h_ => h_.1))) hb); have n2_ := Aside0.mk (Kd.R_below (by (with_reducible repeat (first | apply Kd.R_alloc | apply Kd.R_drewN | apply Kd.R_drew)); exact (Kd.R_mono (Kd.R_far (p := ⟨gb862, 3, none⟩) (Kd.R_far (p := ⟨gb862, 2, none⟩) (Kd.R_far (p := ⟨gb862, 1, none⟩) (Kd.R_far (p := ⟨gb862, 0, none⟩) (Kd.R_types HO850.out BK862.out (by decide)) (fun _ hk => hk.2) (.int .i64 t853)) (fun _ hk => hk.2) (.int .i64 t854)) (fun _ hk => hk.2) (.slice Ao19 t855.length co19)) (fun _ hk => hk.2) (.slice Ao20 t858.length co20)) (fun _ h_ => h_.1))) hb); have n3_ := Aside0.mk (Kd.R_below (by (with_reducible repeat (first | apply Kd.R_alloc | apply Kd.R_drewN | apply Kd.R_drew)); exact (Kd.R_mono (Kd.R_far (p := ⟨gb862, 3, none⟩) (Kd.R_far (p := ⟨gb862, 2, none⟩) (Kd.R_far (p := ⟨gb862, 1, none⟩) (Kd.R_far (p := ⟨gb862, 0, none⟩) (Kd.R_types HO857.out BK862.out (by decide)) (fun _ hk => hk.2) (.int .i64 t853)) (fun _ hk => hk.2) (.int .i64 t854)) (fun _ hk => hk.2) (.slice Ao19 t855.length co19)) (fun _ hk => hk.2) (.slice Ao20 t858.length co20)) (fun _ h_ => h_.1))) hb); have n4_ := Aside0.mk (Kd.R_below (by (with_reducible repeat (first | apply Kd.R_alloc | apply Kd.R_drewN | apply Kd.R_drew)); exact (Kd.R_mono (Kd.R_far (p := ⟨gb862, 3, none⟩) (Kd.R_far (p := ⟨gb862, 2, none⟩) (Kd.R_far (p := ⟨gb862, 1, none⟩) (Kd.R_far (p := ⟨gb862, 0, none⟩) (Kd.R_types HO860.out BK862.out (by decide)) (fun _ hk => hk.2) (.int .i64 t853)) (fun _ hk => hk.2) (.int .i64 t854)) (fun _ hk => hk.2) (.slice Ao19 t855.length co19)) (fun _ hk => hk.2) (.slice Ao20 t858.length co20)) (fun _ h_ => h_.1))) hb); have n5_ := Aside0.mk (blk_below (g := gb852) (o := .cells #[.int .i64 t843, .int .i64 t844, .slice Ao13 t845.length co13, .slice Ao14 t848.length co14] 25 (0, 0)) (by (with_reducible repeat (first | refine blk_drewN ?_ _ | refine blk_drew ?_ | refine blk_alloc ?_ _)); refine blk_far ?_ NB852_862.out _; (with_reducible repeat (first | refine blk_drewN ?_ _ | refine blk_drew ?_ | refine blk_alloc ?_ _)); refine blk_far ?_ NB852_862.out _; (with_reducible repeat (first | refine blk_drewN ?_ _ | refine blk_drew ?_ | refine blk_alloc ?_ _)); refine blk_far ?_ NB852_862.out _; (with_reducible repeat (first | refine blk_drewN ?_ _ | refine blk_drew ?_ | refine blk_alloc ?_ _)); refine blk_far ?_ NB852_862.out _; (with_reducible repeat (first | refine blk_drewN ?_ _ | refine blk_drew ?_ | refine blk_alloc ?_ _)); exact BK852.out) hb); have n6_ := Aside0.mk (blk_below (g := gb862) (o := .cells #[.int .i64 t853, .int .i64 t854, .slice Ao19 t855.length co19, .slice Ao20 t858.length co20] 25 (0, 0)) (by (with_reducible repeat (first | refine blk_drewN ?_ _ | refine blk_drew ?_ | refine blk_alloc ?_ _)); refine blk_put (cs := #[.int .i64 t853, .int .i64 t854, .slice Ao19 t855.length co19, .slice none 0 0]) ?_ 3 _ rfl; (with_reducible repeat (first | refine blk_drewN ?_ _ | refine blk_drew ?_ | refine blk_alloc ?_ _)); refine blk_put (cs := #[.int .i64 t853, .int .i64 t854, .slice none 0 0, .slice none 0 0]) ?_ 2 _ rfl; (with_reducible repeat (first | refine blk_drewN ?_ _ | refine blk_drew ?_ | refine blk_alloc ?_ _)); refine blk_put (cs := #[.int .i64 t853, .int .i64 0, .slice none 0 0, .slice none 0 0]) ?_ 1 _ rfl; (with_reducible repeat (first | refine blk_drewN ?_ _ | refine blk_drew ?_ | refine blk_alloc ?_ _)); refine blk_put (cs := #[.int .i64 0, .int .i64 0, .slice none 0 0, .slice none 0 0]) ?_ 0 _ rfl; (with_reducible repeat (first | refine blk_drewN ?_ _ | refine blk_drew ?_ | refine blk_alloc ?_ _)); exact BK862.out) hb); have n7_ := Aside0.mk (below_step (by repeat (first | (with_reducible first | exact HB.out | apply below_alloc | apply pw_below_drewN | apply below_drew1 | refine below_set ?_ GE852.out | refine below_set ?_ GE862.out) | exact HB.out)) hb); clear HO842; clear HO847; clear HO850; clear HO857; clear HO860; clear BK852; clear BK862; clear HB; have HO842 := n0_; have HO847 := n1_; have HO850 := n2_; have HO857 := n3_; have HO860 := n4_; have BK852 := n5_; have BK862 := n6_; have HB := n7_; clear n0_ n1_ n2_ n3_ n4_ n5_ n6_ n7_; (try clear hb); (try clear hb2); (try clear hk); (try clear hi)))
        go_meet
        case rel => exact ⟨_, (!t863), (by first | rfl | (simp; done) | (simp [*]; done)), H', ⟨by first | omega | exact Nat.le_refl _⟩, ⟨by (with_reducible repeat (first | apply Kd.R_alloc | apply Kd.R_drewN | apply Kd.R_drew)); exact Kd.R_mono HO842.out (fun _ hk => ⟨hk.1.2, hk.2⟩)⟩, ⟨by (with_reducible repeat (first | apply Kd.R_alloc | apply Kd.R_drewN | apply Kd.R_drew)); exact Kd.R_mono HO847.out (fun _ hk => ⟨hk.1.2, hk.2⟩)⟩, ⟨by (with_reducible repeat (first | apply Kd.R_alloc | apply Kd.R_drewN | apply Kd.R_drew)); exact Kd.R_mono HO850.out (fun _ hk => hk.2)⟩, ⟨by (with_reducible repeat (first | apply Kd.R_alloc | apply Kd.R_drewN | apply Kd.R_drew)); exact Kd.R_mono HO857.out (fun _ hk => ⟨hk.1.2, hk.2⟩)⟩, ⟨by (with_reducible repeat (first | apply Kd.R_alloc | apply Kd.R_drewN | apply Kd.R_drew)); exact Kd.R_mono HO860.out (fun _ hk => hk.2)⟩, ⟨by (with_reducible repeat (first | refine blk_drewN ?_ _ | refine blk_drew ?_ | refine blk_alloc ?_ _)); exact BK852.out⟩, ⟨by (with_reducible repeat (first | refine blk_drewN ?_ _ | refine blk_drew ?_ | refine blk_alloc ?_ _)); exact BK862.out⟩, ⟨by repeat (first | (with_reducible first | exact HB.out | apply below_alloc | apply pw_below_drewN | apply below_drew1 | refine below_set ?_ GE852.out | refine below_set ?_ GE862.out) | exact HB.out)⟩⟩
    case rest =>
      clear HC7
      try clear c1
      try clear c2
      try clear p2
      try clear c3
      try clear c3b0
      try clear p6
      try clear c10
      try clear c12
      try clear c14
      try clear c17
      try clear c21
      try clear c21b0
      try clear c21b1
      try clear c21b2
      try clear c23
      try clear hcz12_0
      try clear hcz12_1
      try clear hcz12_2
      try clear hcz12_3
      try clear hcz18_0
      try clear hcz18_1
      try clear hcz18_2
      try clear hcz18_3
      try clear hcz24_0
      try clear hcz24_1
      try clear hcz24_2
      try clear hcz24_3
      try clear hcz25_0
      try clear hcz25_1
      try clear hcz25_2
      try clear hcz25_3
      try clear hfz12_0
      try clear hfz12_1
      try clear hfz12_2
      try clear hfz12_3
      try clear hfz18_0
      try clear hfz18_1
      try clear hfz18_2
      try clear hfz18_3
      try clear hfz24_0
      try clear hfz24_1
      try clear hfz24_2
      try clear hfz24_3
      try clear hfz25_0
      try clear hfz25_1
      try clear hfz25_2
      try clear hfz25_3
      obtain ⟨kq, x57_6, rfl, HA, HJ6, HO_5, HO_853002, HO_853003, HO_863002, HO_863003, BK852, BK862, HB⟩ := hcut
      cases kq with
      | zero => exact absurd HA.out (by simp [laws_FnPacked.j0])
      | succ kj6 =>
        have H := HA.out
        clear HA
        simp only [laws_FnPacked.j0] at H
        by_cases c27 : x57_6 = true
        · subst c27
          have H1 : (some false) = some r := by rw [if_pos rfl] at H; exact H
          clear H
          have H := H1
          clear H1
          exact absurd HT.out (by have H9 := Option.some.inj H; rw [← H9]; decide)
        · replace c27 := Bool.eq_false_iff.mpr c27
          subst c27
          have H1 : (if t851 = true then ((impl_UnpackList.f kj6 t843 t844 t845 t848).bind fun bt864 => ((impl_BitsIn.f kj6 t843 t844 t845 t848).bind fun bt868 => ((impl_GoodPacked.f kj6 t843 t844 t845 t848).bind fun t870 => (if t870 = true then (if bt864.2 = true then ((laws_sameInts.f kj6 bt864.1 t840).bind fun t871 => (if t871 = true then (if bt868.2 = true then (if bt868.1 > (wrap64 ((t840.length : Int) * (wrap64 (t844 + 3)))) then (some false) else (laws_FnPacked.j1 kj6 l1)) else (some false)) else (some false))) else (some false)) else (some false))))) else (laws_FnPacked.j1 kj6 l1)) = some r := by rw [if_neg (show ¬ (false = true) by decide)] at H; exact H
          clear H
          have H := H1
          clear H1
          have HC28 := Aside0.mk H
          clear H
          go_upto_if 58 with (fail)
          go_cut [] (fun wc => ∃ (kq : Nat), Aside0 (laws_FnPacked.j1 kq l1 = some r) ∧ Aside0 (kq ≤ kj6) ∧ Aside0 (Kd.R (Kd.int .i64) 3 wc w.heap.size (fun k_ => some k_ ≠ ((.slice Ao19 t855.length co19) : Value).ownBlock) (.slice Ao13 t845.length co13) t845) ∧ Aside0 (Kd.R Kd.bool 4 wc w.heap.size (fun k_ => some k_ ≠ ((.slice Ao20 t858.length co20) : Value).ownBlock) (.slice Ao14 t848.length co14) t848) ∧ Aside0 (Kd.R (Kd.int .i64) 3 wc w.heap.size (fun k_ => some k_ ≠ ((.slice Ao13 t845.length co13) : Value).ownBlock) (.slice Ao19 t855.length co19) t855) ∧ Aside0 (Kd.R Kd.bool 4 wc w.heap.size (fun k_ => some k_ ≠ ((.slice Ao14 t848.length co14) : Value).ownBlock) (.slice Ao20 t858.length co20) t858) ∧ Aside0 (wc.heap[gb852]? = some (.cells #[.int .i64 t843, .int .i64 t844, (.slice Ao13 t845.length co13), (.slice Ao14 t848.length co14)] 25 (0, 0))) ∧ Aside0 (wc.heap[gb862]? = some (.cells #[.int .i64 t853, .int .i64 t854, (.slice Ao19 t855.length co19), (.slice Ao20 t858.length co20)] 25 (0, 0))) ∧ Aside0 (Below w.heap.size w wc))
          case first =>
            have H := HC28.out
            clear HC28
            by_cases c29 : t851 = true
            · subst c29
              have H1 : ((impl_UnpackList.f kj6 t843 t844 t845 t848).bind fun bt864 => ((impl_BitsIn.f kj6 t843 t844 t845 t848).bind fun bt868 => ((impl_GoodPacked.f kj6 t843 t844 t845 t848).bind fun t870 => (if t870 = true then (if bt864.2 = true then ((laws_sameInts.f kj6 bt864.1 t840).bind fun t871 => (if t871 = true then (if bt868.2 = true then (if bt868.1 > (wrap64 ((t840.length : Int) * (wrap64 (t844 + 3)))) then (some false) else (laws_FnPacked.j1 kj6 l1)) else (some false)) else (some false))) else (some false)) else (some false))))) = some r := by rw [if_pos rfl] at H; exact H
              clear H
              have H := H1
              clear H1
              replace H := Option.bind_eq_some_iff.mp H
              obtain ⟨⟨t864, t867⟩, A300, H⟩ := H
              replace H : ((impl_BitsIn.f kj6 t843 t844 t845 t848).bind fun bt868 => ((impl_GoodPacked.f kj6 t843 t844 t845 t848).bind fun t870 => (if t870 = true then (if t867 = true then ((laws_sameInts.f kj6 t864 t840).bind fun t871 => (if t871 = true then (if bt868.2 = true then (if bt868.1 > (wrap64 ((t840.length : Int) * (wrap64 (t844 + 3)))) then (some false) else (laws_FnPacked.j1 kj6 l1)) else (some false)) else (some false))) else (some false)) else (some false)))) = some r := H
              have A30 := Aside0.mk A300
              clear A300
              replace H := Option.bind_eq_some_iff.mp H
              obtain ⟨⟨t868, t869⟩, A310, H⟩ := H
              replace H : ((impl_GoodPacked.f kj6 t843 t844 t845 t848).bind fun t870 => (if t870 = true then (if t867 = true then ((laws_sameInts.f kj6 t864 t840).bind fun t871 => (if t871 = true then (if t869 = true then (if t868 > (wrap64 ((t840.length : Int) * (wrap64 (t844 + 3)))) then (some false) else (laws_FnPacked.j1 kj6 l1)) else (some false)) else (some false))) else (some false)) else (some false))) = some r := H
              have A31 := Aside0.mk A310
              clear A310
              replace H := Option.bind_eq_some_iff.mp H
              obtain ⟨t870, A320, H⟩ := H
              replace H : (if t870 = true then (if t867 = true then ((laws_sameInts.f kj6 t864 t840).bind fun t871 => (if t871 = true then (if t869 = true then (if t868 > (wrap64 ((t840.length : Int) * (wrap64 (t844 + 3)))) then (some false) else (laws_FnPacked.j1 kj6 l1)) else (some false)) else (some false))) else (some false)) else (some false)) = some r := H
              have A32 := Aside0.mk A320
              clear A320
              by_cases c33 : t870 = true
              · subst c33
                have H1 : (if t867 = true then ((laws_sameInts.f kj6 t864 t840).bind fun t871 => (if t871 = true then (if t869 = true then (if t868 > (wrap64 ((t840.length : Int) * (wrap64 (t844 + 3)))) then (some false) else (laws_FnPacked.j1 kj6 l1)) else (some false)) else (some false))) else (some false)) = some r := by rw [if_pos rfl] at H; exact H
                clear H
                have H := H1
                clear H1
                by_cases c34 : t867 = true
                · subst c34
                  have H1 : ((laws_sameInts.f kj6 t864 t840).bind fun t871 => (if t871 = true then (if t869 = true then (if t868 > (wrap64 ((t840.length : Int) * (wrap64 (t844 + 3)))) then (some false) else (laws_FnPacked.j1 kj6 l1)) else (some false)) else (some false))) = some r := by rw [if_pos rfl] at H; exact H
                  clear H
                  have H := H1
                  clear H1
                  replace H := Option.bind_eq_some_iff.mp H
                  obtain ⟨t871, A350, H⟩ := H
                  replace H : (if t871 = true then (if t869 = true then (if t868 > (wrap64 ((t840.length : Int) * (wrap64 (t844 + 3)))) then (some false) else (laws_FnPacked.j1 kj6 l1)) else (some false)) else (some false)) = some r := H
                  have A35 := Aside0.mk A350
                  clear A350
                  by_cases c36 : t871 = true
                  · subst c36
                    have H1 : (if t869 = true then (if t868 > (wrap64 ((t840.length : Int) * (wrap64 (t844 + 3)))) then (some false) else (laws_FnPacked.j1 kj6 l1)) else (some false)) = some r := by rw [if_pos rfl] at H; exact H
                    clear H
                    have H := H1
                    clear H1
                    by_cases c37 : t869 = true
                    · subst c37
                      have H1 : (if t868 > (wrap64 ((t840.length : Int) * (wrap64 (t844 + 3)))) then (some false) else (laws_FnPacked.j1 kj6 l1)) = some r := by rw [if_pos rfl] at H; exact H
                      clear H
                      have H := H1
                      clear H1
                      by_cases c38 : t868 > (wrap64 ((t840.length : Int) * (wrap64 (t844 + 3))))
                      · rw [if_pos c38] at H
                        have c38b0 : decide ((wrap64 ((t840.length : Int) * (wrap64 (t844 + 3)))) < t868) = true := decide_eq_true c38
                        clear c38
                        (first | rw [c38b0] | (simp only [i64_w, i32_w]; rw [c38b0]) | rw [c38b1] | skip)
                        exact absurd HT.out (by have H9 := Option.some.inj H; rw [← H9]; decide)
                      · rw [if_neg c38] at H
                        have c38b0 : decide ((wrap64 ((t840.length : Int) * (wrap64 (t844 + 3)))) < t868) = false := decide_eq_false c38
                        clear c38
                        (first | rw [c38b0] | (simp only [i64_w, i32_w]; rw [c38b0]) | rw [c38b1] | skip)
                        have H' := Aside0.mk H
                        clear H
                        have hnb39 := NB852_862.out
                        have hnc39 := NB862_852.out
                        have hcz40_0 : wc.cell? ⟨gb852, 0, none⟩ = some (.int .i64 t843) := (blk_cell BK852.out 0).trans rfl
                        have hcz40_1 : wc.cell? ⟨gb852, 1, none⟩ = some (.int .i64 t844) := (blk_cell BK852.out 1).trans rfl
                        have hcz40_2 : wc.cell? ⟨gb852, 2, none⟩ = some (.slice Ao13 t845.length co13) := (blk_cell BK852.out 2).trans rfl
                        have hcz40_3 : wc.cell? ⟨gb852, 3, none⟩ = some (.slice Ao14 t848.length co14) := (blk_cell BK852.out 3).trans rfl
                        have hfz40_0 := blk_frozen BK852.out 0
                        have hfz40_1 := blk_frozen BK852.out 1
                        have hfz40_2 := blk_frozen BK852.out 2
                        have hfz40_3 := blk_frozen BK852.out 3
                        go_wp2_with (first | ((with_reducible refine gate_callee (f := 25) rfl ?_); refine goesL_ (some 61) rfl rfl Try.func25 (by kernel_rfl) rfl #[.agg #[.int .i64 t843, .int .i64 t844, .slice Ao13 t845.length co13, .slice Ao14 t848.length co14]] rfl (by (try simp only [List.map_toArray, List.map_cons, List.map_nil]); first | done | rfl | (simp only [List.length_drop, List.length_take]; rfl)) ?_; (with_reducible refine (impl_UnpackList.calls kj6 t843 t844 _ _ t845 _ _ t848 t864 true _ ?side1 ?side2 ?side3 ?side4 A30.out).mono ?_); (case side1 => repeat (first | exact (Kd.R_reads' HO_853002.out).2.2 | (with_reducible refine Kd.C_alloc ?_ _) | (with_reducible refine Kd.C_drewN ?_ _) | (with_reducible refine Kd.C_drew ?_))); (case side2 => exact (Kd.R_reads' HO_853002.out).2.1); (case side3 => repeat (first | exact (Kd.R_reads' HO_853003.out).2.2 | (with_reducible refine Kd.C_alloc ?_ _) | (with_reducible refine Kd.C_drewN ?_ _) | (with_reducible refine Kd.C_drew ?_))); (case side4 => exact (Kd.R_reads' HO_853003.out).2.1); rintro e w41 ⟨v865, rfl, ho0, hb⟩; refine ⟨_, rfl, ?_⟩; have n0_ := Aside0.mk (Kd.R_elder' (by (with_reducible repeat (first | apply Kd.R_alloc | apply Kd.R_drewN | apply Kd.R_drew)); exact HO_5.out) (Kd.R_base ho0) hb); have n1_ := Aside0.mk (Kd.R_elder' (by (with_reducible repeat (first | apply Kd.R_alloc | apply Kd.R_drewN | apply Kd.R_drew)); exact HO_853002.out) (Kd.R_base ho0) hb); have n2_ := Aside0.mk (Kd.R_below (by (with_reducible repeat (first | apply Kd.R_alloc | apply Kd.R_drewN | apply Kd.R_drew)); exact HO_853003.out) hb); have n3_ := Aside0.mk (Kd.R_elder' (by (with_reducible repeat (first | apply Kd.R_alloc | apply Kd.R_drewN | apply Kd.R_drew)); exact HO_863002.out) (Kd.R_base ho0) hb); have n4_ := Aside0.mk (Kd.R_below (by (with_reducible repeat (first | apply Kd.R_alloc | apply Kd.R_drewN | apply Kd.R_drew)); exact HO_863003.out) hb); have n5_ := Aside0.mk (Kd.R_lower (Kd.R_new' (Kd.R_new' (Kd.R_new' ho0 (Kd.R_lt (by (with_reducible repeat (first | apply Kd.R_alloc | apply Kd.R_drewN | apply Kd.R_drew)); exact HO_5.out))) (Kd.R_lt (by (with_reducible repeat (first | apply Kd.R_alloc | apply Kd.R_drewN | apply Kd.R_drew)); exact HO_853002.out))) (Kd.R_lt (by (with_reducible repeat (first | apply Kd.R_alloc | apply Kd.R_drewN | apply Kd.R_drew)); exact HO_863002.out))) (below_size (by repeat (first | (with_reducible first | exact HB.out | apply below_alloc | apply pw_below_drewN | apply below_drew1 | refine below_set ?_ GE852.out | refine below_set ?_ GE862.out) | exact HB.out)))); have n6_ := Aside0.mk (blk_below (g := gb852) (o := .cells #[.int .i64 t843, .int .i64 t844, .slice Ao13 t845.length co13, .slice Ao14 t848.length co14] 25 (0, 0)) (by (with_reducible repeat (first | refine blk_drewN ?_ _ | refine blk_drew ?_ | refine blk_alloc ?_ _)); exact BK852.out) hb); have n7_ := Aside0.mk (blk_below (g := gb862) (o := .cells #[.int .i64 t853, .int .i64 t854, .slice Ao19 t855.length co19, .slice Ao20 t858.length co20] 25 (0, 0)) (by (with_reducible repeat (first | refine blk_drewN ?_ _ | refine blk_drew ?_ | refine blk_alloc ?_ _)); exact BK862.out) hb); have n8_ := Aside0.mk (below_step (by repeat (first | (with_reducible first | exact HB.out | apply below_alloc | apply pw_below_drewN | apply below_drew1 | refine below_set ?_ GE852.out | refine below_set ?_ GE862.out) | exact HB.out)) hb); clear HO_5; clear HO_853002; clear HO_853003; clear HO_863002; clear HO_863003; clear BK852; clear BK862; clear HB; have HO_5 := n0_; have HO_853002 := n1_; have HO_853003 := n2_; have HO_863002 := n3_; have HO_863003 := n4_; have HO866 := n5_; have BK852 := n6_; have BK862 := n7_; have HB := n8_; clear n0_ n1_ n2_ n3_ n4_ n5_ n6_ n7_ n8_; (try clear hb); (try clear hb2); (try clear hk); (try clear hi); (try clear ho0); have hcz42_0 : w41.cell? ⟨gb852, 0, none⟩ = some (.int .i64 t843) := (blk_cell BK852.out 0).trans rfl; have hcz42_1 : w41.cell? ⟨gb852, 1, none⟩ = some (.int .i64 t844) := (blk_cell BK852.out 1).trans rfl; have hcz42_2 : w41.cell? ⟨gb852, 2, none⟩ = some (.slice Ao13 t845.length co13) := (blk_cell BK852.out 2).trans rfl; have hcz42_3 : w41.cell? ⟨gb852, 3, none⟩ = some (.slice Ao14 t848.length co14) := (blk_cell BK852.out 3).trans rfl; have hfz42_0 := blk_frozen BK852.out 0; have hfz42_1 := blk_frozen BK852.out 1; have hfz42_2 := blk_frozen BK852.out 2; have hfz42_3 := blk_frozen BK852.out 3) | ((with_reducible refine gate_callee (f := 32) rfl ?_); refine goesL_ (some 66) rfl rfl Try.func32 (by kernel_rfl) rfl #[.agg #[.int .i64 t843, .int .i64 t844, .slice Ao13 t845.length co13, .slice Ao14 t848.length co14]] rfl (by (try simp only [List.map_toArray, List.map_cons, List.map_nil]); first | done | rfl | (simp only [List.length_drop, List.length_take]; rfl)) ?_; (with_reducible refine (impl_BitsIn.calls kj6 t843 t844 _ _ t845 _ _ t848 t868 true _ ?side1 ?side2 ?side3 ?side4 A31.out).mono ?_); (case side1 => repeat (first | exact (Kd.R_reads' HO_853002.out).2.2 | (with_reducible refine Kd.C_alloc ?_ _) | (with_reducible refine Kd.C_drewN ?_ _) | (with_reducible refine Kd.C_drew ?_))); (case side2 => exact (Kd.R_reads' HO_853002.out).2.1); (case side3 => repeat (first | exact (Kd.R_reads' HO_853003.out).2.2 | (with_reducible refine Kd.C_alloc ?_ _) | (with_reducible refine Kd.C_drewN ?_ _) | (with_reducible refine Kd.C_drew ?_))); (case side4 => exact (Kd.R_reads' HO_853003.out).2.1); rintro e w43 ⟨rfl, hb⟩; refine ⟨_, rfl, ?_⟩; have n0_ := Aside0.mk (Kd.R_below (by (with_reducible repeat (first | apply Kd.R_alloc | apply Kd.R_drewN | apply Kd.R_drew)); exact HO_5.out) hb); have n1_ := Aside0.mk (Kd.R_below (by (with_reducible repeat (first | apply Kd.R_alloc | apply Kd.R_drewN | apply Kd.R_drew)); exact HO_853002.out) hb); have n2_ := Aside0.mk (Kd.R_below (by (with_reducible repeat (first | apply Kd.R_alloc | apply Kd.R_drewN | apply Kd.R_drew)); exact HO_853003.out) hb); have n3_ := Aside0.mk (Kd.R_below (by (with_reducible repeat (first | apply Kd.R_alloc | apply Kd.R_drewN | apply Kd.R_drew)); exact HO_863002.out) hb); have n4_ := Aside0.mk (Kd.R_below (by (with_reducible repeat (first | apply Kd.R_alloc | apply Kd.R_drewN | apply Kd.R_drew)); exact HO_863003.out) hb); have n5_ := Aside0.mk (Kd.R_below (by (with_reducible repeat (first | apply Kd.R_alloc | apply Kd.R_drewN | apply Kd.R_drew)); exact HO866.out) hb); have n6_ := Aside0.mk (blk_below (g := gb852) (o := .cells #[.int .i64 t843, .int .i64 t844, .slice Ao13 t845.length co13, .slice Ao14 t848.length co14] 25 (0, 0)) (by (with_reducible repeat (first | refine blk_drewN ?_ _ | refine blk_drew ?_ | refine blk_alloc ?_ _)); exact BK852.out) hb); have n7_ := Aside0.mk (blk_below (g := gb862) (o := .cells #[.int .i64 t853, .int .i64 t854, .slice Ao19 t855.length co19, .slice Ao20 t858.length co20] 25 (0, 0)) (by (with_reducible repeat (first | refine blk_drewN ?_ _ | refine blk_drew ?_ | refine blk_alloc ?_ _)); exact BK862.out) hb); have n8_ := Aside0.mk (below_step (by repeat (first | (with_reducible first | exact HB.out | apply below_alloc | apply pw_below_drewN | apply below_drew1 | refine below_set ?_ GE852.out | refine below_set ?_ GE862.out) | exact HB.out)) hb); clear HO_5; clear HO_853002; clear HO_853003; clear HO_863002; clear HO_863003; clear HO866; clear BK852; clear BK862; clear HB; have HO_5 := n0_; have HO_853002 := n1_; have HO_853003 := n2_; have HO_863002 := n3_; have HO_863003 := n4_; have HO866 := n5_; have BK852 := n6_; have BK862 := n7_; have HB := n8_; clear n0_ n1_ n2_ n3_ n4_ n5_ n6_ n7_ n8_; (try clear hb); (try clear hb2); (try clear hk); (try clear hi); have hcz44_0 : w43.cell? ⟨gb852, 0, none⟩ = some (.int .i64 t843) := (blk_cell BK852.out 0).trans rfl; have hcz44_1 : w43.cell? ⟨gb852, 1, none⟩ = some (.int .i64 t844) := (blk_cell BK852.out 1).trans rfl; have hcz44_2 : w43.cell? ⟨gb852, 2, none⟩ = some (.slice Ao13 t845.length co13) := (blk_cell BK852.out 2).trans rfl; have hcz44_3 : w43.cell? ⟨gb852, 3, none⟩ = some (.slice Ao14 t848.length co14) := (blk_cell BK852.out 3).trans rfl; have hfz44_0 := blk_frozen BK852.out 0; have hfz44_1 := blk_frozen BK852.out 1; have hfz44_2 := blk_frozen BK852.out 2; have hfz44_3 := blk_frozen BK852.out 3) | ((with_reducible refine gate_callee (f := 23) rfl ?_); refine goesL_ (some 70) rfl rfl Try.func23 (by kernel_rfl) rfl #[.agg #[.int .i64 t843, .int .i64 t844, .slice Ao13 t845.length co13, .slice Ao14 t848.length co14]] rfl (by (try simp only [List.map_toArray, List.map_cons, List.map_nil]); first | done | rfl | (simp only [List.length_drop, List.length_take]; rfl)) ?_; (with_reducible refine (impl_GoodPacked.calls kj6 t843 t844 _ _ t845 _ _ t848 true _ ?side1 ?side2 ?side3 ?side4 A32.out).mono ?_); (case side1 => repeat (first | exact (Kd.R_reads' HO_853002.out).2.2 | (with_reducible refine Kd.C_alloc ?_ _) | (with_reducible refine Kd.C_drewN ?_ _) | (with_reducible refine Kd.C_drew ?_))); (case side2 => exact (Kd.R_reads' HO_853002.out).2.1); (case side3 => repeat (first | exact (Kd.R_reads' HO_853003.out).2.2 | (with_reducible refine Kd.C_alloc ?_ _) | (with_reducible refine Kd.C_drewN ?_ _) | (with_reducible refine Kd.C_drew ?_))); (case side4 => exact (Kd.R_reads' HO_853003.out).2.1); rintro e w45 ⟨rfl, hb⟩; refine ⟨_, rfl, ?_⟩; have n0_ := Aside0.mk (Kd.R_below (by (with_reducible repeat (first | apply Kd.R_alloc | apply Kd.R_drewN | apply Kd.R_drew)); exact HO_5.out) hb); have n1_ := Aside0.mk (Kd.R_below (by (with_reducible repeat (first | apply Kd.R_alloc | apply Kd.R_drewN | apply Kd.R_drew)); exact HO_853002.out) hb); have n2_ := Aside0.mk (Kd.R_below (by (with_reducible repeat (first | apply Kd.R_alloc | apply Kd.R_drewN | apply Kd.R_drew)); exact HO_853003.out) hb); have n3_ := Aside0.mk (Kd.R_below (by (with_reducible repeat (first | apply Kd.R_alloc | apply Kd.R_drewN | apply Kd.R_drew)); exact HO_863002.out) hb); have n4_ := Aside0.mk (Kd.R_below (by (with_reducible repeat (first | apply Kd.R_alloc | apply Kd.R_drewN | apply Kd.R_drew)); exact HO_863003.out) hb); have n5_ := Aside0.mk (Kd.R_below (by (with_reducible repeat (first | apply Kd.R_alloc | apply Kd.R_drewN | apply Kd.R_drew)); exact HO866.out) hb); have n6_ := Aside0.mk (blk_below (g := gb852) (o := .cells #[.int .i64 t843, .int .i64 t844, .slice Ao13 t845.length co13, .slice Ao14 t848.length co14] 25 (0, 0)) (by (with_reducible repeat (first | refine blk_drewN ?_ _ | refine blk_drew ?_ | refine blk_alloc ?_ _)); exact BK852.out) hb); have n7_ := Aside0.mk (blk_below (g := gb862) (o := .cells #[.int .i64 t853, .int .i64 t854, .slice Ao19 t855.length co19, .slice Ao20 t858.length co20] 25 (0, 0)) (by (with_reducible repeat (first | refine blk_drewN ?_ _ | refine blk_drew ?_ | refine blk_alloc ?_ _)); exact BK862.out) hb); have n8_ := Aside0.mk (below_step (by repeat (first | (with_reducible first | exact HB.out | apply below_alloc | apply pw_below_drewN | apply below_drew1 | refine below_set ?_ GE852.out | refine below_set ?_ GE862.out) | exact HB.out)) hb); clear HO_5; clear HO_853002; clear HO_853003; clear HO_863002; clear HO_863003; clear HO866; clear BK852; clear BK862; clear HB; have HO_5 := n0_; have HO_853002 := n1_; have HO_853003 := n2_; have HO_863002 := n3_; have HO_863003 := n4_; have HO866 := n5_; have BK852 := n6_; have BK862 := n7_; have HB := n8_; clear n0_ n1_ n2_ n3_ n4_ n5_ n6_ n7_ n8_; (try clear hb); (try clear hb2); (try clear hk); (try clear hi); obtain ⟨Ao46, co46, eo46⟩ := Kd.R_slice HO866.out; subst eo46) | (go_at_call 37; (with_reducible refine (laws_sameInts.calls kj6 _ _ t864 _ _ t840 true _ ?side1 ?side2 ?side3 ?side4 A35.out).mono ?_); (case side1 => repeat (first | exact (Kd.R_reads' HO866.out).2.2 | (with_reducible refine Kd.C_alloc ?_ _) | (with_reducible refine Kd.C_drewN ?_ _) | (with_reducible refine Kd.C_drew ?_))); (case side2 => exact (Kd.R_reads' HO866.out).2.1); (case side3 => repeat (first | exact (Kd.R_reads' HO_5.out).2.2 | (with_reducible refine Kd.C_alloc ?_ _) | (with_reducible refine Kd.C_drewN ?_ _) | (with_reducible refine Kd.C_drew ?_))); (case side4 => exact (Kd.R_reads' HO_5.out).2.1); rintro e w' ⟨rfl, ⟨nd, rfl⟩⟩; have hcz47_0 : w45.cell? ⟨gb852, 0, none⟩ = some (.int .i64 t843) := (blk_cell BK852.out 0).trans rfl; have hcz47_1 : w45.cell? ⟨gb852, 1, none⟩ = some (.int .i64 t844) := (blk_cell BK852.out 1).trans rfl; have hcz47_2 : w45.cell? ⟨gb852, 2, none⟩ = some (.slice Ao13 t845.length co13) := (blk_cell BK852.out 2).trans rfl; have hcz47_3 : w45.cell? ⟨gb852, 3, none⟩ = some (.slice Ao14 t848.length co14) := (blk_cell BK852.out 3).trans rfl; have hfz47_0 := blk_frozen BK852.out 0; have hfz47_1 := blk_frozen BK852.out 1; have hfz47_2 := blk_frozen BK852.out 2; have hfz47_3 := blk_frozen BK852.out 3))
                        go_meet
                        case rel => exact ⟨_, H', ⟨by have := HJ6.out; first | omega | exact Nat.le_refl _⟩, ⟨by (with_reducible repeat (first | apply Kd.R_alloc | apply Kd.R_drewN | apply Kd.R_drew)); exact Kd.R_mono HO_853002.out (fun _ hk => hk.1.2)⟩, ⟨by (with_reducible repeat (first | apply Kd.R_alloc | apply Kd.R_drewN | apply Kd.R_drew)); exact HO_853003.out⟩, ⟨by (with_reducible repeat (first | apply Kd.R_alloc | apply Kd.R_drewN | apply Kd.R_drew)); exact Kd.R_mono HO_863002.out (fun _ hk => hk.1.2)⟩, ⟨by (with_reducible repeat (first | apply Kd.R_alloc | apply Kd.R_drewN | apply Kd.R_drew)); exact HO_863003.out⟩, ⟨by (with_reducible repeat (first | refine blk_drewN ?_ _ | refine blk_drew ?_ | refine blk_alloc ?_ _)); exact BK852.out⟩, ⟨by (with_reducible repeat (first | refine blk_drewN ?_ _ | refine blk_drew ?_ | refine blk_alloc ?_ _)); exact BK862.out⟩, ⟨by repeat (first | (with_reducible first | exact HB.out | apply below_alloc | apply pw_below_drewN | apply below_drew1 | refine below_set ?_ GE852.out | refine below_set ?_ GE862.out) | exact HB.out)⟩⟩
                    · replace c37 := Bool.eq_false_iff.mpr c37
                      subst c37
                      have H1 : (some false) = some r := by rw [if_neg (show ¬ (false = true) by decide)] at H; exact H
                      clear H
                      have H := H1
                      clear H1
                      exact absurd HT.out (by have H9 := Option.some.inj H; rw [← H9]; decide)
                  · replace c36 := Bool.eq_false_iff.mpr c36
                    subst c36
                    have H1 : (some false) = some r := by rw [if_neg (show ¬ (false = true) by decide)] at H; exact H
                    clear H
                    have H := H1
                    clear H1
                    exact absurd HT.out (by have H9 := Option.some.inj H; rw [← H9]; decide)
                · replace c34 := Bool.eq_false_iff.mpr c34
                  subst c34
                  have H1 : (some false) = some r := by rw [if_neg (show ¬ (false = true) by decide)] at H; exact H
                  clear H
                  have H := H1
                  clear H1
                  exact absurd HT.out (by have H9 := Option.some.inj H; rw [← H9]; decide)
              · replace c33 := Bool.eq_false_iff.mpr c33
                subst c33
                have H1 : (some false) = some r := by rw [if_neg (show ¬ (false = true) by decide)] at H; exact H
                clear H
                have H := H1
                clear H1
                exact absurd HT.out (by have H9 := Option.some.inj H; rw [← H9]; decide)
            · replace c29 := Bool.eq_false_iff.mpr c29
              subst c29
              have H1 : (laws_FnPacked.j1 kj6 l1) = some r := by rw [if_neg (show ¬ (false = true) by decide)] at H; exact H
              clear H
              have H := H1
              clear H1
              have H' := Aside0.mk H
              clear H
              go_wp2
              go_meet
              case rel => exact ⟨_, H', ⟨by have := HJ6.out; first | omega | exact Nat.le_refl _⟩, ⟨by (with_reducible repeat (first | apply Kd.R_alloc | apply Kd.R_drewN | apply Kd.R_drew)); exact Kd.R_mono HO_853002.out (fun _ hk => hk.2)⟩, ⟨by (with_reducible repeat (first | apply Kd.R_alloc | apply Kd.R_drewN | apply Kd.R_drew)); exact HO_853003.out⟩, ⟨by (with_reducible repeat (first | apply Kd.R_alloc | apply Kd.R_drewN | apply Kd.R_drew)); exact Kd.R_mono HO_863002.out (fun _ hk => hk.2)⟩, ⟨by (with_reducible repeat (first | apply Kd.R_alloc | apply Kd.R_drewN | apply Kd.R_drew)); exact HO_863003.out⟩, ⟨by (with_reducible repeat (first | refine blk_drewN ?_ _ | refine blk_drew ?_ | refine blk_alloc ?_ _)); exact BK852.out⟩, ⟨by (with_reducible repeat (first | refine blk_drewN ?_ _ | refine blk_drew ?_ | refine blk_alloc ?_ _)); exact BK862.out⟩, ⟨by repeat (first | (with_reducible first | exact HB.out | apply below_alloc | apply pw_below_drewN | apply below_drew1 | refine below_set ?_ GE852.out | refine below_set ?_ GE862.out) | exact HB.out)⟩⟩
          case rest =>
            clear HC28
            try clear c1
            try clear c2
            try clear p2
            try clear c3
            try clear c3b0
            try clear p6
            try clear c10
            try clear c12
            try clear c14
            try clear c17
            try clear c21
            try clear c21b0
            try clear c21b1
            try clear c21b2
            try clear c23
            try clear c25
            try clear c27
            try clear c29
            try clear c32
            try clear c33
            try clear c34
            try clear c35
            try clear c36
            try clear c37
            try clear c38
            try clear c38b0
            try clear c38b1
            try clear c39
            try clear hcz12_0
            try clear hcz12_1
            try clear hcz12_2
            try clear hcz12_3
            try clear hcz18_0
            try clear hcz18_1
            try clear hcz18_2
            try clear hcz18_3
            try clear hcz24_0
            try clear hcz24_1
            try clear hcz24_2
            try clear hcz24_3
            try clear hcz25_0
            try clear hcz25_1
            try clear hcz25_2
            try clear hcz25_3
            try clear hcz40_0
            try clear hcz40_1
            try clear hcz40_2
            try clear hcz40_3
            try clear hcz42_0
            try clear hcz42_1
            try clear hcz42_2
            try clear hcz42_3
            try clear hcz44_0
            try clear hcz44_1
            try clear hcz44_2
            try clear hcz44_3
            try clear hcz47_0
            try clear hcz47_1
            try clear hcz47_2
            try clear hcz47_3
            try clear hfz12_0
            try clear hfz12_1
            try clear hfz12_2
            try clear hfz12_3
            try clear hfz18_0
            try clear hfz18_1
            try clear hfz18_2
            try clear hfz18_3
            try clear hfz24_0
            try clear hfz24_1
            try clear hfz24_2
            try clear hfz24_3
            try clear hfz25_0
            try clear hfz25_1
            try clear hfz25_2
            try clear hfz25_3
            try clear hfz40_0
            try clear hfz40_1
            try clear hfz40_2
            try clear hfz40_3
            try clear hfz42_0
            try clear hfz42_1
            try clear hfz42_2
            try clear hfz42_3
            try clear hfz44_0
            try clear hfz44_1
            try clear hfz44_2
            try clear hfz44_3
            try clear hfz47_0
            try clear hfz47_1
            try clear hfz47_2
            try clear hfz47_3
            try clear p2
            try clear p6
            obtain ⟨kq, HA, HJ27, HO_853002, HO_853003, HO_863002, HO_863003, BK852, BK862, HB⟩ := hcut
            cases kq with
            | zero => exact absurd HA.out (by simp [laws_FnPacked.j1])
            | succ kj27 =>
              have H := HA.out
              clear HA
              simp only [laws_FnPacked.j1] at H
              replace H := Option.bind_eq_some_iff.mp H
              obtain ⟨⟨t872, t873, t874, t877⟩, A480, H⟩ := H
              replace H : ((impl_UnpackList.f kj27 t872 t873 t874 t877).bind fun bt881 => ((spec_UnpackList.f kj27 t872 t873 t874 t877).bind fun bt885 => ((impl_BitsIn.f kj27 t872 t873 t874 t877).bind fun bt889 => ((spec_BitsIn.f kj27 t872 t873 t874 t877).bind fun bt891 => ((spec_DrawLowFor.f l1).bind fun bt893 => ((impl_LowFor.f kj27 bt893.1 bt893.2).bind fun bt895 => ((spec_LowFor.f kj27 bt893.1 bt893.2).bind fun bt897 => (if (bt881.2 != bt885.2) = true then (laws_FnPacked.j2 kj27 bt881.1 bt881.2 true t872 t873 t874 t877) else ((laws_sameInts.f kj27 bt881.1 bt885.1).bind fun t899 => (if t899 = true then (if (bt889.2 != bt891.2) = true then (laws_FnPacked.j2 kj27 bt881.1 bt881.2 true t872 t873 t874 t877) else (if bt889.1 = bt891.1 then (if (bt895.2 != bt897.2) = true then (laws_FnPacked.j2 kj27 bt881.1 bt881.2 true t872 t873 t874 t877) else (if bt895.1 = bt897.1 then ((impl_GoodPacked.f kj27 t872 t873 t874 t877).bind fun t900 => (laws_FnPacked.j2 kj27 bt881.1 bt881.2 (t900 != bt881.2) t872 t873 t874 t877)) else (laws_FnPacked.j2 kj27 bt881.1 bt881.2 true t872 t873 t874 t877))) else (laws_FnPacked.j2 kj27 bt881.1 bt881.2 true t872 t873 t874 t877))) else (laws_FnPacked.j2 kj27 bt881.1 bt881.2 true t872 t873 t874 t877))))))))))) = some r := H
              have A48 := Aside0.mk A480
              clear A480
              replace H := Option.bind_eq_some_iff.mp H
              obtain ⟨⟨t881, t884⟩, A490, H⟩ := H
              replace H : ((spec_UnpackList.f kj27 t872 t873 t874 t877).bind fun bt885 => ((impl_BitsIn.f kj27 t872 t873 t874 t877).bind fun bt889 => ((spec_BitsIn.f kj27 t872 t873 t874 t877).bind fun bt891 => ((spec_DrawLowFor.f l1).bind fun bt893 => ((impl_LowFor.f kj27 bt893.1 bt893.2).bind fun bt895 => ((spec_LowFor.f kj27 bt893.1 bt893.2).bind fun bt897 => (if (t884 != bt885.2) = true then (laws_FnPacked.j2 kj27 t881 t884 true t872 t873 t874 t877) else ((laws_sameInts.f kj27 t881 bt885.1).bind fun t899 => (if t899 = true then (if (bt889.2 != bt891.2) = true then (laws_FnPacked.j2 kj27 t881 t884 true t872 t873 t874 t877) else (if bt889.1 = bt891.1 then (if (bt895.2 != bt897.2) = true then (laws_FnPacked.j2 kj27 t881 t884 true t872 t873 t874 t877) else (if bt895.1 = bt897.1 then ((impl_GoodPacked.f kj27 t872 t873 t874 t877).bind fun t900 => (laws_FnPacked.j2 kj27 t881 t884 (t900 != t884) t872 t873 t874 t877)) else (laws_FnPacked.j2 kj27 t881 t884 true t872 t873 t874 t877))) else (laws_FnPacked.j2 kj27 t881 t884 true t872 t873 t874 t877))) else (laws_FnPacked.j2 kj27 t881 t884 true t872 t873 t874 t877)))))))))) = some r := H
              have A49 := Aside0.mk A490
              clear A490
              replace H := Option.bind_eq_some_iff.mp H
              obtain ⟨⟨t885, t888⟩, A500, H⟩ := H
              replace H : ((impl_BitsIn.f kj27 t872 t873 t874 t877).bind fun bt889 => ((spec_BitsIn.f kj27 t872 t873 t874 t877).bind fun bt891 => ((spec_DrawLowFor.f l1).bind fun bt893 => ((impl_LowFor.f kj27 bt893.1 bt893.2).bind fun bt895 => ((spec_LowFor.f kj27 bt893.1 bt893.2).bind fun bt897 => (if (t884 != t888) = true then (laws_FnPacked.j2 kj27 t881 t884 true t872 t873 t874 t877) else ((laws_sameInts.f kj27 t881 t885).bind fun t899 => (if t899 = true then (if (bt889.2 != bt891.2) = true then (laws_FnPacked.j2 kj27 t881 t884 true t872 t873 t874 t877) else (if bt889.1 = bt891.1 then (if (bt895.2 != bt897.2) = true then (laws_FnPacked.j2 kj27 t881 t884 true t872 t873 t874 t877) else (if bt895.1 = bt897.1 then ((impl_GoodPacked.f kj27 t872 t873 t874 t877).bind fun t900 => (laws_FnPacked.j2 kj27 t881 t884 (t900 != t884) t872 t873 t874 t877)) else (laws_FnPacked.j2 kj27 t881 t884 true t872 t873 t874 t877))) else (laws_FnPacked.j2 kj27 t881 t884 true t872 t873 t874 t877))) else (laws_FnPacked.j2 kj27 t881 t884 true t872 t873 t874 t877))))))))) = some r := H
              have A50 := Aside0.mk A500
              clear A500
              replace H := Option.bind_eq_some_iff.mp H
              obtain ⟨⟨t889, t890⟩, A510, H⟩ := H
              replace H : ((spec_BitsIn.f kj27 t872 t873 t874 t877).bind fun bt891 => ((spec_DrawLowFor.f l1).bind fun bt893 => ((impl_LowFor.f kj27 bt893.1 bt893.2).bind fun bt895 => ((spec_LowFor.f kj27 bt893.1 bt893.2).bind fun bt897 => (if (t884 != t888) = true then (laws_FnPacked.j2 kj27 t881 t884 true t872 t873 t874 t877) else ((laws_sameInts.f kj27 t881 t885).bind fun t899 => (if t899 = true then (if (t890 != bt891.2) = true then (laws_FnPacked.j2 kj27 t881 t884 true t872 t873 t874 t877) else (if t889 = bt891.1 then (if (bt895.2 != bt897.2) = true then (laws_FnPacked.j2 kj27 t881 t884 true t872 t873 t874 t877) else (if bt895.1 = bt897.1 then ((impl_GoodPacked.f kj27 t872 t873 t874 t877).bind fun t900 => (laws_FnPacked.j2 kj27 t881 t884 (t900 != t884) t872 t873 t874 t877)) else (laws_FnPacked.j2 kj27 t881 t884 true t872 t873 t874 t877))) else (laws_FnPacked.j2 kj27 t881 t884 true t872 t873 t874 t877))) else (laws_FnPacked.j2 kj27 t881 t884 true t872 t873 t874 t877)))))))) = some r := H
              have A51 := Aside0.mk A510
              clear A510
              replace H := Option.bind_eq_some_iff.mp H
              obtain ⟨⟨t891, t892⟩, A520, H⟩ := H
              replace H : ((spec_DrawLowFor.f l1).bind fun bt893 => ((impl_LowFor.f kj27 bt893.1 bt893.2).bind fun bt895 => ((spec_LowFor.f kj27 bt893.1 bt893.2).bind fun bt897 => (if (t884 != t888) = true then (laws_FnPacked.j2 kj27 t881 t884 true t872 t873 t874 t877) else ((laws_sameInts.f kj27 t881 t885).bind fun t899 => (if t899 = true then (if (t890 != t892) = true then (laws_FnPacked.j2 kj27 t881 t884 true t872 t873 t874 t877) else (if t889 = t891 then (if (bt895.2 != bt897.2) = true then (laws_FnPacked.j2 kj27 t881 t884 true t872 t873 t874 t877) else (if bt895.1 = bt897.1 then ((impl_GoodPacked.f kj27 t872 t873 t874 t877).bind fun t900 => (laws_FnPacked.j2 kj27 t881 t884 (t900 != t884) t872 t873 t874 t877)) else (laws_FnPacked.j2 kj27 t881 t884 true t872 t873 t874 t877))) else (laws_FnPacked.j2 kj27 t881 t884 true t872 t873 t874 t877))) else (laws_FnPacked.j2 kj27 t881 t884 true t872 t873 t874 t877))))))) = some r := H
              have A52 := Aside0.mk A520
              clear A520
              replace H := Option.bind_eq_some_iff.mp H
              obtain ⟨⟨t893, t894⟩, A530, H⟩ := H
              replace H : ((impl_LowFor.f kj27 t893 t894).bind fun bt895 => ((spec_LowFor.f kj27 t893 t894).bind fun bt897 => (if (t884 != t888) = true then (laws_FnPacked.j2 kj27 t881 t884 true t872 t873 t874 t877) else ((laws_sameInts.f kj27 t881 t885).bind fun t899 => (if t899 = true then (if (t890 != t892) = true then (laws_FnPacked.j2 kj27 t881 t884 true t872 t873 t874 t877) else (if t889 = t891 then (if (bt895.2 != bt897.2) = true then (laws_FnPacked.j2 kj27 t881 t884 true t872 t873 t874 t877) else (if bt895.1 = bt897.1 then ((impl_GoodPacked.f kj27 t872 t873 t874 t877).bind fun t900 => (laws_FnPacked.j2 kj27 t881 t884 (t900 != t884) t872 t873 t874 t877)) else (laws_FnPacked.j2 kj27 t881 t884 true t872 t873 t874 t877))) else (laws_FnPacked.j2 kj27 t881 t884 true t872 t873 t874 t877))) else (laws_FnPacked.j2 kj27 t881 t884 true t872 t873 t874 t877)))))) = some r := H
              have A53 := Aside0.mk A530
              clear A530
              replace H := Option.bind_eq_some_iff.mp H
              obtain ⟨⟨t895, t896⟩, A540, H⟩ := H
              replace H : ((spec_LowFor.f kj27 t893 t894).bind fun bt897 => (if (t884 != t888) = true then (laws_FnPacked.j2 kj27 t881 t884 true t872 t873 t874 t877) else ((laws_sameInts.f kj27 t881 t885).bind fun t899 => (if t899 = true then (if (t890 != t892) = true then (laws_FnPacked.j2 kj27 t881 t884 true t872 t873 t874 t877) else (if t889 = t891 then (if (t896 != bt897.2) = true then (laws_FnPacked.j2 kj27 t881 t884 true t872 t873 t874 t877) else (if t895 = bt897.1 then ((impl_GoodPacked.f kj27 t872 t873 t874 t877).bind fun t900 => (laws_FnPacked.j2 kj27 t881 t884 (t900 != t884) t872 t873 t874 t877)) else (laws_FnPacked.j2 kj27 t881 t884 true t872 t873 t874 t877))) else (laws_FnPacked.j2 kj27 t881 t884 true t872 t873 t874 t877))) else (laws_FnPacked.j2 kj27 t881 t884 true t872 t873 t874 t877))))) = some r := H
              have A54 := Aside0.mk A540
              clear A540
              replace H := Option.bind_eq_some_iff.mp H
              obtain ⟨⟨t897, t898⟩, A550, H⟩ := H
              replace H : (if (t884 != t888) = true then (laws_FnPacked.j2 kj27 t881 t884 true t872 t873 t874 t877) else ((laws_sameInts.f kj27 t881 t885).bind fun t899 => (if t899 = true then (if (t890 != t892) = true then (laws_FnPacked.j2 kj27 t881 t884 true t872 t873 t874 t877) else (if t889 = t891 then (if (t896 != t898) = true then (laws_FnPacked.j2 kj27 t881 t884 true t872 t873 t874 t877) else (if t895 = t897 then ((impl_GoodPacked.f kj27 t872 t873 t874 t877).bind fun t900 => (laws_FnPacked.j2 kj27 t881 t884 (t900 != t884) t872 t873 t874 t877)) else (laws_FnPacked.j2 kj27 t881 t884 true t872 t873 t874 t877))) else (laws_FnPacked.j2 kj27 t881 t884 true t872 t873 t874 t877))) else (laws_FnPacked.j2 kj27 t881 t884 true t872 t873 t874 t877)))) = some r := H
              have A55 := Aside0.mk A550
              clear A550
              have HC56 := Aside0.mk H
              clear H
              go_upto_region 21 with (first | ((with_reducible refine gate_callee (f := 38) rfl ?_); refine goesL_ (some 97) rfl rfl Try.func38 (by kernel_rfl) rfl #[.slice A1 l1.length c1] rfl (by (try simp only [List.map_toArray, List.map_cons, List.map_nil]); first | done | rfl | (simp only [List.length_drop, List.length_take]; rfl)) ?_; (with_reducible refine (spec_DrawUnpackList.calls kj27 _ _ l1 t872 t873 t874 t877 _ ?side1 ?side2 A48.out).mono ?_); (case side1 => repeat (first | exact (Kd.C_below HR1.out HB.out) | (with_reducible refine Kd.C_alloc ?_ _) | (with_reducible refine Kd.C_drewN ?_ _) | (with_reducible refine Kd.C_drew ?_))); (case side2 => exact HC1.out); rintro e w57 ⟨v875, v878, rfl, ho0, ho1, hb⟩; refine ⟨_, rfl, ?_⟩; have n0_ := Aside0.mk (Kd.R_elder' (by (with_reducible repeat (first | apply Kd.R_alloc | apply Kd.R_drewN | apply Kd.R_drew)); exact HO_853002.out) (Kd.R_base ho0) hb); have n1_ := Aside0.mk (Kd.R_elder' (by (with_reducible repeat (first | apply Kd.R_alloc | apply Kd.R_drewN | apply Kd.R_drew)); exact HO_853003.out) (Kd.R_base ho1) hb); have n2_ := Aside0.mk (Kd.R_elder' (by (with_reducible repeat (first | apply Kd.R_alloc | apply Kd.R_drewN | apply Kd.R_drew)); exact HO_863002.out) (Kd.R_base ho0) hb); have n3_ := Aside0.mk (Kd.R_elder' (by (with_reducible repeat (first | apply Kd.R_alloc | apply Kd.R_drewN | apply Kd.R_drew)); exact HO_863003.out) (Kd.R_base ho1) hb); have n4_ := Aside0.mk (Kd.R_lower (Kd.R_new' (Kd.R_new' ho0 (Kd.R_lt (by (with_reducible repeat (first | apply Kd.R_alloc | apply Kd.R_drewN | apply Kd.R_drew)); exact HO_853002.out))) (Kd.R_lt (by (with_reducible repeat (first | apply Kd.R_alloc | apply Kd.R_drewN | apply Kd.R_drew)); exact HO_863002.out))) (below_size (by repeat (first | (with_reducible first | exact HB.out | apply below_alloc | apply pw_below_drewN | apply below_drew1 | refine below_set ?_ GE852.out | refine below_set ?_ GE862.out) | exact HB.out)))); have n5_ := Aside0.mk (Kd.R_lower (Kd.R_new' (Kd.R_new' ho1 (Kd.R_lt (by (with_reducible repeat (first | apply Kd.R_alloc | apply Kd.R_drewN | apply Kd.R_drew)); exact HO_853003.out))) (Kd.R_lt (by (with_reducible repeat (first | apply Kd.R_alloc | apply Kd.R_drewN | apply Kd.R_drew)); exact HO_863003.out))) (below_size (by repeat (first | (with_reducible first | exact HB.out | apply below_alloc | apply pw_below_drewN | apply below_drew1 | refine below_set ?_ GE852.out | refine below_set ?_ GE862.out) | exact HB.out)))); have n6_ := Aside0.mk (blk_below (g := gb852) (o := .cells #[.int .i64 t843, .int .i64 t844, .slice Ao13 t845.length co13, .slice Ao14 t848.length co14] 25 (0, 0)) (by (with_reducible repeat (first | refine blk_drewN ?_ _ | refine blk_drew ?_ | refine blk_alloc ?_ _)); exact BK852.out) hb); have n7_ := Aside0.mk (blk_below (g := gb862) (o := .cells #[.int .i64 t853, .int .i64 t854, .slice Ao19 t855.length co19, .slice Ao20 t858.length co20] 25 (0, 0)) (by (with_reducible repeat (first | refine blk_drewN ?_ _ | refine blk_drew ?_ | refine blk_alloc ?_ _)); exact BK862.out) hb); have n8_ := Aside0.mk (below_step (by repeat (first | (with_reducible first | exact HB.out | apply below_alloc | apply pw_below_drewN | apply below_drew1 | refine below_set ?_ GE852.out | refine below_set ?_ GE862.out) | exact HB.out)) hb); clear HO_853002; clear HO_853003; clear HO_863002; clear HO_863003; clear BK852; clear BK862; clear HB; have HO_853002 := n0_; have HO_853003 := n1_; have HO_863002 := n2_; have HO_863003 := n3_; have HO876 := n4_; have HO879 := n5_; have BK852 := n6_; have BK862 := n7_; have HB := n8_; clear n0_ n1_ n2_ n3_ n4_ n5_ n6_ n7_ n8_; (try clear hb); (try clear hb2); (try clear hk); (try clear hi); (try clear ho0); (try clear ho1)) | ((with_reducible refine gate_dst (N := 14) rfl ?_); (try (refine gate_guard (by rfl) ?_; dsimp only)); refine box_event ?hg (N := 14) ?hd (cs := #[.int .i64 0, .int .i64 0, .slice none 0 0, .slice none 0 0]) (t := 25) ?hr ?_; (case hd => rfl); (case hg => rfl); (case hr => first | (go_simp; done) | (go_simp; rfl)); intro gb880 hg w58 hbox hb; have n0_ := Aside0.mk (Kd.R_below (by (with_reducible repeat (first | apply Kd.R_alloc | apply Kd.R_drewN | apply Kd.R_drew)); exact HO_853002.out) hb); have n1_ := Aside0.mk (Kd.R_below (by (with_reducible repeat (first | apply Kd.R_alloc | apply Kd.R_drewN | apply Kd.R_drew)); exact HO_853003.out) hb); have n2_ := Aside0.mk (Kd.R_below (by (with_reducible repeat (first | apply Kd.R_alloc | apply Kd.R_drewN | apply Kd.R_drew)); exact HO_863002.out) hb); have n3_ := Aside0.mk (Kd.R_below (by (with_reducible repeat (first | apply Kd.R_alloc | apply Kd.R_drewN | apply Kd.R_drew)); exact HO_863003.out) hb); have n4_ := Aside0.mk (Kd.R_below (by (with_reducible repeat (first | apply Kd.R_alloc | apply Kd.R_drewN | apply Kd.R_drew)); exact HO876.out) hb); have n5_ := Aside0.mk (Kd.R_below (by (with_reducible repeat (first | apply Kd.R_alloc | apply Kd.R_drewN | apply Kd.R_drew)); exact HO879.out) hb); have n6_ := Aside0.mk (blk_below (g := gb852) (o := .cells #[.int .i64 t843, .int .i64 t844, .slice Ao13 t845.length co13, .slice Ao14 t848.length co14] 25 (0, 0)) (by (with_reducible repeat (first | refine blk_drewN ?_ _ | refine blk_drew ?_ | refine blk_alloc ?_ _)); exact BK852.out) hb); have n7_ := Aside0.mk (blk_below (g := gb862) (o := .cells #[.int .i64 t853, .int .i64 t854, .slice Ao19 t855.length co19, .slice Ao20 t858.length co20] 25 (0, 0)) (by (with_reducible repeat (first | refine blk_drewN ?_ _ | refine blk_drew ?_ | refine blk_alloc ?_ _)); exact BK862.out) hb); have n8_ := Aside0.mk (below_step (by repeat (first | (with_reducible first | exact HB.out | apply below_alloc | apply pw_below_drewN | apply below_drew1 | refine below_set ?_ GE852.out | refine below_set ?_ GE862.out) | exact HB.out)) hb); have n9_ := Aside0.mk (hbox); have n10_ := Aside0.mk ((by rw [hg]; exact (below_size (by repeat (first | (with_reducible first | exact HB.out | apply below_alloc | apply pw_below_drewN | apply below_drew1 | refine below_set ?_ GE852.out | refine below_set ?_ GE862.out) | exact HB.out))) : w.heap.size ≤ gb880)); have n11_ := Aside0.mk ((by rw [hg]; exact (below_size (by repeat (first | (with_reducible first | exact HB.out | apply below_alloc | apply pw_below_drewN | apply below_drew1 | refine below_set ?_ GE852.out | refine below_set ?_ GE862.out) | exact HB.out))) : w.heap.size ≤ gb880)); have n12_ := Aside0.mk ((by rw [hg]; exact Nat.ne_of_lt (blk_lt (g := gb852) (o := .cells #[.int .i64 t843, .int .i64 t844, .slice Ao13 t845.length co13, .slice Ao14 t848.length co14] 25 (0, 0)) (by (with_reducible repeat (first | refine blk_drewN ?_ _ | refine blk_drew ?_ | refine blk_alloc ?_ _)); exact BK852.out)) : gb852 ≠ gb880)); have n13_ := Aside0.mk ((by rw [hg]; exact Nat.ne_of_gt (blk_lt (g := gb852) (o := .cells #[.int .i64 t843, .int .i64 t844, .slice Ao13 t845.length co13, .slice Ao14 t848.length co14] 25 (0, 0)) (by (with_reducible repeat (first | refine blk_drewN ?_ _ | refine blk_drew ?_ | refine blk_alloc ?_ _)); exact BK852.out)) : gb880 ≠ gb852)); have n14_ := Aside0.mk ((by rw [hg]; exact Nat.ne_of_lt (blk_lt (g := gb862) (o := .cells #[.int .i64 t853, .int .i64 t854, .slice Ao19 t855.length co19, .slice Ao20 t858.length co20] 25 (0, 0)) (by (with_reducible repeat (first | refine blk_drewN ?_ _ | refine blk_drew ?_ | refine blk_alloc ?_ _)); exact BK862.out)) : gb862 ≠ gb880)); have n15_ := Aside0.mk ((by rw [hg]; exact Nat.ne_of_gt (blk_lt (g := gb862) (o := .cells #[.int .i64 t853, .int .i64 t854, .slice Ao19 t855.length co19, .slice Ao20 t858.length co20] 25 (0, 0)) (by (with_reducible repeat (first | refine blk_drewN ?_ _ | refine blk_drew ?_ | refine blk_alloc ?_ _)); exact BK862.out)) : gb880 ≠ gb862)); clear HO_853002; clear HO_853003; clear HO_863002; clear HO_863003; clear HO876; clear HO879; clear BK852; clear BK862; clear HB; have HO_853002 := n0_; have HO_853003 := n1_; have HO_863002 := n2_; have HO_863003 := n3_; have HO876 := n4_; have HO879 := n5_; have BK852 := n6_; have BK862 := n7_; have HB := n8_; have BK880 := n9_; have GW880 := n10_; have GE880 := n11_; have NB852_880 := n12_; have NB880_852 := n13_; have NB862_880 := n14_; have NB880_862 := n15_; clear n0_ n1_ n2_ n3_ n4_ n5_ n6_ n7_ n8_ n9_ n10_ n11_ n12_ n13_ n14_ n15_; clear hb hbox hg; have hnb59 := NB880_852.out; have hnc59 := NB852_880.out; have hnb60 := NB880_862.out; have hnc60 := NB862_880.out; have hcz61_0 : w58.cell? ⟨gb880, 0, none⟩ = some (.int .i64 0) := (blk_cell BK880.out 0).trans rfl; have hcz61_1 : w58.cell? ⟨gb880, 1, none⟩ = some (.int .i64 0) := (blk_cell BK880.out 1).trans rfl; have hcz61_2 : w58.cell? ⟨gb880, 2, none⟩ = some (.slice none 0 0) := (blk_cell BK880.out 2).trans rfl; have hcz61_3 : w58.cell? ⟨gb880, 3, none⟩ = some (.slice none 0 0) := (blk_cell BK880.out 3).trans rfl; have hfz61_0 := blk_frozen BK880.out 0; have hfz61_1 := blk_frozen BK880.out 1; have hfz61_2 := blk_frozen BK880.out 2; have hfz61_3 := blk_frozen BK880.out 3; obtain ⟨Ao62, co62, eo62⟩ := Kd.R_slice HO876.out; subst eo62; obtain ⟨Ao63, co63, eo63⟩ := Kd.R_slice HO879.out; subst eo63) | ((with_reducible refine gate_callee (f := 25) rfl ?_); refine goesL_ (some 100) rfl rfl Try.func25 (by kernel_rfl) rfl #[.agg #[.int .i64 t872, .int .i64 t873, .slice Ao62 t874.length co62, .slice Ao63 t877.length co63]] rfl (by (try simp only [List.map_toArray, List.map_cons, List.map_nil]); first | done | rfl | (simp only [List.length_drop, List.length_take]; rfl)) ?_; (with_reducible refine (impl_UnpackList.calls kj27 t872 t873 _ _ t874 _ _ t877 t881 t884 _ ?side1 ?side2 ?side3 ?side4 A49.out).mono ?_); (case side1 => refine (Kd.R_reads' (e := 3) (base := w.heap.size) (ok := fun k_ => ((True ∧ some k_ ≠ (.slice Ao13 t845.length co13 : Value).ownBlock) ∧ some k_ ≠ (.slice Ao19 t855.length co19 : Value).ownBlock)) (n := t874.length) (c := co62) ?_).2.2; exact (by (with_reducible repeat (first | apply Kd.R_alloc | apply Kd.R_drewN | apply Kd.R_drew)); exact (Kd.R_mono (Kd.R_far (p := ⟨gb880, 3, none⟩) (Kd.R_far (p := ⟨gb880, 2, none⟩) (Kd.R_far (p := ⟨gb880, 1, none⟩) (Kd.R_far (p := ⟨gb880, 0, none⟩) (Kd.R_types HO876.out BK880.out (by decide)) (fun _ hk => hk.2) (.int .i64 t872)) (fun _ hk => hk.2) (.int .i64 t873)) (fun _ hk => hk.2) (.slice Ao62 t874.length co62)) (fun _ hk => hk.2) (.slice Ao63 t877.length co63)) (fun _ h_ => h_.1)))); (case side2 => exact (Kd.R_reads' HO876.out).2.1); (case side3 => refine (Kd.R_reads' (e := 4) (base := w.heap.size) (ok := fun k_ => ((True ∧ some k_ ≠ (.slice Ao14 t848.length co14 : Value).ownBlock) ∧ some k_ ≠ (.slice Ao20 t858.length co20 : Value).ownBlock)) (n := t877.length) (c := co63) ?_).2.2; exact (by (with_reducible repeat (first | apply Kd.R_alloc | apply Kd.R_drewN | apply Kd.R_drew)); exact (Kd.R_mono (Kd.R_far (p := ⟨gb880, 3, none⟩) (Kd.R_far (p := ⟨gb880, 2, none⟩) (Kd.R_far (p := ⟨gb880, 1, none⟩) (Kd.R_far (p := ⟨gb880, 0, none⟩) (Kd.R_types HO879.out BK880.out (by decide)) (fun _ hk => hk.2) (.int .i64 t872)) (fun _ hk => hk.2) (.int .i64 t873)) (fun _ hk => hk.2) (.slice Ao62 t874.length co62)) (fun _ hk => hk.2) (.slice Ao63 t877.length co63)) (fun _ h_ => h_.1)))); (case side4 => exact (Kd.R_reads' HO879.out).2.1); rintro e w64 ⟨v882, rfl, ho0, hb⟩; refine ⟨_, rfl, ?_⟩; have n0_ := Aside0.mk (Kd.R_elder' (by (with_reducible repeat (first | apply Kd.R_alloc | apply Kd.R_drewN | apply Kd.R_drew)); exact (Kd.R_mono (Kd.R_far (p := ⟨gb880, 3, none⟩) (Kd.R_far (p := ⟨gb880, 2, none⟩) (Kd.R_far (p := ⟨gb880, 1, none⟩) (Kd.R_far (p := ⟨gb880, 0, none⟩) (Kd.R_types HO_853002.out BK880.out (by decide)) (fun _ hk => hk.2) (.int .i64 t872)) (fun _ hk => hk.2) (.int .i64 t873)) (fun _ hk => hk.2) (.slice Ao62 t874.length co62)) (fun _ hk => hk.2) (.slice Ao63 t877.length co63)) (fun _ h_ => h_.1))) (Kd.R_base ho0) hb); have n1_ := Aside0.mk (Kd.R_below (by (with_reducible repeat (first | apply Kd.R_alloc | apply Kd.R_drewN | apply Kd.R_drew)); exact (Kd.R_mono (Kd.R_far (p := ⟨gb880, 3, none⟩) (Kd.R_far (p := ⟨gb880, 2, none⟩) (Kd.R_far (p := ⟨gb880, 1, none⟩) (Kd.R_far (p := ⟨gb880, 0, none⟩) (Kd.R_types HO_853003.out BK880.out (by decide)) (fun _ hk => hk.2) (.int .i64 t872)) (fun _ hk => hk.2) (.int .i64 t873)) (fun _ hk => hk.2) (.slice Ao62 t874.length co62)) (fun _ hk => hk.2) (.slice Ao63 t877.length co63)) (fun _ h_ => h_.1))) hb); have n2_ := Aside0.mk (Kd.R_elder' (by (with_reducible repeat (first | apply Kd.R_alloc | apply Kd.R_drewN | apply Kd.R_drew)); exact (Kd.R_mono (Kd.R_far (p := ⟨gb880, 3, none⟩) (Kd.R_far (p := ⟨gb880, 2, none⟩) (Kd.R_far (p := ⟨gb880, 1, none⟩) (Kd.R_far (p := ⟨gb880, 0, none⟩) (Kd.R_types HO_863002.out BK880.out (by decide)) (fun _ hk => hk.2) (.int .i64 t872)) (fun _ hk => hk.2) (.int .i64 t873)) (fun _ hk => hk.2) (.slice Ao62 t874.length co62)) (fun _ hk => hk.2) (.slice Ao63 t877.length co63)) (fun _ h_ => h_.1))) (Kd.R_base ho0) hb); have n3_ := Aside0.mk (Kd.R_below (by (with_reducible repeat (first | apply Kd.R_alloc | apply Kd.R_drewN | apply Kd.R_drew)); exact (Kd.R_mono (Kd.R_far (p := ⟨gb880, 3, none⟩) (Kd.R_far (p := ⟨gb880, 2, none⟩) (Kd.R_far (p := ⟨gb880, 1, none⟩) (Kd.R_far (p := ⟨gb880, 0, none⟩) (Kd.R_types HO_863003.out BK880.out (by decide)) (fun _ hk => hk.2) (.int .i64 t872)) (fun _ hk => hk.2) (.int .i64 t873)) (fun _ hk => hk.2) (.slice Ao62 t874.length co62)) (fun _ hk => hk.2) (.slice Ao63 t877.length co63)) (fun _ h_ => h_.1))) hb); have n4_ := Aside0.mk (Kd.R_elder' (by (with_reducible repeat (first | apply Kd.R_alloc | apply Kd.R_drewN | apply Kd.R_drew)); exact (Kd.R_mono (Kd.R_far (p := ⟨gb880, 3, none⟩) (Kd.R_far (p := ⟨gb880, 2, none⟩) (Kd.R_far (p := ⟨gb880, 1, none⟩) (Kd.R_far (p := ⟨gb880, 0, none⟩) (Kd.R_types HO876.out BK880.out (by decide)) (fun _ hk => hk.2) (.int .i64 t872)) (fun _ hk => hk.2) (.int .i64 t873)) (fun _ hk => hk.2) (.slice Ao62 t874.length co62)) (fun _ hk => hk.2) (.slice Ao63 t877.length co63)) (fun _ h_ => h_.1))) (Kd.R_base ho0) hb); have n5_ := Aside0.mk (Kd.R_below (by (with_reducible repeat (first | apply Kd.R_alloc | apply Kd.R_drewN | apply Kd.R_drew)); exact (Kd.R_mono (Kd.R_far (p := ⟨gb880, 3, none⟩) (Kd.R_far (p := ⟨gb880, 2, none⟩) (Kd.R_far (p := ⟨gb880, 1, none⟩) (Kd.R_far (p := ⟨gb880, 0, none⟩) (Kd.R_types HO879.out BK880.out (by decide)) (fun _ hk => hk.2) (.int .i64 t872)) (fun _ hk => hk.2) (.int .i64 t873)) (fun _ hk => hk.2) (.slice Ao62 t874.length co62)) (fun _ hk => hk.2) (.slice Ao63 t877.length co63)) (fun _ h_ => h_.1))) hb); have n6_ := Aside0.mk (Kd.R_lower (Kd.R_new' (Kd.R_new' (Kd.R_new' ho0 (Kd.R_lt (by (with_reducible repeat (first | apply Kd.R_alloc | apply Kd.R_drewN | apply Kd.R_drew)); exact (Kd.R_mono (Kd.R_far (p := ⟨gb880, 3, none⟩) (Kd.R_far (p := ⟨gb880, 2, none⟩) (Kd.R_far (p := ⟨gb880, 1, none⟩) (Kd.R_far (p := ⟨gb880, 0, none⟩) (Kd.R_types HO_853002.out BK880.out (by decide)) (fun _ hk => hk.2) (.int .i64 t872)) (fun _ hk => hk.2) (.int .i64 t873)) (fun _ hk => hk.2) (.slice Ao62 t874.length co62)) (fun _ hk => hk.2) (.slice Ao63 t877.length co63)) (fun _ h_ => h_.1))))) (Kd.R_lt (by (with_reducible repeat (first | apply Kd.R_alloc | apply Kd.R_drewN | apply Kd.R_drew)); exact (Kd.R_mono (Kd.R_far (p := ⟨gb880, 3, none⟩) (Kd.R_far (p := ⟨gb880, 2, none⟩) (Kd.R_far (p := ⟨gb880, 1, none⟩) (Kd.R_far (p := ⟨gb880, 0, none⟩) (Kd.R_types HO_863002.out BK880.out (by decide)) (fun _ hk => hk.2) (.int .i64 t872)) (fun _ hk => hk.2) (.int .i64 t873)) (fun _ hk => hk.2) (.slice Ao62 t874.length co62)) (fun _ hk => hk.2) (.slice Ao63 t877.length co63)) (fun _ h_ => h_.1))))) (Kd.R_lt (by (with_reducible repeat (first | apply Kd.R_alloc | apply Kd.R_drewN | apply Kd.R_drew)); exact (Kd.R_mono (Kd.R_far (p := ⟨gb880, 3, none⟩) (Kd.R_far (p := ⟨gb880, 2, none⟩) (Kd.R_far (p := ⟨gb880, 1, none⟩) (Kd.R_far (p := ⟨gb880, 0, none⟩) (Kd.R_types HO876.out BK880.out (by decide)) (fun _ hk => hk.2) (.int .i64 t872)) (fun _ hk => hk.2) (.int .i64 t873)) (fun _ hk => hk.2) (.slice Ao62 t874.length co62)) (fun _ hk => hk.2) (.slice Ao63 t877.length co63)) (fun _ h_ => h_.1))))) (below_size (by repeat (first | (with_reducible first | exact HB.out | apply below_alloc | apply pw_below_drewN | apply below_drew1 | refine below_set ?_ GE852.out | refine below_set ?_ GE862.out | refine below_set ?_ GE880.out) | exact HB.out)))); have n7_ := Aside0.mk (blk_below (g := gb852) (o := .cells #[.int .i64 t843, .int .i64 t844, .slice Ao13 t845.length co13, .slice Ao14 t848.length co14] 25 (0, 0)) (by (with_reducible repeat (first | refine blk_drewN ?_ _ | refine blk_drew ?_ | refine blk_alloc ?_ _)); refine blk_far ?_ NB852_880.out _; (with_reducible repeat (first | refine blk_drewN ?_ _ | refine blk_drew ?_ | refine blk_alloc ?_ _)); refine blk_far ?_ NB852_880.out _; (with_reducible repeat (first | refine blk_drewN ?_ _ | refine blk_drew ?_ | refine blk_alloc ?_ _)); refine blk_far ?_ NB852_880.out _; (with_reducible repeat (first | refine blk_drewN ?_ _ | refine blk_drew ?_ | refine blk_alloc ?_ _)); refine blk_far ?_ NB852_880.out _; (with_reducible repeat (first | refine blk_drewN ?_ _ | refine blk_drew ?_ | refine blk_alloc ?_ _)); exact BK852.out) hb); have n8_ := Aside0.mk (blk_below (g := gb862) (o := .cells #[.int .i64 t853, .int .i64 t854, .slice Ao19 t855.length co19, .slice Ao20 t858.length co20] 25 (0, 0)) (by (with_reducible repeat (first | refine blk_drewN ?_ _ | refine blk_drew ?_ | refine blk_alloc ?_ _)); refine blk_far ?_ NB862_880.out _; (with_reducible repeat (first | refine blk_drewN ?_ _ | refine blk_drew ?_ | refine blk_alloc ?_ _)); refine blk_far ?_ NB862_880.out _; (with_reducible repeat (first | refine blk_drewN ?_ _ | refine blk_drew ?_ | refine blk_alloc ?_ _)); refine blk_far ?_ NB862_880.out _; (with_reducible repeat (first | refine blk_drewN ?_ _ | refine blk_drew ?_ | refine blk_alloc ?_ _)); refine blk_far ?_ NB862_880.out _; (with_reducible repeat (first | refine blk_drewN ?_ _ | refine blk_drew ?_ | refine blk_alloc ?_ _)); exact BK862.out) hb); have n9_ := Aside0.mk (blk_below (g := gb880) (o := .cells #[.int .i64 t872, .int .i64 t873, .slice Ao62 t874.length co62, .slice Ao63 t877.length co63] 25 (0, 0)) (by (with_reducible repeat (first | refine blk_drewN ?_ _ | refine blk_drew ?_ | refine blk_alloc ?_ _)); refine blk_put (cs := #[.int .i64 t872, .int .i64 t873, .slice Ao62 t874.length co62, .slice none 0 0]) ?_ 3 _ rfl; (with_reducible repeat (first | refine blk_drewN ?_ _ | refine blk_drew ?_ | refine blk_alloc ?_ _)); refine blk_put (cs := #[.int .i64 t872, .int .i64 t873, .slice none 0 0, .slice none 0 0]) ?_ 2 _ rfl; (with_reducible repeat (first | refine blk_drewN ?_ _ | refine blk_drew ?_ | refine blk_alloc ?_ _)); refine blk_put (cs := #[.int .i64 t872, .int .i64 0, .slice none 0 0, .slice none 0 0]) ?_ 1 _ rfl; (with_reducible repeat (first | refine blk_drewN ?_ _ | refine blk_drew ?_ | refine blk_alloc ?_ _)); refine blk_put (cs := #[.int .i64 0, .int .i64 0, .slice none 0 0, .slice none 0 0]) ?_ 0 _ rfl; (with_reducible repeat (first | refine blk_drewN ?_ _ | refine blk_drew ?_ | refine blk_alloc ?_ _)); exact BK880.out) hb); have n10_ := Aside0.mk (below_step (by repeat (first | (with_reducible first | exact HB.out | apply below_alloc | apply pw_below_drewN | apply below_drew1 | refine below_set ?_ GE852.out | refine below_set ?_ GE862.out | refine below_set ?_ GE880.out) | exact HB.out)) hb); clear HO_853002; clear HO_853003; clear HO_863002; clear HO_863003; clear HO876; clear HO879; clear BK852; clear BK862; clear BK880; clear HB; have HO_853002 := n0_; have HO_853003 := n1_; have HO_863002 := n2_; have HO_863003 := n3_; have HO876 := n4_; have HO879 := n5_; have HO883 := n6_; have BK852 := n7_; have BK862 := n8_; have BK880 := n9_; have HB := n10_; clear n0_ n1_ n2_ n3_ n4_ n5_ n6_ n7_ n8_ n9_ n10_; (try clear hb); (try clear hb2); (try clear hk); (try clear hi); (try clear ho0); have hcz65_0 : w64.cell? ⟨gb880, 0, none⟩ = some (.int .i64 t872) := (blk_cell BK880.out 0).trans rfl; have hcz65_1 : w64.cell? ⟨gb880, 1, none⟩ = some (.int .i64 t873) := (blk_cell BK880.out 1).trans rfl; have hcz65_2 : w64.cell? ⟨gb880, 2, none⟩ = some (.slice Ao62 t874.length co62) := (blk_cell BK880.out 2).trans rfl; have hcz65_3 : w64.cell? ⟨gb880, 3, none⟩ = some (.slice Ao63 t877.length co63) := (blk_cell BK880.out 3).trans rfl; have hfz65_0 := blk_frozen BK880.out 0; have hfz65_1 := blk_frozen BK880.out 1; have hfz65_2 := blk_frozen BK880.out 2; have hfz65_3 := blk_frozen BK880.out 3) | ((with_reducible refine gate_callee (f := 24) rfl ?_); refine goesL_ (some 105) rfl rfl Try.func24 (by kernel_rfl) rfl #[.agg #[.int .i64 t872, .int .i64 t873, .slice Ao62 t874.length co62, .slice Ao63 t877.length co63]] rfl (by (try simp only [List.map_toArray, List.map_cons, List.map_nil]); first | done | rfl | (simp only [List.length_drop, List.length_take]; rfl)) ?_; (with_reducible refine (spec_UnpackList.calls kj27 t872 t873 _ _ t874 _ _ t877 t885 t888 _ ?side1 ?side2 ?side3 ?side4 A50.out).mono ?_); (case side1 => repeat (first | exact (Kd.R_reads' HO876.out).2.2 | (with_reducible refine Kd.C_alloc ?_ _) | (with_reducible refine Kd.C_drewN ?_ _) | (with_reducible refine Kd.C_drew ?_))); (case side2 => exact (Kd.R_reads' HO876.out).2.1); (case side3 => repeat (first | exact (Kd.R_reads' HO879.out).2.2 | (with_reducible refine Kd.C_alloc ?_ _) | (with_reducible refine Kd.C_drewN ?_ _) | (with_reducible refine Kd.C_drew ?_))); (case side4 => exact (Kd.R_reads' HO879.out).2.1); rintro e w66 ⟨v886, rfl, ho0, hb⟩; refine ⟨_, rfl, ?_⟩; have n0_ := Aside0.mk (Kd.R_elder' (by (with_reducible repeat (first | apply Kd.R_alloc | apply Kd.R_drewN | apply Kd.R_drew)); exact HO_853002.out) (Kd.R_base ho0) hb); have n1_ := Aside0.mk (Kd.R_below (by (with_reducible repeat (first | apply Kd.R_alloc | apply Kd.R_drewN | apply Kd.R_drew)); exact HO_853003.out) hb); have n2_ := Aside0.mk (Kd.R_elder' (by (with_reducible repeat (first | apply Kd.R_alloc | apply Kd.R_drewN | apply Kd.R_drew)); exact HO_863002.out) (Kd.R_base ho0) hb); have n3_ := Aside0.mk (Kd.R_below (by (with_reducible repeat (first | apply Kd.R_alloc | apply Kd.R_drewN | apply Kd.R_drew)); exact HO_863003.out) hb); have n4_ := Aside0.mk (Kd.R_elder' (by (with_reducible repeat (first | apply Kd.R_alloc | apply Kd.R_drewN | apply Kd.R_drew)); exact HO876.out) (Kd.R_base ho0) hb); have n5_ := Aside0.mk (Kd.R_below (by (with_reducible repeat (first | apply Kd.R_alloc | apply Kd.R_drewN | apply Kd.R_drew)); exact HO879.out) hb); have n6_ := Aside0.mk (Kd.R_elder' (by (with_reducible repeat (first | apply Kd.R_alloc | apply Kd.R_drewN | apply Kd.R_drew)); exact HO883.out) (Kd.R_base ho0) hb); have n7_ := Aside0.mk (Kd.R_lower (Kd.R_new' (Kd.R_new' (Kd.R_new' (Kd.R_new' ho0 (Kd.R_lt (by (with_reducible repeat (first | apply Kd.R_alloc | apply Kd.R_drewN | apply Kd.R_drew)); exact HO_853002.out))) (Kd.R_lt (by (with_reducible repeat (first | apply Kd.R_alloc | apply Kd.R_drewN | apply Kd.R_drew)); exact HO_863002.out))) (Kd.R_lt (by (with_reducible repeat (first | apply Kd.R_alloc | apply Kd.R_drewN | apply Kd.R_drew)); exact HO876.out))) (Kd.R_lt (by (with_reducible repeat (first | apply Kd.R_alloc | apply Kd.R_drewN | apply Kd.R_drew)); exact HO883.out))) (below_size (by repeat (first | (with_reducible first | exact HB.out | apply below_alloc | apply pw_below_drewN | apply below_drew1 | refine below_set ?_ GE852.out | refine below_set ?_ GE862.out | refine below_set ?_ GE880.out) | exact HB.out)))); have n8_ := Aside0.mk (blk_below (g := gb852) (o := .cells #[.int .i64 t843, .int .i64 t844, .slice Ao13 t845.length co13, .slice Ao14 t848.length co14] 25 (0, 0)) (by (with_reducible repeat (first | refine blk_drewN ?_ _ | refine blk_drew ?_ | refine blk_alloc ?_ _)); exact BK852.out) hb); have n9_ := Aside0.mk (blk_below (g := gb862) (o := .cells #[.int .i64 t853, .int .i64 t854, .slice Ao19 t855.length co19, .slice Ao20 t858.length co20] 25 (0, 0)) (by (with_reducible repeat (first | refine blk_drewN ?_ _ | refine blk_drew ?_ | refine blk_alloc ?_ _)); exact BK862.out) hb); have n10_ := Aside0.mk (blk_below (g := gb880) (o := .cells #[.int .i64 t872, .int .i64 t873, .slice Ao62 t874.length co62, .slice Ao63 t877.length co63] 25 (0, 0)) (by (with_reducible repeat (first | refine blk_drewN ?_ _ | refine blk_drew ?_ | refine blk_alloc ?_ _)); exact BK880.out) hb); have n11_ := Aside0.mk (below_step (by repeat (first | (with_reducible first | exact HB.out | apply below_alloc | apply pw_below_drewN | apply below_drew1 | refine below_set ?_ GE852.out | refine below_set ?_ GE862.out | refine below_set ?_ GE880.out) | exact HB.out)) hb); clear HO_853002; clear HO_853003; clear HO_863002; clear HO_863003; clear HO876; clear HO879; clear HO883; clear BK852; clear BK862; clear BK880; clear HB; have HO_853002 := n0_; have HO_853003 := n1_; have HO_863002 := n2_; have HO_863003 := n3_; have HO876 := n4_; have HO879 := n5_; have HO883 := n6_; have HO887 := n7_; have BK852 := n8_; have BK862 := n9_; have BK880 := n10_; have HB := n11_; clear n0_ n1_ n2_ n3_ n4_ n5_ n6_ n7_ n8_ n9_ n10_ n11_; (try clear hb); (try clear hb2); (try clear hk); (try clear hi); (try clear ho0); have hcz67_0 : w66.cell? ⟨gb880, 0, none⟩ = some (.int .i64 t872) := (blk_cell BK880.out 0).trans rfl; have hcz67_1 : w66.cell? ⟨gb880, 1, none⟩ = some (.int .i64 t873) := (blk_cell BK880.out 1).trans rfl; have hcz67_2 : w66.cell? ⟨gb880, 2, none⟩ = some (.slice Ao62 t874.length co62) := (blk_cell BK880.out 2).trans rfl; have hcz67_3 : w66.cell? ⟨gb880, 3, none⟩ = some (.slice Ao63 t877.length co63) := (blk_cell BK880.out 3).trans rfl; have hfz67_0 := blk_frozen BK880.out 0; have hfz67_1 := blk_frozen BK880.out 1; have hfz67_2 := blk_frozen BK880.out 2; have hfz67_3 := blk_frozen BK880.out 3) | ((with_reducible refine gate_callee (f := 32) rfl ?_); refine goesL_ (some 110) rfl rfl Try.func32 (by kernel_rfl) rfl #[.agg #[.int .i64 t872, .int .i64 t873, .slice Ao62 t874.length co62, .slice Ao63 t877.length co63]] rfl (by (try simp only [List.map_toArray, List.map_cons, List.map_nil]); first | done | rfl | (simp only [List.length_drop, List.length_take]; rfl)) ?_; (with_reducible refine (impl_BitsIn.calls kj27 t872 t873 _ _ t874 _ _ t877 t889 t890 _ ?side1 ?side2 ?side3 ?side4 A51.out).mono ?_); (case side1 => repeat (first | exact (Kd.R_reads' HO876.out).2.2 | (with_reducible refine Kd.C_alloc ?_ _) | (with_reducible refine Kd.C_drewN ?_ _) | (with_reducible refine Kd.C_drew ?_))); (case side2 => exact (Kd.R_reads' HO876.out).2.1); (case side3 => repeat (first | exact (Kd.R_reads' HO879.out).2.2 | (with_reducible refine Kd.C_alloc ?_ _) | (with_reducible refine Kd.C_drewN ?_ _) | (with_reducible refine Kd.C_drew ?_))); (case side4 => exact (Kd.R_reads' HO879.out).2.1); rintro e w68 ⟨rfl, hb⟩; refine ⟨_, rfl, ?_⟩; have n0_ := Aside0.mk (Kd.R_below (by (with_reducible repeat (first | apply Kd.R_alloc | apply Kd.R_drewN | apply Kd.R_drew)); exact HO_853002.out) hb); have n1_ := Aside0.mk (Kd.R_below (by (with_reducible repeat (first | apply Kd.R_alloc | apply Kd.R_drewN | apply Kd.R_drew)); exact HO_853003.out) hb); have n2_ := Aside0.mk (Kd.R_below (by (with_reducible repeat (first | apply Kd.R_alloc | apply Kd.R_drewN | apply Kd.R_drew)); exact HO_863002.out) hb); have n3_ := Aside0.mk (Kd.R_below (by (with_reducible repeat (first | apply Kd.R_alloc | apply Kd.R_drewN | apply Kd.R_drew)); exact HO_863003.out) hb); have n4_ := Aside0.mk (Kd.R_below (by (with_reducible repeat (first | apply Kd.R_alloc | apply Kd.R_drewN | apply Kd.R_drew)); exact HO876.out) hb); have n5_ := Aside0.mk (Kd.R_below (by (with_reducible repeat (first | apply Kd.R_alloc | apply Kd.R_drewN | apply Kd.R_drew)); exact HO879.out) hb); have n6_ := Aside0.mk (Kd.R_below (by (with_reducible repeat (first | apply Kd.R_alloc | apply Kd.R_drewN | apply Kd.R_drew)); exact HO883.out) hb); have n7_ := Aside0.mk (Kd.R_below (by (with_reducible repeat (first | apply Kd.R_alloc | apply Kd.R_drewN | apply Kd.R_drew)); exact HO887.out) hb); have n8_ := Aside0.mk (blk_below (g := gb852) (o := .cells #[.int .i64 t843, .int .i64 t844, .slice Ao13 t845.length co13, .slice Ao14 t848.length co14] 25 (0, 0)) (by (with_reducible repeat (first | refine blk_drewN ?_ _ | refine blk_drew ?_ | refine blk_alloc ?_ _)); exact BK852.out) hb); have n9_ := Aside0.mk (blk_below (g := gb862) (o := .cells #[.int .i64 t853, .int .i64 t854, .slice Ao19 t855.length co19, .slice Ao20 t858.length co20] 25 (0, 0)) (by (with_reducible repeat (first | refine blk_drewN ?_ _ | refine blk_drew ?_ | refine blk_alloc ?_ _)); exact BK862.out) hb); have n10_ := Aside0.mk (blk_below (g := gb880) (o := .cells #[.int .i64 t872, .int .i64 t873, .slice Ao62 t874.length co62, .slice Ao63 t877.length co63] 25 (0, 0)) (by (with_reducible repeat (first | refine blk_drewN ?_ _ | refine blk_drew ?_ | refine blk_alloc ?_ _)); exact BK880.out) hb); have n11_ := Aside0.mk (below_step (by repeat (first | (with_reducible first | exact HB.out | apply below_alloc | apply pw_below_drewN | apply below_drew1 | refine below_set ?_ GE852.out | refine below_set ?_ GE862.out | refine below_set ?_ GE880.out) | exact HB.out)) hb); clear HO_853002; clear HO_853003; clear HO_863002; clear HO_863003; clear HO876; clear HO879; clear HO883; clear HO887; clear BK852; clear BK862; clear BK880; clear HB; have HO_853002 := n0_; have HO_853003 := n1_; have HO_863002 := n2_; have HO_863003 := n3_; have HO876 := n4_; have HO879 := n5_; have HO883 := n6_; have HO887 := n7_; have BK852 := n8_; have BK862 := n9_; have BK880 := n10_; have HB := n11_; clear n0_ n1_ n2_ n3_ n4_ n5_ n6_ n7_ n8_ n9_ n10_ n11_; (try clear hb); (try clear hb2); (try clear hk); (try clear hi); have hcz69_0 : w68.cell? ⟨gb880, 0, none⟩ = some (.int .i64 t872) := (blk_cell BK880.out 0).trans rfl; have hcz69_1 : w68.cell? ⟨gb880, 1, none⟩ = some (.int .i64 t873) := (blk_cell BK880.out 1).trans rfl; have hcz69_2 : w68.cell? ⟨gb880, 2, none⟩ = some (.slice Ao62 t874.length co62) := (blk_cell BK880.out 2).trans rfl; have hcz69_3 : w68.cell? ⟨gb880, 3, none⟩ = some (.slice Ao63 t877.length co63) := (blk_cell BK880.out 3).trans rfl; have hfz69_0 := blk_frozen BK880.out 0; have hfz69_1 := blk_frozen BK880.out 1; have hfz69_2 := blk_frozen BK880.out 2; have hfz69_3 := blk_frozen BK880.out 3) | ((with_reducible refine gate_callee (f := 31) rfl ?_); refine goesL_ (some 115) rfl rfl Try.func31 (by kernel_rfl) rfl #[.agg #[.int .i64 t872, .int .i64 t873, .slice Ao62 t874.length co62, .slice Ao63 t877.length co63]] rfl (by (try simp only [List.map_toArray, List.map_cons, List.map_nil]); first | done | rfl | (simp only [List.length_drop, List.length_take]; rfl)) ?_; (with_reducible refine (spec_BitsIn.calls kj27 t872 t873 _ _ t874 _ _ t877 t891 t892 _ ?side1 ?side2 ?side3 ?side4 A52.out).mono ?_); (case side1 => repeat (first | exact (Kd.R_reads' HO876.out).2.2 | (with_reducible refine Kd.C_alloc ?_ _) | (with_reducible refine Kd.C_drewN ?_ _) | (with_reducible refine Kd.C_drew ?_))); (case side2 => exact (Kd.R_reads' HO876.out).2.1); (case side3 => repeat (first | exact (Kd.R_reads' HO879.out).2.2 | (with_reducible refine Kd.C_alloc ?_ _) | (with_reducible refine Kd.C_drewN ?_ _) | (with_reducible refine Kd.C_drew ?_))); (case side4 => exact (Kd.R_reads' HO879.out).2.1); rintro e w70 ⟨rfl, hb⟩; refine ⟨_, rfl, ?_⟩; have n0_ := Aside0.mk (Kd.R_below (by (with_reducible repeat (first | apply Kd.R_alloc | apply Kd.R_drewN | apply Kd.R_drew)); exact HO_853002.out) hb); have n1_ := Aside0.mk (Kd.R_below (by (with_reducible repeat (first | apply Kd.R_alloc | apply Kd.R_drewN | apply Kd.R_drew)); exact HO_853003.out) hb); have n2_ := Aside0.mk (Kd.R_below (by (with_reducible repeat (first | apply Kd.R_alloc | apply Kd.R_drewN | apply Kd.R_drew)); exact HO_863002.out) hb); have n3_ := Aside0.mk (Kd.R_below (by (with_reducible repeat (first | apply Kd.R_alloc | apply Kd.R_drewN | apply Kd.R_drew)); exact HO_863003.out) hb); have n4_ := Aside0.mk (Kd.R_below (by (with_reducible repeat (first | apply Kd.R_alloc | apply Kd.R_drewN | apply Kd.R_drew)); exact HO876.out) hb); have n5_ := Aside0.mk (Kd.R_below (by (with_reducible repeat (first | apply Kd.R_alloc | apply Kd.R_drewN | apply Kd.R_drew)); exact HO879.out) hb); have n6_ := Aside0.mk (Kd.R_below (by (with_reducible repeat (first | apply Kd.R_alloc | apply Kd.R_drewN | apply Kd.R_drew)); exact HO883.out) hb); have n7_ := Aside0.mk (Kd.R_below (by (with_reducible repeat (first | apply Kd.R_alloc | apply Kd.R_drewN | apply Kd.R_drew)); exact HO887.out) hb); have n8_ := Aside0.mk (blk_below (g := gb852) (o := .cells #[.int .i64 t843, .int .i64 t844, .slice Ao13 t845.length co13, .slice Ao14 t848.length co14] 25 (0, 0)) (by (with_reducible repeat (first | refine blk_drewN ?_ _ | refine blk_drew ?_ | refine blk_alloc ?_ _)); exact BK852.out) hb); have n9_ := Aside0.mk (blk_below (g := gb862) (o := .cells #[.int .i64 t853, .int .i64 t854, .slice Ao19 t855.length co19, .slice Ao20 t858.length co20] 25 (0, 0)) (by (with_reducible repeat (first | refine blk_drewN ?_ _ | refine blk_drew ?_ | refine blk_alloc ?_ _)); exact BK862.out) hb); have n10_ := Aside0.mk (blk_below (g := gb880) (o := .cells #[.int .i64 t872, .int .i64 t873, .slice Ao62 t874.length co62, .slice Ao63 t877.length co63] 25 (0, 0)) (by (with_reducible repeat (first | refine blk_drewN ?_ _ | refine blk_drew ?_ | refine blk_alloc ?_ _)); exact BK880.out) hb); have n11_ := Aside0.mk (below_step (by repeat (first | (with_reducible first | exact HB.out | apply below_alloc | apply pw_below_drewN | apply below_drew1 | refine below_set ?_ GE852.out | refine below_set ?_ GE862.out | refine below_set ?_ GE880.out) | exact HB.out)) hb); clear HO_853002; clear HO_853003; clear HO_863002; clear HO_863003; clear HO876; clear HO879; clear HO883; clear HO887; clear BK852; clear BK862; clear BK880; clear HB; have HO_853002 := n0_; have HO_853003 := n1_; have HO_863002 := n2_; have HO_863003 := n3_; have HO876 := n4_; have HO879 := n5_; have HO883 := n6_; have HO887 := n7_; have BK852 := n8_; have BK862 := n9_; have BK880 := n10_; have HB := n11_; clear n0_ n1_ n2_ n3_ n4_ n5_ n6_ n7_ n8_ n9_ n10_ n11_; (try clear hb); (try clear hb2); (try clear hk); (try clear hi)) | ((with_reducible refine gate_callee (f := 39) rfl ?_); refine goesL_ (some 120) rfl rfl Try.func39 (by kernel_rfl) rfl #[.slice A1 l1.length c1] rfl (by (try simp only [List.map_toArray, List.map_cons, List.map_nil]); first | done | rfl | (simp only [List.length_drop, List.length_take]; rfl)) ?_; (with_reducible refine (spec_DrawLowFor.calls _ _ l1 t893 t894 _ ?side1 ?side2 A53.out).mono ?_); (case side1 => repeat (first | exact (Kd.C_below HR1.out HB.out) | (with_reducible refine Kd.C_alloc ?_ _) | (with_reducible refine Kd.C_drewN ?_ _) | (with_reducible refine Kd.C_drew ?_))); (case side2 => exact HC1.out); rintro e w71 ⟨rfl, hb⟩; refine ⟨_, rfl, ?_⟩; have n0_ := Aside0.mk (Kd.R_below (by (with_reducible repeat (first | apply Kd.R_alloc | apply Kd.R_drewN | apply Kd.R_drew)); exact HO_853002.out) hb); have n1_ := Aside0.mk (Kd.R_below (by (with_reducible repeat (first | apply Kd.R_alloc | apply Kd.R_drewN | apply Kd.R_drew)); exact HO_853003.out) hb); have n2_ := Aside0.mk (Kd.R_below (by (with_reducible repeat (first | apply Kd.R_alloc | apply Kd.R_drewN | apply Kd.R_drew)); exact HO_863002.out) hb); have n3_ := Aside0.mk (Kd.R_below (by (with_reducible repeat (first | apply Kd.R_alloc | apply Kd.R_drewN | apply Kd.R_drew)); exact HO_863003.out) hb); have n4_ := Aside0.mk (Kd.R_below (by (with_reducible repeat (first | apply Kd.R_alloc | apply Kd.R_drewN | apply Kd.R_drew)); exact HO876.out) hb); have n5_ := Aside0.mk (Kd.R_below (by (with_reducible repeat (first | apply Kd.R_alloc | apply Kd.R_drewN | apply Kd.R_drew)); exact HO879.out) hb); have n6_ := Aside0.mk (Kd.R_below (by (with_reducible repeat (first | apply Kd.R_alloc | apply Kd.R_drewN | apply Kd.R_drew)); exact HO883.out) hb); have n7_ := Aside0.mk (Kd.R_below (by (with_reducible repeat (first | apply Kd.R_alloc | apply Kd.R_drewN | apply Kd.R_drew)); exact HO887.out) hb); have n8_ := Aside0.mk (blk_below (g := gb852) (o := .cells #[.int .i64 t843, .int .i64 t844, .slice Ao13 t845.length co13, .slice Ao14 t848.length co14] 25 (0, 0)) (by (with_reducible repeat (first | refine blk_drewN ?_ _ | refine blk_drew ?_ | refine blk_alloc ?_ _)); exact BK852.out) hb); have n9_ := Aside0.mk (blk_below (g := gb862) (o := .cells #[.int .i64 t853, .int .i64 t854, .slice Ao19 t855.length co19, .slice Ao20 t858.length co20] 25 (0, 0)) (by (with_reducible repeat (first | refine blk_drewN ?_ _ | refine blk_drew ?_ | refine blk_alloc ?_ _)); exact BK862.out) hb); have n10_ := Aside0.mk (blk_below (g := gb880) (o := .cells #[.int .i64 t872, .int .i64 t873, .slice Ao62 t874.length co62, .slice Ao63 t877.length co63] 25 (0, 0)) (by (with_reducible repeat (first | refine blk_drewN ?_ _ | refine blk_drew ?_ | refine blk_alloc ?_ _)); exact BK880.out) hb); have n11_ := Aside0.mk (below_step (by repeat (first | (with_reducible first | exact HB.out | apply below_alloc | apply pw_below_drewN | apply below_drew1 | refine below_set ?_ GE852.out | refine below_set ?_ GE862.out | refine below_set ?_ GE880.out) | exact HB.out)) hb); clear HO_853002; clear HO_853003; clear HO_863002; clear HO_863003; clear HO876; clear HO879; clear HO883; clear HO887; clear BK852; clear BK862; clear BK880; clear HB; have HO_853002 := n0_; have HO_853003 := n1_; have HO_863002 := n2_; have HO_863003 := n3_; have HO876 := n4_; have HO879 := n5_; have HO883 := n6_; have HO887 := n7_; have BK852 := n8_; have BK862 := n9_; have BK880 := n10_; have HB := n11_; clear n0_ n1_ n2_ n3_ n4_ n5_ n6_ n7_ n8_ n9_ n10_ n11_; (try clear hb); (try clear hb2); (try clear hk); (try clear hi)) | ((with_reducible refine gate_callee (f := 40) rfl ?_); refine goesL_ (some 126) rfl rfl Try.func40 (by kernel_rfl) rfl #[.int .i64 t893, .int .i64 t894] rfl (by (try simp only [List.map_toArray, List.map_cons, List.map_nil]); first | done | rfl | (simp only [List.length_drop, List.length_take]; rfl)) ?_; (with_reducible refine (impl_LowFor.calls kj27 t893 t894 t895 t896 _ A54.out).mono ?_); rintro e w' ⟨rfl, ⟨nd, rfl⟩⟩; refine ⟨_, rfl, ?_⟩) | ((with_reducible refine gate_callee (f := 41) rfl ?_); refine goesL_ (some 132) rfl rfl Try.func41 (by kernel_rfl) rfl #[.int .i64 t893, .int .i64 t894] rfl (by (try simp only [List.map_toArray, List.map_cons, List.map_nil]); first | done | rfl | (simp only [List.length_drop, List.length_take]; rfl)) ?_; (with_reducible refine (spec_LowFor.calls kj27 t893 t894 t897 t898 _ A55.out).mono ?_); rintro e w' ⟨rfl, ⟨nd, rfl⟩⟩; refine ⟨_, rfl, ?_⟩))
              (try simp only [Act.put, List.setIfInBounds_toArray, List.set_cons_zero, List.set_cons_succ])
              go_cut [169] (fun v169 wc => ∃ (kq : Nat) (x169_55 : Bool), v169 = .bool x169_55 ∧ Aside0 (laws_FnPacked.j2 kq t881 t884 x169_55 t872 t873 t874 t877 = some r) ∧ Aside0 (kq ≤ kj27) ∧ Aside0 (Kd.R (Kd.int .i64) 3 wc w.heap.size (fun k_ => some k_ ≠ ((.slice Ao13 t845.length co13) : Value).ownBlock ∧ some k_ ≠ ((.slice Ao19 t855.length co19) : Value).ownBlock ∧ some k_ ≠ ((.slice Ao62 t874.length co62) : Value).ownBlock) v882 t881) ∧ Aside0 (Kd.R (Kd.int .i64) 3 wc w.heap.size (fun k_ => some k_ ≠ (v882 : Value).ownBlock ∧ some k_ ≠ ((.slice Ao19 t855.length co19) : Value).ownBlock ∧ some k_ ≠ ((.slice Ao62 t874.length co62) : Value).ownBlock) (.slice Ao13 t845.length co13) t845) ∧ Aside0 (Kd.R Kd.bool 4 wc w.heap.size (fun k_ => some k_ ≠ ((.slice Ao20 t858.length co20) : Value).ownBlock ∧ some k_ ≠ ((.slice Ao63 t877.length co63) : Value).ownBlock) (.slice Ao14 t848.length co14) t848) ∧ Aside0 (Kd.R (Kd.int .i64) 3 wc w.heap.size (fun k_ => some k_ ≠ (v882 : Value).ownBlock ∧ some k_ ≠ ((.slice Ao13 t845.length co13) : Value).ownBlock ∧ some k_ ≠ ((.slice Ao62 t874.length co62) : Value).ownBlock) (.slice Ao19 t855.length co19) t855) ∧ Aside0 (Kd.R Kd.bool 4 wc w.heap.size (fun k_ => some k_ ≠ ((.slice Ao14 t848.length co14) : Value).ownBlock ∧ some k_ ≠ ((.slice Ao63 t877.length co63) : Value).ownBlock) (.slice Ao20 t858.length co20) t858) ∧ Aside0 (Kd.R (Kd.int .i64) 3 wc w.heap.size (fun k_ => some k_ ≠ (v882 : Value).ownBlock ∧ some k_ ≠ ((.slice Ao13 t845.length co13) : Value).ownBlock ∧ some k_ ≠ ((.slice Ao19 t855.length co19) : Value).ownBlock) (.slice Ao62 t874.length co62) t874) ∧ Aside0 (Kd.R Kd.bool 4 wc w.heap.size (fun k_ => some k_ ≠ ((.slice Ao14 t848.length co14) : Value).ownBlock ∧ some k_ ≠ ((.slice Ao20 t858.length co20) : Value).ownBlock) (.slice Ao63 t877.length co63) t877) ∧ Aside0 (wc.heap[gb852]? = some (.cells #[.int .i64 t843, .int .i64 t844, (.slice Ao13 t845.length co13), (.slice Ao14 t848.length co14)] 25 (0, 0))) ∧ Aside0 (wc.heap[gb862]? = some (.cells #[.int .i64 t853, .int .i64 t854, (.slice Ao19 t855.length co19), (.slice Ao20 t858.length co20)] 25 (0, 0))) ∧ Aside0 (wc.heap[gb880]? = some (.cells #[.int .i64 t872, .int .i64 t873, (.slice Ao62 t874.length co62), (.slice Ao63 t877.length co63)] 25 (0, 0))) ∧ Aside0 (Below w.heap.size w wc))
              case first =>
                have H := HC56.out
                clear HC56
                by_cases c72 : (t884 != t888) = true
                · rw [if_pos c72] at H
                  have c72b0 : (t884 != t888) = true := c72
                  (try (have c72b1 : decide (t884 = t888) = false := by simpa using c72))
                  (try (have c72b2 : (t884 == t888) = false := by simpa using c72))
                  (try (have c72b3 : ¬ (t884 = t888) := by simpa using c72))
                  clear c72
                  (first | rw [c72b0] | (simp only [i64_w, i32_w]; rw [c72b0]) | rw [c72b1] | skip)
                  exact (Go.Proofs.Ytcjebflldmiajaa.Gen.no_true H (by cases kj27 <;> simp [laws_FnPacked.j2]) HT.out).elim
                · rw [if_neg c72] at H
                  have c72b0 : (t884 != t888) = false := by simpa using c72
                  (try (have c72b1 : decide (t884 = t888) = true := by simpa using c72))
                  (try (have c72b2 : (t884 == t888) = true := by simpa using c72))
                  clear c72
                  (first | rw [c72b0] | (simp only [i64_w, i32_w]; rw [c72b0]) | rw [c72b1] | skip)
                  replace H := Option.bind_eq_some_iff.mp H
                  obtain ⟨t899, A730, H⟩ := H
                  replace H : (if t899 = true then (if (t890 != t892) = true then (laws_FnPacked.j2 kj27 t881 t884 true t872 t873 t874 t877) else (if t889 = t891 then (if (t896 != t898) = true then (laws_FnPacked.j2 kj27 t881 t884 true t872 t873 t874 t877) else (if t895 = t897 then ((impl_GoodPacked.f kj27 t872 t873 t874 t877).bind fun t900 => (laws_FnPacked.j2 kj27 t881 t884 (t900 != t884) t872 t873 t874 t877)) else (laws_FnPacked.j2 kj27 t881 t884 true t872 t873 t874 t877))) else (laws_FnPacked.j2 kj27 t881 t884 true t872 t873 t874 t877))) else (laws_FnPacked.j2 kj27 t881 t884 true t872 t873 t874 t877)) = some r := H
                  have A73 := Aside0.mk A730
                  clear A730
                  by_cases c74 : t899 = true
                  · subst c74
                    have H1 : (if (t890 != t892) = true then (laws_FnPacked.j2 kj27 t881 t884 true t872 t873 t874 t877) else (if t889 = t891 then (if (t896 != t898) = true then (laws_FnPacked.j2 kj27 t881 t884 true t872 t873 t874 t877) else (if t895 = t897 then ((impl_GoodPacked.f kj27 t872 t873 t874 t877).bind fun t900 => (laws_FnPacked.j2 kj27 t881 t884 (t900 != t884) t872 t873 t874 t877)) else (laws_FnPacked.j2 kj27 t881 t884 true t872 t873 t874 t877))) else (laws_FnPacked.j2 kj27 t881 t884 true t872 t873 t874 t877))) = some r := by rw [if_pos rfl] at H; exact H
                    clear H
                    have H := H1
                    clear H1
                    by_cases c75 : (t890 != t892) = true
                    · rw [if_pos c75] at H
                      have c75b0 : (t890 != t892) = true := c75
                      (try (have c75b1 : decide (t890 = t892) = false := by simpa using c75))
                      (try (have c75b2 : (t890 == t892) = false := by simpa using c75))
                      (try (have c75b3 : ¬ (t890 = t892) := by simpa using c75))
                      clear c75
                      exact (Go.Proofs.Ytcjebflldmiajaa.Gen.no_true H (by cases kj27 <;> simp [laws_FnPacked.j2]) HT.out).elim
                    · rw [if_neg c75] at H
                      have c75b0 : (t890 != t892) = false := by simpa using c75
                      (try (have c75b1 : decide (t890 = t892) = true := by simpa using c75))
                      (try (have c75b2 : (t890 == t892) = true := by simpa using c75))
                      clear c75
                      by_cases c76 : t889 = t891
                      · rw [if_pos c76] at H
                        have c76b0 : (t889 == t891) = true := beq_iff_eq.mpr c76
                        have c76b1 : (t889 != t891) = false := bne_eq_false_iff_eq.mpr c76
                        clear c76
                        by_cases c77 : (t896 != t898) = true
                        · rw [if_pos c77] at H
                          have c77b0 : (t896 != t898) = true := c77
                          (try (have c77b1 : decide (t896 = t898) = false := by simpa using c77))
                          (try (have c77b2 : (t896 == t898) = false := by simpa using c77))
                          (try (have c77b3 : ¬ (t896 = t898) := by simpa using c77))
                          clear c77
                          exact (Go.Proofs.Ytcjebflldmiajaa.Gen.no_true H (by cases kj27 <;> simp [laws_FnPacked.j2]) HT.out).elim
                        · rw [if_neg c77] at H
                          have c77b0 : (t896 != t898) = false := by simpa using c77
                          (try (have c77b1 : decide (t896 = t898) = true := by simpa using c77))
                          (try (have c77b2 : (t896 == t898) = true := by simpa using c77))
                          clear c77
                          by_cases c78 : t895 = t897
                          · rw [if_pos c78] at H
                            have c78b0 : (t895 == t897) = true := beq_iff_eq.mpr c78
                            have c78b1 : (t895 != t897) = false := bne_eq_false_iff_eq.mpr c78
                            clear c78
                            replace H := Option.bind_eq_some_iff.mp H
                            obtain ⟨t900, A790, H⟩ := H
                            replace H : (laws_FnPacked.j2 kj27 t881 t884 (t900 != t884) t872 t873 t874 t877) = some r := H
                            have A79 := Aside0.mk A790
                            clear A790
                            have H' := Aside0.mk H
                            clear H
                            obtain ⟨Ao80, co80, eo80⟩ := Kd.R_slice HO883.out
                            subst eo80
                            obtain ⟨Ao81, co81, eo81⟩ := Kd.R_slice HO887.out
                            subst eo81
                            go_wp2_with (first | (go_at_call 37; (with_reducible refine (laws_sameInts.calls kj27 _ _ t881 _ _ t885 true _ ?side1 ?side2 ?side3 ?side4 A73.out).mono ?_); (case side1 => repeat (first | exact (Kd.R_reads' HO883.out).2.2 | (with_reducible refine Kd.C_alloc ?_ _) | (with_reducible refine Kd.C_drewN ?_ _) | (with_reducible refine Kd.C_drew ?_))); (case side2 => exact (Kd.R_reads' HO883.out).2.1); (case side3 => repeat (first | exact (Kd.R_reads' HO887.out).2.2 | (with_reducible refine Kd.C_alloc ?_ _) | (with_reducible refine Kd.C_drewN ?_ _) | (with_reducible refine Kd.C_drew ?_))); (case side4 => exact (Kd.R_reads' HO887.out).2.1); rintro e w' ⟨rfl, ⟨nd, rfl⟩⟩; have hnb82 := NB880_852.out; have hnc82 := NB852_880.out; have hnb83 := NB880_862.out; have hnc83 := NB862_880.out; have hcz84_0 : w71.cell? ⟨gb880, 0, none⟩ = some (.int .i64 t872) := (blk_cell BK880.out 0).trans rfl; have hcz84_1 : w71.cell? ⟨gb880, 1, none⟩ = some (.int .i64 t873) := (blk_cell BK880.out 1).trans rfl; have hcz84_2 : w71.cell? ⟨gb880, 2, none⟩ = some (.slice Ao62 t874.length co62) := (blk_cell BK880.out 2).trans rfl; have hcz84_3 : w71.cell? ⟨gb880, 3, none⟩ = some (.slice Ao63 t877.length co63) := (blk_cell BK880.out 3).trans rfl; have hfz84_0 := blk_frozen BK880.out 0; have hfz84_1 := blk_frozen BK880.out 1; have hfz84_2 := blk_frozen BK880.out 2; have hfz84_3 := blk_frozen BK880.out 3) | (go_at_call 23; (with_reducible refine (impl_GoodPacked.calls kj27 t872 t873 _ _ t874 _ _ t877 t900 _ ?side1 ?side2 ?side3 ?side4 A79.out).mono ?_); (case side1 => repeat (first | exact (Kd.R_reads' HO876.out).2.2 | (with_reducible refine Kd.C_alloc ?_ _) | (with_reducible refine Kd.C_drewN ?_ _) | (with_reducible refine Kd.C_drew ?_))); (case side2 => exact (Kd.R_reads' HO876.out).2.1); (case side3 => repeat (first | exact (Kd.R_reads' HO879.out).2.2 | (with_reducible refine Kd.C_alloc ?_ _) | (with_reducible refine Kd.C_drewN ?_ _) | (with_reducible refine Kd.C_drew ?_))); (case side4 => exact (Kd.R_reads' HO879.out).2.1); rintro e w85 ⟨rfl, hb⟩; have n0_ := Aside0.mk (Kd.R_below (by (with_reducible repeat (first | apply Kd.R_alloc | apply Kd.R_drewN | apply Kd.R_drew)); exact HO_853002.out) hb); have n1_ := Aside0.mk (Kd.R_below (by (with_reducible repeat (first | apply Kd.R_alloc | apply Kd.R_drewN | apply Kd.R_drew)); exact HO_853003.out) hb); have n2_ := Aside0.mk (Kd.R_below (by (with_reducible repeat (first | apply Kd.R_alloc | apply Kd.R_drewN | apply Kd.R_drew)); exact HO_863002.out) hb); have n3_ := Aside0.mk (Kd.R_below (by (with_reducible repeat (first | apply Kd.R_alloc | apply Kd.R_drewN | apply Kd.R_drew)); exact HO_863003.out) hb); have n4_ := Aside0.mk (Kd.R_below (by (with_reducible repeat (first | apply Kd.R_alloc | apply Kd.R_drewN | apply Kd.R_drew)); exact HO876.out) hb); have n5_ := Aside0.mk (Kd.R_below (by (with_reducible repeat (first | apply Kd.R_alloc | apply Kd.R_drewN | apply Kd.R_drew)); exact HO879.out) hb); have n6_ := Aside0.mk (Kd.R_below (by (with_reducible repeat (first | apply Kd.R_alloc | apply Kd.R_drewN | apply Kd.R_drew)); exact HO883.out) hb); have n7_ := Aside0.mk (Kd.R_below (by (with_reducible repeat (first | apply Kd.R_alloc | apply Kd.R_drewN | apply Kd.R_drew)); exact HO887.out) hb); have n8_ := Aside0.mk (blk_below (g := gb852) (o := .cells #[.int .i64 t843, .int .i64 t844, .slice Ao13 t845.length co13, .slice Ao14 t848.length co14] 25 (0, 0)) (by (with_reducible repeat (first | refine blk_drewN ?_ _ | refine blk_drew ?_ | refine blk_alloc ?_ _)); exact BK852.out) hb); have n9_ := Aside0.mk (blk_below (g := gb862) (o := .cells #[.int .i64 t853, .int .i64 t854, .slice Ao19 t855.length co19, .slice Ao20 t858.length co20] 25 (0, 0)) (by (with_reducible repeat (first | refine blk_drewN ?_ _ | refine blk_drew ?_ | refine blk_alloc ?_ _)); exact BK862.out) hb); have n10_ := Aside0.mk (blk_below (g := gb880) (o := .cells #[.int .i64 t872, .int .i64 t873, .slice Ao62 t874.length co62, .slice Ao63 t877.length co63] 25 (0, 0)) (by (with_reducible repeat (first | refine blk_drewN ?_ _ | refine blk_drew ?_ | refine blk_alloc ?_ _)); exact BK880.out) hb); have n11_ := Aside0.mk (below_step (by repeat (first | (with_reducible first | exact HB.out | apply below_alloc | apply pw_below_drewN | apply below_drew1 | refine below_set ?_ GE852.out | refine below_set ?_ GE862.out | refine below_set ?_ GE880.out) | exact HB.out)) hb); clear HO_853002; clear HO_853003; clear HO_863002; clear HO_863003; clear HO876; clear HO879; clear HO883; clear HO887; clear BK852; clear BK862; clear BK880; clear HB; have HO_853002 := n0_; have HO_853003 := n1_; have HO_863002 := n2_; have HO_863003 := n3_; have HO876 := n4_; have HO879 := n5_; have HO883 := n6_; have HO887 := n7_; have BK852 := n8_; have BK862 := n9_; have BK880 := n10_; have HB := n11_; clear n0_ n1_ n2_ n3_ n4_ n5_ n6_ n7_ n8_ n9_ n10_ n11_; (try clear hb); (try clear hb2); (try clear hk); (try clear hi)))
                            go_meet
                            case rel => exact ⟨_, ((t900 != t884)), (by first | rfl | (simp; done) | (simp [*]; done)), H', ⟨by have := HJ6.out; have := HJ27.out; first | omega | exact Nat.le_refl _⟩, ⟨by (with_reducible repeat (first | apply Kd.R_alloc | apply Kd.R_drewN | apply Kd.R_drew)); exact Kd.R_mono HO883.out (fun _ hk => ⟨hk.1.1.1.2, ⟨hk.1.1.2, hk.1.2⟩⟩)⟩, ⟨by (with_reducible repeat (first | apply Kd.R_alloc | apply Kd.R_drewN | apply Kd.R_drew)); exact Kd.R_mono HO_853002.out (fun _ hk => ⟨hk.1.2, ⟨hk.1.1.1, hk.1.1.2⟩⟩)⟩, ⟨by (with_reducible repeat (first | apply Kd.R_alloc | apply Kd.R_drewN | apply Kd.R_drew)); exact HO_853003.out⟩, ⟨by (with_reducible repeat (first | apply Kd.R_alloc | apply Kd.R_drewN | apply Kd.R_drew)); exact Kd.R_mono HO_863002.out (fun _ hk => ⟨hk.1.2, ⟨hk.1.1.1, hk.1.1.2⟩⟩)⟩, ⟨by (with_reducible repeat (first | apply Kd.R_alloc | apply Kd.R_drewN | apply Kd.R_drew)); exact HO_863003.out⟩, ⟨by (with_reducible repeat (first | apply Kd.R_alloc | apply Kd.R_drewN | apply Kd.R_drew)); exact Kd.R_mono HO876.out (fun _ hk => ⟨hk.1.2, ⟨hk.1.1.1.2, hk.1.1.2⟩⟩)⟩, ⟨by (with_reducible repeat (first | apply Kd.R_alloc | apply Kd.R_drewN | apply Kd.R_drew)); exact Kd.R_mono HO879.out (fun _ hk => ⟨hk.1.2, hk.2⟩)⟩, ⟨by (with_reducible repeat (first | refine blk_drewN ?_ _ | refine blk_drew ?_ | refine blk_alloc ?_ _)); exact BK852.out⟩, ⟨by (with_reducible repeat (first | refine blk_drewN ?_ _ | refine blk_drew ?_ | refine blk_alloc ?_ _)); exact BK862.out⟩, ⟨by (with_reducible repeat (first | refine blk_drewN ?_ _ | refine blk_drew ?_ | refine blk_alloc ?_ _)); exact BK880.out⟩, ⟨by repeat (first | (with_reducible first | exact HB.out | apply below_alloc | apply pw_below_drewN | apply below_drew1 | refine below_set ?_ GE852.out | refine below_set ?_ GE862.out | refine below_set ?_ GE880.out) | exact HB.out)⟩⟩
                          · rw [if_neg c78] at H
                            have c78b0 : (t895 == t897) = false := beq_eq_false_iff_ne.mpr c78
                            have c78b1 : (t895 != t897) = true := bne_iff_ne.mpr c78
                            exact (Go.Proofs.Ytcjebflldmiajaa.Gen.no_true H (by cases kj27 <;> simp [laws_FnPacked.j2]) HT.out).elim
                      · rw [if_neg c76] at H
                        have c76b0 : (t889 == t891) = false := beq_eq_false_iff_ne.mpr c76
                        have c76b1 : (t889 != t891) = true := bne_iff_ne.mpr c76
                        exact (Go.Proofs.Ytcjebflldmiajaa.Gen.no_true H (by cases kj27 <;> simp [laws_FnPacked.j2]) HT.out).elim
                  · replace c74 := Bool.eq_false_iff.mpr c74
                    subst c74
                    have H1 : (laws_FnPacked.j2 kj27 t881 t884 true t872 t873 t874 t877) = some r := by rw [if_neg (show ¬ (false = true) by decide)] at H; exact H
                    clear H
                    have H := H1
                    clear H1
                    exact (Go.Proofs.Ytcjebflldmiajaa.Gen.no_true H (by cases kj27 <;> simp [laws_FnPacked.j2]) HT.out).elim
              case rest =>
                clear HC56
                try clear c1
                try clear c2
                try clear p2
                try clear c3
                try clear c3b0
                try clear c4
                try clear c5
                try clear c6
                try clear p6
                try clear c7
                try clear c8
                try clear c10
                try clear c12
                try clear c14
                try clear c17
                try clear c21
                try clear c21b0
                try clear c21b1
                try clear c21b2
                try clear c23
                try clear c24
                try clear c25
                try clear c27
                try clear c29
                try clear c31
                try clear c32
                try clear c33
                try clear c34
                try clear c35
                try clear c36
                try clear c37
                try clear c38
                try clear c38b0
                try clear c38b1
                try clear c39
                try clear c40
                try clear c41
                try clear c59
                try clear c60
                try clear p64
                try clear c72
                try clear c72b0
                try clear c72b1
                try clear c72b2
                try clear c74
                try clear c75
                try clear c75b0
                try clear c75b1
                try clear c75b2
                try clear c76
                try clear c76b0
                try clear c76b1
                try clear c77
                try clear c77b0
                try clear c77b1
                try clear c77b2
                try clear c78
                try clear c78b0
                try clear c78b1
                try clear c82
                try clear c83
                try clear hcz12_0
                try clear hcz12_1
                try clear hcz12_2
                try clear hcz12_3
                try clear hcz18_0
                try clear hcz18_1
                try clear hcz18_2
                try clear hcz18_3
                try clear hcz24_0
                try clear hcz24_1
                try clear hcz24_2
                try clear hcz24_3
                try clear hcz25_0
                try clear hcz25_1
                try clear hcz25_2
                try clear hcz25_3
                try clear hcz40_0
                try clear hcz40_1
                try clear hcz40_2
                try clear hcz40_3
                try clear hcz42_0
                try clear hcz42_1
                try clear hcz42_2
                try clear hcz42_3
                try clear hcz44_0
                try clear hcz44_1
                try clear hcz44_2
                try clear hcz44_3
                try clear hcz47_0
                try clear hcz47_1
                try clear hcz47_2
                try clear hcz47_3
                try clear hcz61_0
                try clear hcz61_1
                try clear hcz61_2
                try clear hcz61_3
                try clear hcz65_0
                try clear hcz65_1
                try clear hcz65_2
                try clear hcz65_3
                try clear hcz67_0
                try clear hcz67_1
                try clear hcz67_2
                try clear hcz67_3
                try clear hcz69_0
                try clear hcz69_1
                try clear hcz69_2
                try clear hcz69_3
                try clear hcz84_0
                try clear hcz84_1
                try clear hcz84_2
                try clear hcz84_3
                try clear hfz12_0
                try clear hfz12_1
                try clear hfz12_2
                try clear hfz12_3
                try clear hfz18_0
                try clear hfz18_1
                try clear hfz18_2
                try clear hfz18_3
                try clear hfz24_0
                try clear hfz24_1
                try clear hfz24_2
                try clear hfz24_3
                try clear hfz25_0
                try clear hfz25_1
                try clear hfz25_2
                try clear hfz25_3
                try clear hfz40_0
                try clear hfz40_1
                try clear hfz40_2
                try clear hfz40_3
                try clear hfz42_0
                try clear hfz42_1
                try clear hfz42_2
                try clear hfz42_3
                try clear hfz44_0
                try clear hfz44_1
                try clear hfz44_2
                try clear hfz44_3
                try clear hfz47_0
                try clear hfz47_1
                try clear hfz47_2
                try clear hfz47_3
                try clear hfz61_0
                try clear hfz61_1
                try clear hfz61_2
                try clear hfz61_3
                try clear hfz65_0
                try clear hfz65_1
                try clear hfz65_2
                try clear hfz65_3
                try clear hfz67_0
                try clear hfz67_1
                try clear hfz67_2
                try clear hfz67_3
                try clear hfz69_0
                try clear hfz69_1
                try clear hfz69_2
                try clear hfz69_3
                try clear hfz84_0
                try clear hfz84_1
                try clear hfz84_2
                try clear hfz84_3
                try clear p2
                try clear p6
                obtain ⟨kq, x169_55, rfl, HA, HJ55, HO_15, HO_853002, HO_853003, HO_863002, HO_863003, HO_881002, HO_881003, BK852, BK862, BK880, HB⟩ := hcut
                cases kq with
                | zero => exact absurd HA.out (by simp [laws_FnPacked.j2])
                | succ kj55 =>
                  have H := HA.out
                  clear HA
                  simp only [laws_FnPacked.j2] at H
                  by_cases c86 : x169_55 = true
                  · subst c86
                    have H1 : (some false) = some r := by rw [if_pos rfl] at H; exact H
                    clear H
                    have H := H1
                    clear H1
                    exact absurd HT.out (by have H9 := Option.some.inj H; rw [← H9]; decide)
                  · replace c86 := Bool.eq_false_iff.mpr c86
                    subst c86
                    have H1 : (if t884 = true then ((impl_PackList.f kj55 t881).bind fun bt901 => (if bt901.2.2.2.2 = true then ((laws_samePacked.f kj55 bt901.1 bt901.2.1 bt901.2.2.1 bt901.2.2.2.1 t872 t873 t874 t877).bind fun t911 => (some t911)) else (some false))) else (some true)) = some r := by rw [if_neg (show ¬ (false = true) by decide)] at H; exact H
                    clear H
                    have H := H1
                    clear H1
                    by_cases c87 : t884 = true
                    · subst c87
                      have H1 : ((impl_PackList.f kj55 t881).bind fun bt901 => (if bt901.2.2.2.2 = true then ((laws_samePacked.f kj55 bt901.1 bt901.2.1 bt901.2.2.1 bt901.2.2.2.1 t872 t873 t874 t877).bind fun t911 => (some t911)) else (some false))) = some r := by rw [if_pos rfl] at H; exact H
                      clear H
                      have H := H1
                      clear H1
                      replace H := Option.bind_eq_some_iff.mp H
                      obtain ⟨⟨t901, t902, t903, t906, t909⟩, A880, H⟩ := H
                      replace H : (if t909 = true then ((laws_samePacked.f kj55 t901 t902 t903 t906 t872 t873 t874 t877).bind fun t911 => (some t911)) else (some false)) = some r := H
                      have A88 := Aside0.mk A880
                      clear A880
                      by_cases c89 : t909 = true
                      · subst c89
                        have H1 : ((laws_samePacked.f kj55 t901 t902 t903 t906 t872 t873 t874 t877).bind fun t911 => (some t911)) = some r := by rw [if_pos rfl] at H; exact H
                        clear H
                        have H := H1
                        clear H1
                        replace H := Option.bind_eq_some_iff.mp H
                        obtain ⟨t911, A900, H⟩ := H
                        replace H : (some t911) = some r := H
                        have A90 := Aside0.mk A900
                        clear A900
                        obtain rfl := Option.some.inj H
                        obtain ⟨Ao91, co91, eo91⟩ := Kd.R_slice HO_15.out
                        subst eo91
                        go_wp2_with (first | ((with_reducible refine gate_callee (f := 14) rfl ?_); refine goesL_ (some 173) rfl rfl Try.func14 (by kernel_rfl) rfl #[.slice Ao91 t881.length co91] rfl (by (try simp only [List.map_toArray, List.map_cons, List.map_nil]); first | done | rfl | (simp only [List.length_drop, List.length_take]; rfl)) ?_; (with_reducible refine (impl_PackList.calls kj55 _ _ t881 t901 t902 t903 t906 true _ ?side1 ?side2 A88.out).mono ?_); (case side1 => repeat (first | exact (Kd.R_reads' HO_15.out).2.2 | (with_reducible refine Kd.C_alloc ?_ _) | (with_reducible refine Kd.C_drewN ?_ _) | (with_reducible refine Kd.C_drew ?_))); (case side2 => exact (Kd.R_reads' HO_15.out).2.1); rintro e w92 ⟨v904, v907, rfl, ho0, ho1, hb⟩; refine ⟨_, rfl, ?_⟩; have n0_ := Aside0.mk (Kd.R_elder' (by (with_reducible repeat (first | apply Kd.R_alloc | apply Kd.R_drewN | apply Kd.R_drew)); exact HO_15.out) (Kd.R_base ho0) hb); have n1_ := Aside0.mk (Kd.R_elder' (by (with_reducible repeat (first | apply Kd.R_alloc | apply Kd.R_drewN | apply Kd.R_drew)); exact HO_853002.out) (Kd.R_base ho0) hb); have n2_ := Aside0.mk (Kd.R_elder' (by (with_reducible repeat (first | apply Kd.R_alloc | apply Kd.R_drewN | apply Kd.R_drew)); exact HO_853003.out) (Kd.R_base ho1) hb); have n3_ := Aside0.mk (Kd.R_elder' (by (with_reducible repeat (first | apply Kd.R_alloc | apply Kd.R_drewN | apply Kd.R_drew)); exact HO_863002.out) (Kd.R_base ho0) hb); have n4_ := Aside0.mk (Kd.R_elder' (by (with_reducible repeat (first | apply Kd.R_alloc | apply Kd.R_drewN | apply Kd.R_drew)); exact HO_863003.out) (Kd.R_base ho1) hb); have n5_ := Aside0.mk (Kd.R_elder' (by (with_reducible repeat (first | apply Kd.R_alloc | apply Kd.R_drewN | apply Kd.R_drew)); exact HO_881002.out) (Kd.R_base ho0) hb); have n6_ := Aside0.mk (Kd.R_elder' (by (with_reducible repeat (first | apply Kd.R_alloc | apply Kd.R_drewN | apply Kd.R_drew)); exact HO_881003.out) (Kd.R_base ho1) hb); have n7_ := Aside0.mk (Kd.R_lower (Kd.R_new' (Kd.R_new' (Kd.R_new' (Kd.R_new' ho0 (Kd.R_lt (by (with_reducible repeat (first | apply Kd.R_alloc | apply Kd.R_drewN | apply Kd.R_drew)); exact HO_15.out))) (Kd.R_lt (by (with_reducible repeat (first | apply Kd.R_alloc | apply Kd.R_drewN | apply Kd.R_drew)); exact HO_853002.out))) (Kd.R_lt (by (with_reducible repeat (first | apply Kd.R_alloc | apply Kd.R_drewN | apply Kd.R_drew)); exact HO_863002.out))) (Kd.R_lt (by (with_reducible repeat (first | apply Kd.R_alloc | apply Kd.R_drewN | apply Kd.R_drew)); exact HO_881002.out))) (below_size (by repeat (first | (with_reducible first | exact HB.out | apply below_alloc | apply pw_below_drewN | apply below_drew1 | refine below_set ?_ GE852.out | refine below_set ?_ GE862.out | refine below_set ?_ GE880.out) | exact HB.out)))); have n8_ := Aside0.mk (Kd.R_lower (Kd.R_new' (Kd.R_new' (Kd.R_new' ho1 (Kd.R_lt (by (with_reducible repeat (first | apply Kd.R_alloc | apply Kd.R_drewN | apply Kd.R_drew)); exact HO_853003.out))) (Kd.R_lt (by (with_reducible repeat (first | apply Kd.R_alloc | apply Kd.R_drewN | apply Kd.R_drew)); exact HO_863003.out))) (Kd.R_lt (by (with_reducible repeat (first | apply Kd.R_alloc | apply Kd.R_drewN | apply Kd.R_drew)); exact HO_881003.out))) (below_size (by repeat (first | (with_reducible first | exact HB.out | apply below_alloc | apply pw_below_drewN | apply below_drew1 | refine below_set ?_ GE852.out | refine below_set ?_ GE862.out | refine below_set ?_ GE880.out) | exact HB.out)))); have n9_ := Aside0.mk (blk_below (g := gb852) (o := .cells #[.int .i64 t843, .int .i64 t844, .slice Ao13 t845.length co13, .slice Ao14 t848.length co14] 25 (0, 0)) (by (with_reducible repeat (first | refine blk_drewN ?_ _ | refine blk_drew ?_ | refine blk_alloc ?_ _)); exact BK852.out) hb); have n10_ := Aside0.mk (blk_below (g := gb862) (o := .cells #[.int .i64 t853, .int .i64 t854, .slice Ao19 t855.length co19, .slice Ao20 t858.length co20] 25 (0, 0)) (by (with_reducible repeat (first | refine blk_drewN ?_ _ | refine blk_drew ?_ | refine blk_alloc ?_ _)); exact BK862.out) hb); have n11_ := Aside0.mk (blk_below (g := gb880) (o := .cells #[.int .i64 t872, .int .i64 t873, .slice Ao62 t874.length co62, .slice Ao63 t877.length co63] 25 (0, 0)) (by (with_reducible repeat (first | refine blk_drewN ?_ _ | refine blk_drew ?_ | refine blk_alloc ?_ _)); exact BK880.out) hb); have n12_ := Aside0.mk (below_step (by repeat (first | (with_reducible first | exact HB.out | apply below_alloc | apply pw_below_drewN | apply below_drew1 | refine below_set ?_ GE852.out | refine below_set ?_ GE862.out | refine below_set ?_ GE880.out) | exact HB.out)) hb); clear HO_15; clear HO_853002; clear HO_853003; clear HO_863002; clear HO_863003; clear HO_881002; clear HO_881003; clear BK852; clear BK862; clear BK880; clear HB; have HO_15 := n0_; have HO_853002 := n1_; have HO_853003 := n2_; have HO_863002 := n3_; have HO_863003 := n4_; have HO_881002 := n5_; have HO_881003 := n6_; have HO905 := n7_; have HO908 := n8_; have BK852 := n9_; have BK862 := n10_; have BK880 := n11_; have HB := n12_; clear n0_ n1_ n2_ n3_ n4_ n5_ n6_ n7_ n8_ n9_ n10_ n11_ n12_; (try clear hb); (try clear hb2); (try clear hk); (try clear hi); (try clear ho0); (try clear ho1)) | ((with_reducible refine gate_dst (N := 29) rfl ?_); (try (refine gate_guard (by rfl) ?_; dsimp only)); refine box_event ?hg (N := 29) ?hd (cs := #[.int .i64 0, .int .i64 0, .slice none 0 0, .slice none 0 0]) (t := 25) ?hr ?_; (case hd => rfl); (case hg => rfl); (case hr => first | (go_simp; done) | (go_simp; rfl)); intro gb910 hg w93 hbox hb; have n0_ := Aside0.mk (Kd.R_below (by (with_reducible repeat (first | apply Kd.R_alloc | apply Kd.R_drewN | apply Kd.R_drew)); exact HO_15.out) hb); have n1_ := Aside0.mk (Kd.R_below (by (with_reducible repeat (first | apply Kd.R_alloc | apply Kd.R_drewN | apply Kd.R_drew)); exact HO_853002.out) hb); have n2_ := Aside0.mk (Kd.R_below (by (with_reducible repeat (first | apply Kd.R_alloc | apply Kd.R_drewN | apply Kd.R_drew)); exact HO_853003.out) hb); have n3_ := Aside0.mk (Kd.R_below (by (with_reducible repeat (first | apply Kd.R_alloc | apply Kd.R_drewN | apply Kd.R_drew)); exact HO_863002.out) hb); have n4_ := Aside0.mk (Kd.R_below (by (with_reducible repeat (first | apply Kd.R_alloc | apply Kd.R_drewN | apply Kd.R_drew)); exact HO_863003.out) hb); have n5_ := Aside0.mk (Kd.R_below (by (with_reducible repeat (first | apply Kd.R_alloc | apply Kd.R_drewN | apply Kd.R_drew)); exact HO_881002.out) hb); have n6_ := Aside0.mk (Kd.R_below (by (with_reducible repeat (first | apply Kd.R_alloc | apply Kd.R_drewN | apply Kd.R_drew)); exact HO_881003.out) hb); have n7_ := Aside0.mk (Kd.R_below (by (with_reducible repeat (first | apply Kd.R_alloc | apply Kd.R_drewN | apply Kd.R_drew)); exact HO905.out) hb); have n8_ := Aside0.mk (Kd.R_below (by (with_reducible repeat (first | apply Kd.R_alloc | apply Kd.R_drewN | apply Kd.R_drew)); exact HO908.out) hb); have n9_ := Aside0.mk (blk_below (g := gb852) (o := .cells #[.int .i64 t843, .int .i64 t844, .slice Ao13 t845.length co13, .slice Ao14 t848.length co14] 25 (0, 0)) (by (with_reducible repeat (first | refine blk_drewN ?_ _ | refine blk_drew ?_ | refine blk_alloc ?_ _)); exact BK852.out) hb); have n10_ := Aside0.mk (blk_below (g := gb862) (o := .cells #[.int .i64 t853, .int .i64 t854, .slice Ao19 t855.length co19, .slice Ao20 t858.length co20] 25 (0, 0)) (by (with_reducible repeat (first | refine blk_drewN ?_ _ | refine blk_drew ?_ | refine blk_alloc ?_ _)); exact BK862.out) hb); have n11_ := Aside0.mk (blk_below (g := gb880) (o := .cells #[.int .i64 t872, .int .i64 t873, .slice Ao62 t874.length co62, .slice Ao63 t877.length co63] 25 (0, 0)) (by (with_reducible repeat (first | refine blk_drewN ?_ _ | refine blk_drew ?_ | refine blk_alloc ?_ _)); exact BK880.out) hb); have n12_ := Aside0.mk (below_step (by repeat (first | (with_reducible first | exact HB.out | apply below_alloc | apply pw_below_drewN | apply below_drew1 | refine below_set ?_ GE852.out | refine below_set ?_ GE862.out | refine below_set ?_ GE880.out) | exact HB.out)) hb); have n13_ := Aside0.mk (hbox); have n14_ := Aside0.mk ((by rw [hg]; exact (below_size (by repeat (first | (with_reducible first | exact HB.out | apply below_alloc | apply pw_below_drewN | apply below_drew1 | refine below_set ?_ GE852.out | refine below_set ?_ GE862.out | refine below_set ?_ GE880.out) | exact HB.out))) : w.heap.size ≤ gb910)); have n15_ := Aside0.mk ((by rw [hg]; exact (below_size (by repeat (first | (with_reducible first | exact HB.out | apply below_alloc | apply pw_below_drewN | apply below_drew1 | refine below_set ?_ GE852.out | refine below_set ?_ GE862.out | refine below_set ?_ GE880.out) | exact HB.out))) : w.heap.size ≤ gb910)); have n16_ := Aside0.mk ((by rw [hg]; exact Nat.ne_of_lt (blk_lt (g := gb852) (o := .cells #[.int .i64 t843, .int .i64 t844, .slice Ao13 t845.length co13, .slice Ao14 t848.length co14] 25 (0, 0)) (by (with_reducible repeat (first | refine blk_drewN ?_ _ | refine blk_drew ?_ | refine blk_alloc ?_ _)); exact BK852.out)) : gb852 ≠ gb910)); have n17_ := Aside0.mk ((by rw [hg]; exact Nat.ne_of_gt (blk_lt (g := gb852) (o := .cells #[.int .i64 t843, .int .i64 t844, .slice Ao13 t845.length co13, .slice Ao14 t848.length co14] 25 (0, 0)) (by (with_reducible repeat (first | refine blk_drewN ?_ _ | refine blk_drew ?_ | refine blk_alloc ?_ _)); exact BK852.out)) : gb910 ≠ gb852)); have n18_ := Aside0.mk ((by rw [hg]; exact Nat.ne_of_lt (blk_lt (g := gb862) (o := .cells #[.int .i64 t853, .int .i64 t854, .slice Ao19 t855.length co19, .slice Ao20 t858.length co20] 25 (0, 0)) (by (with_reducible repeat (first | refine blk_drewN ?_ _ | refine blk_drew ?_ | refine blk_alloc ?_ _)); exact BK862.out)) : gb862 ≠ gb910)); have n19_ := Aside0.mk ((by rw [hg]; exact Nat.ne_of_gt (blk_lt (g := gb862) (o := .cells #[.int .i64 t853, .int .i64 t854, .slice Ao19 t855.length co19, .slice Ao20 t858.length co20] 25 (0, 0)) (by (with_reducible repeat (first | refine blk_drewN ?_ _ | refine blk_drew ?_ | refine blk_alloc ?_ _)); exact BK862.out)) : gb910 ≠ gb862)); have n20_ := Aside0.mk ((by rw [hg]; exact Nat.ne_of_lt (blk_lt (g := gb880) (o := .cells #[.int .i64 t872, .int .i64 t873, .slice Ao62 t874.length co62, .slice Ao63 t877.length co63] 25 (0, 0)) (by (with_reducible repeat (first | refine blk_drewN ?_ _ | refine blk_drew ?_ | refine blk_alloc ?_ _)); exact BK880.out)) : gb880 ≠ gb910)); have n21_ := Aside0.mk ((by rw [hg]; exact Nat.ne_of_gt (blk_lt (g := gb880) (o := .cells #[.int .i64 t872, .int .i64 t873, .slice Ao62 t874.length co62, .slice Ao63 t877.length co63] 25 (0, 0)) (by (with_reducible repeat (first | refine blk_drewN ?_ _ | refine blk_drew ?_ | refine blk_alloc ?_ _)); exact BK880.out)) : gb910 ≠ gb880)); clear HO_15; clear HO_853002; clear HO_853003; clear HO_863002; clear HO_863003; clear HO_881002; clear HO_881003; clear HO905; clear HO908; clear BK852; clear BK862; clear BK880; clear HB; have HO_15 := n0_; have HO_853002 := n1_; have HO_853003 := n2_; have HO_863002 := n3_; have HO_863003 := n4_; have HO_881002 := n5_; have HO_881003 := n6_; have HO905 := n7_; have HO908 := n8_; have BK852 := n9_; have BK862 := n10_; have BK880 := n11_; have HB := n12_; have BK910 := n13_; have GW910 := n14_; have GE910 := n15_; have NB852_910 := n16_; have NB910_852 := n17_; have NB862_910 := n18_; have NB910_862 := n19_; have NB880_910 := n20_; have NB910_880 := n21_; clear n0_ n1_ n2_ n3_ n4_ n5_ n6_ n7_ n8_ n9_ n10_ n11_ n12_ n13_ n14_ n15_ n16_ n17_ n18_ n19_ n20_ n21_; clear hb hbox hg; have hnb94 := NB910_852.out; have hnc94 := NB852_910.out; have hnb95 := NB910_862.out; have hnc95 := NB862_910.out; have hnb96 := NB910_880.out; have hnc96 := NB880_910.out; have hcz97_0 : w93.cell? ⟨gb910, 0, none⟩ = some (.int .i64 0) := (blk_cell BK910.out 0).trans rfl; have hcz97_1 : w93.cell? ⟨gb910, 1, none⟩ = some (.int .i64 0) := (blk_cell BK910.out 1).trans rfl; have hcz97_2 : w93.cell? ⟨gb910, 2, none⟩ = some (.slice none 0 0) := (blk_cell BK910.out 2).trans rfl; have hcz97_3 : w93.cell? ⟨gb910, 3, none⟩ = some (.slice none 0 0) := (blk_cell BK910.out 3).trans rfl; have hfz97_0 := blk_frozen BK910.out 0; have hfz97_1 := blk_frozen BK910.out 1; have hfz97_2 := blk_frozen BK910.out 2; have hfz97_3 := blk_frozen BK910.out 3; obtain ⟨Ao98, co98, eo98⟩ := Kd.R_slice HO905.out; subst eo98; obtain ⟨Ao99, co99, eo99⟩ := Kd.R_slice HO908.out; subst eo99; have hnb100 := NB880_852.out; have hnc100 := NB852_880.out; have hnb101 := NB880_862.out; have hnc101 := NB862_880.out; have hcz102_0 : w93.cell? ⟨gb880, 0, none⟩ = some (.int .i64 t872) := (blk_cell BK880.out 0).trans rfl; have hcz102_1 : w93.cell? ⟨gb880, 1, none⟩ = some (.int .i64 t873) := (blk_cell BK880.out 1).trans rfl; have hcz102_2 : w93.cell? ⟨gb880, 2, none⟩ = some (.slice Ao62 t874.length co62) := (blk_cell BK880.out 2).trans rfl; have hcz102_3 : w93.cell? ⟨gb880, 3, none⟩ = some (.slice Ao63 t877.length co63) := (blk_cell BK880.out 3).trans rfl; have hfz102_0 := blk_frozen BK880.out 0; have hfz102_1 := blk_frozen BK880.out 1; have hfz102_2 := blk_frozen BK880.out 2; have hfz102_3 := blk_frozen BK880.out 3) | (go_at_call 36; (with_reducible refine (laws_samePacked.calls kj55 t901 t902 _ _ t903 _ _ t906 t872 t873 _ _ t874 _ _ t877 t911 _ ?side1 ?side2 ?side3 ?side4 ?side5 ?side6 ?side7 ?side8 A90.out).mono ?_); (case side1 => refine (Kd.R_reads' (e := 3) (base := w.heap.size) (ok := fun k_ => ((((True ∧ some k_ ≠ (.slice Ao91 t881.length co91 : Value).ownBlock) ∧ some k_ ≠ (.slice Ao13 t845.length co13 : Value).ownBlock) ∧ some k_ ≠ (.slice Ao19 t855.length co19 : Value).ownBlock) ∧ some k_ ≠ (.slice Ao62 t874.length co62 : Value).ownBlock)) (n := t903.length) (c := co98) ?_).2.2; exact (by (with_reducible repeat (first | apply Kd.R_alloc | apply Kd.R_drewN | apply Kd.R_drew)); exact (Kd.R_mono (Kd.R_far (p := ⟨gb910, 3, none⟩) (Kd.R_far (p := ⟨gb910, 2, none⟩) (Kd.R_far (p := ⟨gb910, 1, none⟩) (Kd.R_far (p := ⟨gb910, 0, none⟩) (Kd.R_types HO905.out BK910.out (by decide)) (fun _ hk => hk.2) (.int .i64 t901)) (fun _ hk => hk.2) (.int .i64 t902)) (fun _ hk => hk.2) (.slice Ao98 t903.length co98)) (fun _ hk => hk.2) (.slice Ao99 t906.length co99)) (fun _ h_ => h_.1)))); (case side2 => exact (Kd.R_reads' HO905.out).2.1); (case side3 => refine (Kd.R_reads' (e := 4) (base := w.heap.size) (ok := fun k_ => (((True ∧ some k_ ≠ (.slice Ao14 t848.length co14 : Value).ownBlock) ∧ some k_ ≠ (.slice Ao20 t858.length co20 : Value).ownBlock) ∧ some k_ ≠ (.slice Ao63 t877.length co63 : Value).ownBlock)) (n := t906.length) (c := co99) ?_).2.2; exact (by (with_reducible repeat (first | apply Kd.R_alloc | apply Kd.R_drewN | apply Kd.R_drew)); exact (Kd.R_mono (Kd.R_far (p := ⟨gb910, 3, none⟩) (Kd.R_far (p := ⟨gb910, 2, none⟩) (Kd.R_far (p := ⟨gb910, 1, none⟩) (Kd.R_far (p := ⟨gb910, 0, none⟩) (Kd.R_types HO908.out BK910.out (by decide)) (fun _ hk => hk.2) (.int .i64 t901)) (fun _ hk => hk.2) (.int .i64 t902)) (fun _ hk => hk.2) (.slice Ao98 t903.length co98)) (fun _ hk => hk.2) (.slice Ao99 t906.length co99)) (fun _ h_ => h_.1)))); (case side4 => exact (Kd.R_reads' HO908.out).2.1); (case side5 => refine (Kd.R_reads' (e := 3) (base := w.heap.size) (ok := fun k_ => ((some k_ ≠ (.slice Ao91 t881.length co91 : Value).ownBlock ∧ (some k_ ≠ (.slice Ao13 t845.length co13 : Value).ownBlock ∧ some k_ ≠ (.slice Ao19 t855.length co19 : Value).ownBlock)) ∧ some k_ ≠ (.slice Ao98 t903.length co98 : Value).ownBlock)) (n := t874.length) (c := co62) ?_).2.2; exact (by (with_reducible repeat (first | apply Kd.R_alloc | apply Kd.R_drewN | apply Kd.R_drew)); exact (Kd.R_mono (Kd.R_far (p := ⟨gb910, 3, none⟩) (Kd.R_far (p := ⟨gb910, 2, none⟩) (Kd.R_far (p := ⟨gb910, 1, none⟩) (Kd.R_far (p := ⟨gb910, 0, none⟩) (Kd.R_types HO_881002.out BK910.out (by decide)) (fun _ hk => hk.2) (.int .i64 t901)) (fun _ hk => hk.2) (.int .i64 t902)) (fun _ hk => hk.2) (.slice Ao98 t903.length co98)) (fun _ hk => hk.2) (.slice Ao99 t906.length co99)) (fun _ h_ => h_.1)))); (case side6 => exact (Kd.R_reads' HO_881002.out).2.1); (case side7 => refine (Kd.R_reads' (e := 4) (base := w.heap.size) (ok := fun k_ => ((some k_ ≠ (.slice Ao14 t848.length co14 : Value).ownBlock ∧ some k_ ≠ (.slice Ao20 t858.length co20 : Value).ownBlock) ∧ some k_ ≠ (.slice Ao99 t906.length co99 : Value).ownBlock)) (n := t877.length) (c := co63) ?_).2.2; exact (by (with_reducible repeat (first | apply Kd.R_alloc | apply Kd.R_drewN | apply Kd.R_drew)); exact (Kd.R_mono (Kd.R_far (p := ⟨gb910, 3, none⟩) (Kd.R_far (p := ⟨gb910, 2, none⟩) (Kd.R_far (p := ⟨gb910, 1, none⟩) (Kd.R_far (p := ⟨gb910, 0, none⟩) (Kd.R_types HO_881003.out BK910.out (by decide)) (fun _ hk => hk.2) (.int .i64 t901)) (fun _ hk => hk.2) (.int .i64 t902)) (fun _ hk => hk.2) (.slice Ao98 t903.length co98)) (fun _ hk => hk.2) (.slice Ao99 t906.length co99)) (fun _ h_ => h_.1)))); (case side8 => exact (Kd.R_reads' HO_881003.out).2.1); rintro e w103 ⟨rfl, hb⟩; have n0_ := Aside0.mk (Kd.R_below (by (with_reducible repeat (first | apply Kd.R_alloc | apply Kd.R_drewN | apply Kd.R_drew)); exact (Kd.R_mono (Kd.R_far (p := ⟨gb910, 3, none⟩) (Kd.R_far (p := ⟨gb910, 2, none⟩) (Kd.R_far (p := ⟨gb910, 1, none⟩) (Kd.R_far (p := ⟨gb910, 0, none⟩) (Kd.R_types HO_15.out BK910.out (by decide)) (fun _ hk => hk.2) (.int .i64 t901)) (fun _ hk => hk.2) (.int .i64 t902)) (fun _ hk => hk.2) (.slice Ao98 t903.length co98)) (fun _ hk => hk.2) (.slice Ao99 t906.length co99)) (fun _ h_ => h_.1))) hb); have n1_ := Aside0.mk (Kd.R_below (by (with_reducible repeat (first | apply Kd.R_alloc | apply Kd.R_drewN | apply Kd.R_drew)); exact (Kd.R_mono (Kd.R_far (p := ⟨gb910, 3, none⟩) (Kd.R_far (p := ⟨gb910, 2, none⟩) (Kd.R_far (p := ⟨gb910, 1, none⟩) (Kd.R_far (p := ⟨gb910, 0, none⟩) (Kd.R_types HO_853002.out BK910.out (by decide)) (fun _ hk => hk.2) (.int .i64 t901)) (fun _ hk => hk.2) (.int .i64 t902)) (fun _ hk => hk.2) (.slice Ao98 t903.length co98)) (fun _ hk => hk.2) (.slice Ao99 t906.length co99)) (fun _ h_ => h_.1))) hb); have n2_ := Aside0.mk (Kd.R_below (by (with_reducible repeat (first | apply Kd.R_alloc | apply Kd.R_drewN | apply Kd.R_drew)); exact (Kd.R_mono (Kd.R_far (p := ⟨gb910, 3, none⟩) (Kd.R_far (p := ⟨gb910, 2, none⟩) (Kd.R_far (p := ⟨gb910, 1, none⟩) (Kd.R_far (p := ⟨gb910, 0, none⟩) (Kd.R_types HO_853003.out BK910.out (by decide)) (fun _ hk => hk.2) (.int .i64 t901)) (fun _ hk => hk.2) (.int .i64 t902)) (fun _ hk => hk.2) (.slice Ao98 t903.length co98)) (fun _ hk => hk.2) (.slice Ao99 t906.length co99)) (fun _ h_ => h_.1))) hb); have n3_ := Aside0.mk (Kd.R_below (by (with_reducible repeat (first | apply Kd.R_alloc | apply Kd.R_drewN | apply Kd.R_drew)); exact (Kd.R_mono (Kd.R_far (p := ⟨gb910, 3, none⟩) (Kd.R_far (p := ⟨gb910, 2, none⟩) (Kd.R_far (p := ⟨gb910, 1, none⟩) (Kd.R_far (p := ⟨gb910, 0, none⟩) (Kd.R_types HO_863002.out BK910.out (by decide)) (fun _ hk => hk.2) (.int .i64 t901)) (fun _ hk => hk.2) (.int .i64 t902)) (fun _ hk => hk.2) (.slice Ao98 t903.length co98)) (fun _ hk => hk.2) (.slice Ao99 t906.length co99)) (fun _ h_ => h_.1))) hb); have n4_ := Aside0.mk (Kd.R_below (by (with_reducible repeat (first | apply Kd.R_alloc | apply Kd.R_drewN | apply Kd.R_drew)); exact (Kd.R_mono (Kd.R_far (p := ⟨gb910, 3, none⟩) (Kd.R_far (p := ⟨gb910, 2, none⟩) (Kd.R_far (p := ⟨gb910, 1, none⟩) (Kd.R_far (p := ⟨gb910, 0, none⟩) (Kd.R_types HO_863003.out BK910.out (by decide)) (fun _ hk => hk.2) (.int .i64 t901)) (fun _ hk => hk.2) (.int .i64 t902)) (fun _ hk => hk.2) (.slice Ao98 t903.length co98)) (fun _ hk => hk.2) (.slice Ao99 t906.length co99)) (fun _ h_ => h_.1))) hb); have n5_ := Aside0.mk (Kd.R_below (by (with_reducible repeat (first | apply Kd.R_alloc | apply Kd.R_drewN | apply Kd.R_drew)); exact (Kd.R_mono (Kd.R_far (p := ⟨gb910, 3, none⟩) (Kd.R_far (p := ⟨gb910, 2, none⟩) (Kd.R_far (p := ⟨gb910, 1, none⟩) (Kd.R_far (p := ⟨gb910, 0, none⟩) (Kd.R_types HO_881002.out BK910.out (by decide)) (fun _ hk => hk.2) (.int .i64 t901)) (fun _ hk => hk.2) (.int .i64 t902)) (fun _ hk => hk.2) (.slice Ao98 t903.length co98)) (fun _ hk => hk.2) (.slice Ao99 t906.length co99)) (fun _ h_ => h_.1))) hb); have n6_ := Aside0.mk (Kd.R_below (by (with_reducible repeat (first | apply Kd.R_alloc | apply Kd.R_drewN | apply Kd.R_drew)); exact (Kd.R_mono (Kd.R_far (p := ⟨gb910, 3, none⟩) (Kd.R_far (p := ⟨gb910, 2, none⟩) (Kd.R_far (p := ⟨gb910, 1, none⟩) (Kd.R_far (p := ⟨gb910, 0, none⟩) (Kd.R_types HO_881003.out BK910.out (by decide)) (fun _ hk => hk.2) (.int .i64 t901)) (fun _ hk => hk.2) (.int .i64 t902)) (fun _ hk => hk.2) (.slice Ao98 t903.length co98)) (fun _ hk => hk.2) (.slice Ao99 t906.length co99)) (fun _ h_ => h_.1))) hb); have n7_ := Aside0.mk (Kd.R_below (by (with_reducible repeat (first | apply Kd.R_alloc | apply Kd.R_drewN | apply Kd.R_drew)); exact (Kd.R_mono (Kd.R_far (p := ⟨gb910, 3, none⟩) (Kd.R_far (p := ⟨gb910, 2, none⟩) (Kd.R_far (p := ⟨gb910, 1, none⟩) (Kd.R_far (p := ⟨gb910, 0, none⟩) (Kd.R_types HO905.out BK910.out (by decide)) (fun _ hk => hk.2) (.int .i64 t901)) (fun _ hk => hk.2) (.int .i64 t902)) (fun _ hk => hk.2) (.slice Ao98 t903.length co98)) (fun _ hk => hk.2) (.slice Ao99 t906.length co99)) (fun _ h_ => h_.1))) hb); have n8_ := Aside0.mk (Kd.R_below (by (with_reducible repeat (first | apply Kd.R_alloc | apply Kd.R_drewN | apply Kd.R_drew)); exact (Kd.R_mono (Kd.R_far (p := ⟨gb910, 3, none⟩) (Kd.R_far (p := ⟨gb910, 2, none⟩) (Kd.R_far (p := ⟨gb910, 1, none⟩) (Kd.R_far (p := ⟨gb910, 0, none⟩) (Kd.R_types HO908.out BK910.out (by decide)) (fun _ hk => hk.2) (.int .i64 t901)) (fun _ hk => hk.2) (.int .i64 t902)) (fun _ hk => hk.2) (.slice Ao98 t903.length co98)) (fun _ hk => hk.2) (.slice Ao99 t906.length co99)) (fun _ h_ => h_.1))) hb); have n9_ := Aside0.mk (blk_below (g := gb852) (o := .cells #[.int .i64 t843, .int .i64 t844, .slice Ao13 t845.length co13, .slice Ao14 t848.length co14] 25 (0, 0)) (by (with_reducible repeat (first | refine blk_drewN ?_ _ | refine blk_drew ?_ | refine blk_alloc ?_ _)); refine blk_far ?_ NB852_910.out _; (with_reducible repeat (first | refine blk_drewN ?_ _ | refine blk_drew ?_ | refine blk_alloc ?_ _)); refine blk_far ?_ NB852_910.out _; (with_reducible repeat (first | refine blk_drewN ?_ _ | refine blk_drew ?_ | refine blk_alloc ?_ _)); refine blk_far ?_ NB852_910.out _; (with_reducible repeat (first | refine blk_drewN ?_ _ | refine blk_drew ?_ | refine blk_alloc ?_ _)); refine blk_far ?_ NB852_910.out _; (with_reducible repeat (first | refine blk_drewN ?_ _ | refine blk_drew ?_ | refine blk_alloc ?_ _)); exact BK852.out) hb); have n10_ := Aside0.mk (blk_below (g := gb862) (o := .cells #[.int .i64 t853, .int .i64 t854, .slice Ao19 t855.length co19, .slice Ao20 t858.length co20] 25 (0, 0)) (by (with_reducible repeat (first | refine blk_drewN ?_ _ | refine blk_drew ?_ | refine blk_alloc ?_ _)); refine blk_far ?_ NB862_910.out _; (with_reducible repeat (first | refine blk_drewN ?_ _ | refine blk_drew ?_ | refine blk_alloc ?_ _)); refine blk_far ?_ NB862_910.out _; (with_reducible repeat (first | refine blk_drewN ?_ _ | refine blk_drew ?_ | refine blk_alloc ?_ _)); refine blk_far ?_ NB862_910.out _; (with_reducible repeat (first | refine blk_drewN ?_ _ | refine blk_drew ?_ | refine blk_alloc ?_ _)); refine blk_far ?_ NB862_910.out _; (with_reducible repeat (first | refine blk_drewN ?_ _ | refine blk_drew ?_ | refine blk_alloc ?_ _)); exact BK862.out) hb); have n11_ := Aside0.mk (blk_below (g := gb880) (o := .cells #[.int .i64 t872, .int .i64 t873, .slice Ao62 t874.length co62, .slice Ao63 t877.length co63] 25 (0, 0)) (by (with_reducible repeat (first | refine blk_drewN ?_ _ | refine blk_drew ?_ | refine blk_alloc ?_ _)); refine blk_far ?_ NB880_910.out _; (with_reducible repeat (first | refine blk_drewN ?_ _ | refine blk_drew ?_ | refine blk_alloc ?_ _)); refine blk_far ?_ NB880_910.out _; (with_reducible repeat (first | refine blk_drewN ?_ _ | refine blk_drew ?_ | refine blk_alloc ?_ _)); refine blk_far ?_ NB880_910.out _; (with_reducible repeat (first | refine blk_drewN ?_ _ | refine blk_drew ?_ | refine blk_alloc ?_ _)); refine blk_far ?_ NB880_910.out _; (with_reducible repeat (first | refine blk_drewN ?_ _ | refine blk_drew ?_ | refine blk_alloc ?_ _)); exact BK880.out) hb); have n12_ := Aside0.mk (blk_below (g := gb910) (o := .cells #[.int .i64 t901, .int .i64 t902, .slice Ao98 t903.length co98, .slice Ao99 t906.length co99] 25 (0, 0)) (by (with_reducible repeat (first | refine blk_drewN ?_ _ | refine blk_drew ?_ | refine blk_alloc ?_ _)); refine blk_put (cs := #[.int .i64 t901, .int .i64 t902, .slice Ao98 t903.length co98, .slice none 0 0]) ?_ 3 _ rfl; (with_reducible repeat (first | refine blk_drewN ?_ _ | refine blk_drew ?_ | refine blk_alloc ?_ _)); refine blk_put (cs := #[.int .i64 t901, .int .i64 t902, .slice none 0 0, .slice none 0 0]) ?_ 2 _ rfl; (with_reducible repeat (first | refine blk_drewN ?_ _ | refine blk_drew ?_ | refine blk_alloc ?_ _)); refine blk_put (cs := #[.int .i64 t901, .int .i64 0, .slice none 0 0, .slice none 0 0]) ?_ 1 _ rfl; (with_reducible repeat (first | refine blk_drewN ?_ _ | refine blk_drew ?_ | refine blk_alloc ?_ _)); refine blk_put (cs := #[.int .i64 0, .int .i64 0, .slice none 0 0, .slice none 0 0]) ?_ 0 _ rfl; (with_reducible repeat (first | refine blk_drewN ?_ _ | refine blk_drew ?_ | refine blk_alloc ?_ _)); exact BK910.out) hb); have n13_ := Aside0.mk (below_step (by repeat (first | (with_reducible first | exact HB.out | apply below_alloc | apply pw_below_drewN | apply below_drew1 | refine below_set ?_ GE852.out | refine below_set ?_ GE862.out | refine below_set ?_ GE880.out | refine below_set ?_ GE910.out) | exact HB.out)) hb); clear HO_15; clear HO_853002; clear HO_853003; clear HO_863002; clear HO_863003; clear HO_881002; clear HO_881003; clear HO905; clear HO908; clear BK852; clear BK862; clear BK880; clear BK910; clear HB; have HO_15 := n0_; have HO_853002 := n1_; have HO_853003 := n2_; have HO_863002 := n3_; have HO_863003 := n4_; have HO_881002 := n5_; have HO_881003 := n6_; have HO905 := n7_; have HO908 := n8_; have BK852 := n9_; have BK862 := n10_; have BK880 := n11_; have BK910 := n12_; have HB := n13_; clear n0_ n1_ n2_ n3_ n4_ n5_ n6_ n7_ n8_ n9_ n10_ n11_ n12_ n13_; (try clear hb); (try clear hb2); (try clear hk); (try clear hi)))
                        go_ret
                        exact ⟨by first | rfl | (simp [errW_none, errW_some] <;> rfl) | (simp [*, errW_none, errW_some] <;> rfl), by repeat (first | (with_reducible first | exact HB.out | apply below_alloc | apply pw_below_drewN | apply below_drew1 | refine below_set ?_ GE852.out | refine below_set ?_ GE862.out | refine below_set ?_ GE880.out | refine below_set ?_ GE910.out) | exact HB.out)⟩
                      · replace c89 := Bool.eq_false_iff.mpr c89
                        subst c89
                        have H1 : (some false) = some r := by rw [if_neg (show ¬ (false = true) by decide)] at H; exact H
                        clear H
                        have H := H1
                        clear H1
                        exact absurd HT.out (by have H9 := Option.some.inj H; rw [← H9]; decide)
                    · replace c87 := Bool.eq_false_iff.mpr c87
                      subst c87
                      have H1 : (some true) = some r := by rw [if_neg (show ¬ (false = true) by decide)] at H; exact H
                      clear H
                      have H := H1
                      clear H1
                      obtain rfl := Option.some.inj H
                      go_wp2
                      go_ret
                      exact ⟨by first | rfl | (simp [errW_none, errW_some] <;> rfl) | (simp [*, errW_none, errW_some] <;> rfl), by repeat (first | (with_reducible first | exact HB.out | apply below_alloc | apply pw_below_drewN | apply below_drew1 | refine below_set ?_ GE852.out | refine below_set ?_ GE862.out | refine below_set ?_ GE880.out) | exact HB.out)⟩

end Go.Proofs.Ytcjebflldmiajaa.Fn
namespace Go.Proofs.Ytcjebflldmiajaa.Pure
open Go.RowKit Go.Proofs.YtcjebflldmiajaaW.PrintWords Go.Proofs.YtcjebflldmiajaaW.PrintLast Go.Proofs.YtcjebflldmiajaaW.PrintMore

theorem wrap_ok {n : Int} (h0 : -9223372036854775808 ≤ n) (h1 : n ≤ 9223372036854775807) : wrap64 n = n := IntWalk.wrap64_in n ⟨h0, h1⟩
theorem wrap_succ {i : Nat} (h : i ≤ 9223372036854775806) : wrap64 ((i : Int) + 1) = ((i + 1 : Nat) : Int) := by
  rw [wrap_ok (by omega) (by omega)]; omega
theorem nat_nonneg (i : Nat) : (0 : Int) ≤ (i : Int) := by omega
section
variable {α : Type} {l t : List α} {i : Nat} {x z : α}
theorem drop_nil (h : l.drop i = []) : ¬ ((i : Int) < (l.length : Int)) := by
  have := List.drop_eq_nil_iff.1 h
  omega
theorem drop_cons (h : l.drop i = x :: t) : ((i : Int) < (l.length : Int)) ∧ l[i]? = some x ∧ l.drop (i + 1) = t := by
  have hlt : i < l.length := by
    rcases Nat.lt_or_ge i l.length with h1 | h1
    · exact h1
    · rw [List.drop_eq_nil_of_le h1] at h; cases h
  rw [List.drop_eq_getElem_cons hlt] at h
  injection h with h1 h2
  exact ⟨by omega, by rw [List.getElem?_eq_getElem hlt, h1], h2⟩
theorem drop_len (h : l.drop i = t) (hi : i ≤ l.length) : i + t.length = l.length := by
  rw [← h, List.length_drop]; omega
theorem getD_at (h : l[i]? = some x) : l.getD ((i : Nat) : Int).toNat z = x := by
  rw [Int.toNat_natCast, List.getD_eq_getElem?_getD, h]; rfl
theorem take_drop_set {n : Nat} {y : α} (h : l.drop i = x :: t) : (l.take i ++ List.replicate (n + 1) z).set i y = l.take i ++ [y] ++ List.replicate n z := by
  have hlt : i < l.length := by have := (drop_cons h).1; omega
  have h0 : i = (l.take i).length := by rw [List.length_take]; omega
  rw [List.set_append_right _ _ (by omega)]
  have h1 : i - (l.take i).length = 0 := by omega
  rw [h1, List.replicate_succ]
  simp
theorem take_next (h : l.drop i = x :: t) : l.take (i + 1) = l.take i ++ [x] := by
  have hlt : i < l.length := by have := (drop_cons h).1; omega
  rw [List.take_succ_eq_append_getElem hlt]
  have := (drop_cons h).2.1
  rw [List.getElem?_eq_getElem hlt] at this
  injection this with this
  rw [this]
theorem take_all (h : l.drop i = []) : l.take i = l := List.take_of_length_le (List.drop_eq_nil_iff.1 h)
end
theorem rd_at {l : List Int} {i : Nat} {x : Int} (h : l[i]? = some x) : rd l (i : Int) = x := getD_at h
theorem rdOf_at {α : Type} {l : List α} {i : Nat} {x z : α} (h : l[i]? = some x) : rdOf z l (i : Int) = x := getD_at h
theorem toList_inj {a b : ByteArray} (h : a.toList = b.toList) : a = b := by
  have h1 : a.data.toList = b.data.toList := by rw [← Lib.toList_data, ← Lib.toList_data, h]
  exact WideShapes.bytes_inj h1
/-- The numbers from c on, as many as n. -/
def from_ (c : Int) : Nat → List Int
  | 0 => []
  | n + 1 => c :: from_ (c + 1) n
theorem from_length (c : Int) (n : Nat) : (from_ c n).length = n := by induction n generalizing c with
  | zero => rfl
  | succ n ih => simp [from_, ih]
end Go.Proofs.Ytcjebflldmiajaa.Pure
namespace Go.Proofs.Ytcjebflldmiajaa.Pure
open Go.RowKit Go.Proofs.YtcjebflldmiajaaW.PrintWords Go.Proofs.YtcjebflldmiajaaW.PrintLast Go.Proofs.YtcjebflldmiajaaW.PrintMore
/-- From the end down to the begin. -/
theorem ev_down (n : Nat) (P : Nat → Prop) (hn : P n) (hs : ∀ i, i < n → P (i + 1) → P i) : P 0 := by
  have : ∀ d, d ≤ n → P (n - d) := by
    intro d
    induction d with
    | zero => intro _; simpa using hn
    | succ d ih =>
      intro hd
      refine hs _ (by omega) ?_
      have e : n - (d + 1) + 1 = n - d := by omega
      rw [e]
      exact ih (by omega)
  have := this n (Nat.le_refl _)
  simpa using this
theorem Ev.at_ {α : Type} {g : Nat → Option α} {r : α} {K : Nat} (h : ∀ k, K ≤ k → g k = some r) : Ev g r := ⟨K, h⟩
theorem Ev.all {α : Type} {g : Nat → Option α} {r : α} (h : ∀ k, g k = some r) : Ev g r := ⟨0, fun k _ => h k⟩
theorem Ev.next {α : Type} {g f : Nat → Option α} {r : α} {K : Nat} (h : ∀ k, K ≤ k → g (k + 1) = f k) (hf : Ev f r) : Ev g r := by
  obtain ⟨K', hf⟩ := hf
  refine ⟨max K K' + 1, fun k hk => ?_⟩
  obtain ⟨m, rfl⟩ : ∃ m, k = m + 1 := ⟨k - 1, by omega⟩
  rw [h m (by omega)]
  exact hf m (by omega)
theorem Ev.same {α : Type} {g f : Nat → Option α} {r : α} {K : Nat} (h : ∀ k, K ≤ k → g k = f k) (hf : Ev f r) : Ev g r := by
  obtain ⟨K', hf⟩ := hf
  exact ⟨max K K', fun k hk => (h k (by omega)).trans (hf k (by omega))⟩
/-- A copy, element by element, into a row that was made. -/
theorem copy_ev {α β : Type} (L : Nat → List β → Int → Option (List β)) (f : α → β) (z : β) (l : List α)
    (hend : ∀ k x3, L (k + 1) x3 (l.length : Int) = some x3)
    (hstep : ∀ (i : Nat) (x : α), l[i]? = some x → ∃ K, ∀ k (x3 : List β), K ≤ k → x3.length = l.length → L (k + 1) x3 (i : Int) = L k (x3.set i (f x)) ((i + 1 : Nat) : Int)) :
    Ev (fun k => L k (List.replicate l.length z) 0) (l.map f) := by
  have := ev_down l.length (fun i => Ev (fun k => L k ((l.take i).map f ++ List.replicate (l.length - i) z) (i : Int)) (l.map f)) ?_ ?_
  · simpa using this
  · refine ⟨1, fun k hk => ?_⟩
    obtain ⟨m, rfl⟩ : ∃ m, k = m + 1 := ⟨k - 1, by omega⟩
    dsimp only
    rw [hend]
    simp
  · intro i hi ih
    have hx : l[i]? = some l[i] := List.getElem?_eq_getElem hi
    obtain ⟨K, hK⟩ := hstep i _ hx
    refine Ev.next (K := K) (fun k hk => ?_) ih
    rw [hK k _ hk (by simp; omega)]
    congr 1
    have h0 : i = ((l.take i).map f).length := by simp; omega
    rw [List.set_append_right _ _ (by omega)]
    have h1 : i - ((l.take i).map f).length = 0 := by omega
    have h2 : l.length - i = (l.length - (i + 1)) + 1 := by omega
    rw [h1, h2, List.replicate_succ, List.set_cons_zero, List.take_succ_eq_append_getElem hi, List.map_append]
    simp
/-- All elements pass. -/
theorem all_ev {ρ : Type} (L : Nat → Int → Option ρ) (n : Nat) (r : ρ) (hend : ∀ k, L (k + 1) (n : Int) = some r)
    (hstep : ∀ (i : Nat), i < n → ∃ K, ∀ k, K ≤ k → L (k + 1) (i : Int) = L k ((i + 1 : Nat) : Int)) : Ev (fun k => L k 0) r := by
  have := ev_down n (fun i => Ev (fun k => L k (i : Int)) r) ⟨1, fun k hk => by obtain ⟨m, rfl⟩ : ∃ m, k = m + 1 := ⟨k - 1, by omega⟩; exact hend m⟩ (fun i hi ih => by
    obtain ⟨K, hK⟩ := hstep i hi
    exact Ev.next hK ih)
  simpa using this
end Go.Proofs.Ytcjebflldmiajaa.Pure
namespace Go.Proofs.Ytcjebflldmiajaa.Pure
open Go.RowKit Go.Proofs.YtcjebflldmiajaaW.PrintWords Go.Proofs.YtcjebflldmiajaaW.PrintLast Go.Proofs.YtcjebflldmiajaaW.PrintMore
section
variable {α β γ δ : Type}
theorem Ev.up {g : Nat → Option α} {r : α} (h : Ev (fun k => g (k + 1)) r) : Ev g r := Ev.next (K := 0) (fun _ _ => rfl) h
theorem Ev.ifp {c : Prop} {dc : Decidable c} {A B : Nat → Option α} {r : α} (hc : c) (h : Ev A r) : Ev (fun k => if c then A k else B k) r :=
  Ev.same (K := 0) (fun k _ => by rw [if_pos hc]) h
theorem Ev.ifn {c : Prop} {dc : Decidable c} {A B : Nat → Option α} {r : α} (hc : ¬ c) (h : Ev B r) : Ev (fun k => if c then A k else B k) r :=
  Ev.same (K := 0) (fun k _ => by rw [if_neg hc]) h
theorem Ev.val {a r : α} (h : a = r) : Ev (fun _ => some a) r := Ev.all fun _ => by rw [h]
theorem Ev.bindS {a : α} {f : Nat → α → Option β} {r : β} (h : Ev (fun k => f k a) r) : Ev (fun k => (some a).bind (f k)) r := Ev.bind (Ev.val rfl) h
theorem Ev.some {g : Nat → Option α} {r : α} (h : Ev g r) : ∃ k, g k = some r := h.elim fun K h => ⟨K, h K (Nat.le_refl _)⟩
/-- Both come to an end, and R holds between what they answer. -/
def Twin (R : α → β → Prop) (A : Nat → Option α) (B : Nat → Option β) : Prop := ∃ a b, R a b ∧ Ev A a ∧ Ev B b
variable {R : α → β → Prop} {A A1 A2 : Nat → Option α} {B B1 B2 : Nat → Option β}
theorem Twin.of {a : α} {b : β} (h : R a b) (ha : Ev A a) (hb : Ev B b) : Twin R A B := ⟨a, b, h, ha, hb⟩
theorem Twin.val {a : α} {b : β} (h : R a b) : Twin R (fun _ => Option.some a) (fun _ => Option.some b) := ⟨a, b, h, Ev.val rfl, Ev.val rfl⟩
theorem Twin.up (h : Twin R (fun k => A (k + 1)) (fun k => B (k + 1))) : Twin R A B := by
  obtain ⟨a, b, h, ha, hb⟩ := h
  exact ⟨a, b, h, Ev.up ha, Ev.up hb⟩
theorem Twin.upL (h : Twin R (fun k => A (k + 1)) B) : Twin R A B := by
  obtain ⟨a, b, h, ha, hb⟩ := h
  exact ⟨a, b, h, Ev.up ha, hb⟩
theorem Twin.upR (h : Twin R A (fun k => B (k + 1))) : Twin R A B := by
  obtain ⟨a, b, h, ha, hb⟩ := h
  exact ⟨a, b, h, ha, Ev.up hb⟩
theorem Twin.ifpL {c : Prop} {dc : Decidable c} (hc : c) (h : Twin R A1 B) : Twin R (fun k => if c then A1 k else A2 k) B := by
  obtain ⟨a, b, h, ha, hb⟩ := h
  exact ⟨a, b, h, Ev.ifp hc ha, hb⟩
theorem Twin.ifnL {c : Prop} {dc : Decidable c} (hc : ¬ c) (h : Twin R A2 B) : Twin R (fun k => if c then A1 k else A2 k) B := by
  obtain ⟨a, b, h, ha, hb⟩ := h
  exact ⟨a, b, h, Ev.ifn hc ha, hb⟩
theorem Twin.ifpR {c : Prop} {dc : Decidable c} (hc : c) (h : Twin R A B1) : Twin R A (fun k => if c then B1 k else B2 k) := by
  obtain ⟨a, b, h, ha, hb⟩ := h
  exact ⟨a, b, h, ha, Ev.ifp hc hb⟩
theorem Twin.ifnR {c : Prop} {dc : Decidable c} (hc : ¬ c) (h : Twin R A B2) : Twin R A (fun k => if c then B1 k else B2 k) := by
  obtain ⟨a, b, h, ha, hb⟩ := h
  exact ⟨a, b, h, ha, Ev.ifn hc hb⟩
theorem Twin.bindL {g : Nat → Option γ} {a : γ} {f : Nat → γ → Option α} (hg : Ev g a) (h : Twin R (fun k => f k a) B) : Twin R (fun k => (g k).bind (f k)) B := by
  obtain ⟨x, b, h, ha, hb⟩ := h
  exact ⟨x, b, h, Ev.bind hg ha, hb⟩
theorem Twin.bindR {g : Nat → Option γ} {a : γ} {f : Nat → γ → Option β} (hg : Ev g a) (h : Twin R A (fun k => f k a)) : Twin R A (fun k => (g k).bind (f k)) := by
  obtain ⟨x, b, h, ha, hb⟩ := h
  exact ⟨x, b, h, ha, Ev.bind hg hb⟩
theorem Twin.bindSL {a : γ} {f : Nat → γ → Option α} (h : Twin R (fun k => f k a) B) : Twin R (fun k => (Option.some a).bind (f k)) B := Twin.bindL (Ev.val rfl) h
theorem Twin.bindSR {a : γ} {f : Nat → γ → Option β} (h : Twin R A (fun k => f k a)) : Twin R A (fun k => (Option.some a).bind (f k)) := Twin.bindR (Ev.val rfl) h
theorem Twin.bind {S : γ → δ → Prop} {g1 : Nat → Option γ} {g2 : Nat → Option δ} {f1 : Nat → γ → Option α} {f2 : Nat → δ → Option β} (hg : Twin S g1 g2)
    (h : ∀ a b, S a b → Twin R (fun k => f1 k a) (fun k => f2 k b)) : Twin R (fun k => (g1 k).bind (f1 k)) (fun k => (g2 k).bind (f2 k)) := by
  obtain ⟨x, y, hs, h1, h2⟩ := hg
  exact Twin.bindL h1 (Twin.bindR h2 (h x y hs))
theorem Twin.if2 {c c' : Prop} {dc : Decidable c} {dc' : Decidable c'} (e : c ↔ c') (hp : c → Twin R A1 B1) (hn : ¬ c → Twin R A2 B2) :
    Twin R (fun k => if c then A1 k else A2 k) (fun k => if c' then B1 k else B2 k) := by
  by_cases hc : c
  · exact Twin.ifpL hc (Twin.ifpR (e.1 hc) (hp hc))
  · exact Twin.ifnL hc (Twin.ifnR (fun h => hc (e.2 h)) (hn hc))
theorem Twin.same {A : Nat → Option α} {a : α} (h : Ev A a) : Twin Eq A A := ⟨a, a, rfl, h, h⟩
theorem Twin.swap (h : Twin (fun b a => R a b) B A) : Twin R A B := by
  obtain ⟨a, b, h, ha, hb⟩ := h
  exact ⟨b, a, h, hb, ha⟩
theorem Twin.mono {S : α → β → Prop} (h : Twin S A B) (i : ∀ a b, S a b → R a b) : Twin R A B := by
  obtain ⟨a, b, h, ha, hb⟩ := h
  exact ⟨a, b, i a b h, ha, hb⟩
end
theorem decT {p : Prop} [Decidable p] : (decide p = true) = p := decide_eq_true_eq
/-- A loop over an index: what holds at the end, and from each round to the one ahead of it. -/
theorem loop_down (n : Nat) {P : Nat → Prop} (hn : P n) (hs : ∀ i, i < n → P (i + 1) → P i) : ∀ i, i ≤ n → P i := by
  have : ∀ d i, i + d = n → P i := by
    intro d
    induction d with
    | zero => intro i h; have e : i = n := by omega
              rw [e]; exact hn
    | succ d ih => intro i h; exact hs i (by omega) (ih (i + 1) (by omega))
  exact fun i hi => this (n - i) i (by omega)
end Go.Proofs.Ytcjebflldmiajaa.Pure
namespace Go.Proofs.Ytcjebflldmiajaa.Pure
open Go.RowKit Go.Proofs.YtcjebflldmiajaaW.PrintWords Go.Proofs.YtcjebflldmiajaaW.PrintLast Go.Proofs.YtcjebflldmiajaaW.PrintMore

/-- A string's bytes, as numbers. -/
def nm (s : ByteArray) : List Int := s.data.toList.map fun b => (b.toNat : Int)
theorem nm_length (s : ByteArray) : (nm s).length = s.size := by
  rw [nm, List.length_map, Array.length_toList]; rfl
theorem u8_inj {a b : UInt8} (h : (a.toNat : Int) = (b.toNat : Int)) : a = b := UInt8.toNat_inj.1 (by omega)
theorem nm_inj {s t : ByteArray} (h : nm s = nm t) : s = t := by
  have : s.data.toList = t.data.toList := List.map_inj_right (fun a b h => u8_inj h) |>.1 h
  exact WideShapes.bytes_inj this
theorem toList_iff {s t : ByteArray} : s.toList = t.toList ↔ nm s = nm t := by
  rw [Lib.toList_data, Lib.toList_data, nm, nm]
  exact ⟨fun h => by rw [h], fun h => List.map_inj_right (fun a b h => u8_inj h) |>.1 h⟩
theorem toList_nil {s : ByteArray} : s.toList = ([] : List UInt8) ↔ nm s = [] := by
  rw [Lib.toList_data, nm]
  simp
theorem nm_range {s : ByteArray} {x : Int} (h : x ∈ nm s) : 0 ≤ x ∧ x < 256 := by
  obtain ⟨b, _, rfl⟩ := List.mem_map.1 h
  have := UInt8.toNat_lt b
  omega
theorem bt_nm (s : ByteArray) (i : Int) : bt s i = rd (nm s) i := (rd_bytesOf s i).symm
theorem nm_get {s : ByteArray} {i : Nat} {x : Int} (h : (nm s)[i]? = some x) : bt s (i : Int) = x := by rw [bt_nm]; exact rd_at h
theorem nm_extract (s : ByteArray) (a b : Nat) : nm (s.extract a b) = ((nm s).drop a).take (b - a) := by
  rw [nm, ← Lib.toList_data, Lib.extract_toList, List.map_take, List.map_drop]; rfl
theorem nm_tail (s : ByteArray) (a : Nat) : nm (s.extract a s.size) = (nm s).drop a := by
  rw [nm_extract]
  exact List.take_of_length_le (by rw [List.length_drop, nm_length]; omega)
/-- Bytes of a tail. -/
theorem bt_tail (s : ByteArray) (a : Nat) (i : Nat) : bt (s.extract a s.size) (i : Int) = bt s ((a + i : Nat) : Int) := by
  rw [bt_nm, bt_nm, nm_tail]
  have e : ((a + i : Nat) : Int).toNat = a + i := by omega
  simp only [rd, List.getD_eq_getElem?_getD, e, Int.toNat_natCast, List.getElem?_drop]
theorem nm_nums (xs : List Int) (h : ∀ x ∈ xs, 0 ≤ x ∧ x < 256) : nm (strOfNums xs) = xs := by
  rw [nm, strOfNums_data, List.map_map]
  conv => rhs; rw [← List.map_id xs]
  refine List.map_congr_left fun x hx => ?_
  have := h x hx
  simp only [Function.comp, id, UInt8.toNat_ofNat']
  omega
theorem nums_nm (s : ByteArray) : strOfNums (nm s) = s := nm_inj (nm_nums _ fun _ h => nm_range h)
theorem nm_append (s t : ByteArray) : nm (s ++ t) = nm s ++ nm t := by
  simp [nm]
theorem nm_empty : nm (⟨#[]⟩ : ByteArray) = [] := rfl
theorem or64 (i : Nat) (x y : Int) (hx0 : 0 ≤ x) (hx : x % 2 ^ i = 0) (hx1 : x < 2 ^ 62) (hy0 : 0 ≤ y) (hy : y < 2 ^ i) (hy1 : y < 2 ^ 62) : Go.bits .or .i64 x y = x + y :=
  bits_join .i64 62 (by decide) (fun n h0 h1 => by rw [IntKind.wrap_i64]; omega) i x y hx0 hx hx1 hy0 hy hy1
/-- A row is marked, element by element: c is the next mark. -/
theorem mark_ev {α γ : Type} (L : Nat → List α → γ → Int → Option (γ × List α)) (cn : Nat → γ) (e : Nat → α → α) (l : List α)
    (hend : ∀ k x, x.length = l.length → L (k + 1) x (cn l.length) (l.length : Int) = some (cn l.length, x))
    (hstep : ∀ (i : Nat) (y : α), l[i]? = some y → ∃ K, ∀ k (x : List α), K ≤ k → x.length = l.length → x[i]? = some y → L (k + 1) x (cn i) (i : Int) = L k (x.set i (e i y)) (cn (i + 1)) ((i + 1 : Nat) : Int)) :
    Ev (fun k => L k l (cn 0) 0) (cn l.length, l.mapIdx e) := by
  have := ev_down l.length (fun i => Ev (fun k => L k ((l.mapIdx e).take i ++ l.drop i) (cn i) (i : Int)) (cn l.length, l.mapIdx e)) ?_ ?_
  · simpa using this
  · refine ⟨1, fun k hk => ?_⟩
    obtain ⟨m, rfl⟩ : ∃ m, k = m + 1 := ⟨k - 1, by omega⟩
    dsimp only
    rw [hend _ _ (by simp)]
    simp only [List.drop_length, List.append_nil]
    rw [List.take_of_length_le (by simp)]
  · intro i hi ih
    have hx : l[i]? = some l[i] := List.getElem?_eq_getElem hi
    have hm : i = ((l.mapIdx e).take i).length := by simp; omega
    obtain ⟨K, hK⟩ := hstep i _ hx
    refine Ev.next (K := K) (fun k hk => ?_) ih
    have hd : l.drop i = l[i] :: l.drop (i + 1) := List.drop_eq_getElem_cons hi
    have hat : ((l.mapIdx e).take i ++ l.drop i)[i]? = some l[i] := by
      rw [List.getElem?_append_right (by omega), hd]
      have h0 : i - ((l.mapIdx e).take i).length = 0 := by omega
      rw [h0]; rfl
    rw [hK k _ hk (by simp; omega) hat]
    congr 1
    rw [List.set_append_right _ _ (by omega)]
    have h1 : i - ((l.mapIdx e).take i).length = 0 := by omega
    rw [h1, hd, List.set_cons_zero, List.take_succ_eq_append_getElem (by simpa using hi)]
    simp
/-- Two rows of one length, compared element by element. -/
theorem same_ev {α : Type} [DecidableEq α] (L : Nat → Int → Option Bool) (a b : List α) (hlen : a.length = b.length) (hend : ∀ k, L (k + 1) (a.length : Int) = some true)
    (hyes : ∀ k (i : Nat) x, i < a.length → a[i]? = some x → b[i]? = some x → L (k + 1) (i : Int) = L k ((i + 1 : Nat) : Int))
    (hno : ∀ k (i : Nat) x y, i < a.length → a[i]? = some x → b[i]? = some y → x ≠ y → L (k + 1) (i : Int) = some false) : Ev (fun k => L k 0) (decide (a = b)) := by
  have key : ∀ (t u : List α) (i : Nat), a.drop i = t → b.drop i = u → i ≤ a.length → Ev (fun k => L k (i : Int)) (decide (t = u)) := by
    intro t
    induction t with
    | nil =>
      intro u i h1 h2 hi
      have h3 := drop_len h1 hi
      have h4 := drop_len h2 (by omega)
      have e : i = a.length := by simpa using h3
      have hu : u = [] := List.length_eq_zero_iff.1 (by omega)
      subst hu
      refine Ev.up ?_
      rw [e]
      exact Ev.same (K := 0) (fun k _ => hend k) (Ev.val (by simp))
    | cons x t ih =>
      intro u i h1 h2 hi
      have h3 := drop_len h1 hi
      have h4 := drop_len h2 (by omega)
      cases u with
      | nil => simp at h3 h4; omega
      | cons y u =>
        obtain ⟨p1, p2, p3⟩ := drop_cons h1
        obtain ⟨q1, q2, q3⟩ := drop_cons h2
        by_cases hxy : x = y
        · subst hxy
          have := ih u (i + 1) p3 q3 (by omega)
          have e : decide (x :: t = x :: u) = decide (t = u) := by simp
          rw [e]
          exact Ev.up (Ev.same (K := 0) (fun k _ => hyes k i x (by omega) p2 q2) this)
        · exact Ev.up (Ev.same (K := 0) (fun k _ => hno k i x y (by omega) p2 q2 hxy) (Ev.val (by simp [hxy])))
  have h := key a b 0 rfl rfl (by omega)
  exact h
end Go.Proofs.Ytcjebflldmiajaa.Pure
namespace Go.Proofs.Ytcjebflldmiajaa.Pure
open Go.RowKit Go.Proofs.Ytcjebflldmiajaa.Fn Go.Proofs.YtcjebflldmiajaaW.PrintWords Go.Proofs.YtcjebflldmiajaaW.PrintLast Go.Proofs.YtcjebflldmiajaaW.PrintMore
set_option linter.unusedSimpArgs false
set_option linter.unusedVariables false

theorem Ev.uniq {α : Type} {g : Nat → Option α} {a b : α} (h1 : Ev g a) (h2 : Ev g b) : a = b := by
  obtain ⟨K1, e1⟩ := h1
  obtain ⟨K2, e2⟩ := h2
  have e1 := e1 (max K1 K2) (by omega)
  have e2 := e2 (max K1 K2) (by omega)
  rw [e1] at e2
  exact Option.some.inj e2
theorem u64_wrap (n : Int) : IntKind.u64.wrap n = n % 18446744073709551616 := by simp [IntKind.wrap, IntKind.bits, IntKind.signed]
theorem mask255 (y : Int) (h0 : 0 ≤ y) (h1 : y < 18446744073709551616) : 0 ≤ Go.bits .and .u64 y 255 ∧ Go.bits .and .u64 y 255 ≤ 255 := by
  have e : Go.bits .and .u64 y (2 ^ 8 - 1) = y % 2 ^ 8 := bits_mask .u64 64 (by decide) (fun n h0 h1 => by rw [u64_wrap]; omega) 8 (by decide) y h0 h1
  have e2 : ((2 : Int) ^ 8 - 1) = 255 := by decide
  rw [e2] at e
  rw [e]
  omega
/-- The code is made of bytes. -/
def Code (c : List Int) : Prop := ∀ y ∈ c, 0 ≤ y ∧ y ≤ 255
theorem next_some (c : List Int) (hc : Code c) (a s : Int) (h0 : 0 ≤ a) (h1 : a ≤ 2305843009213693952) : ∃ x s' : Int, spec_l1Cur_next.f c a s = some (x, a + 1, s') ∧ 0 ≤ x ∧ x ≤ 255 := by
  have ea : wrap64 (a + 1) = a + 1 := wrap_ok (by omega) (by omega)
  have hm : ∀ z : Int, 0 ≤ wrap64 (Go.bits .and .u64 (IntKind.u64.wrap z / 1099511627776) 255) ∧ wrap64 (Go.bits .and .u64 (IntKind.u64.wrap z / 1099511627776) 255) ≤ 255 := by
    intro z
    have h := mask255 (IntKind.u64.wrap z / 1099511627776) (by rw [u64_wrap]; omega) (by rw [u64_wrap]; omega)
    rw [wrap_ok (by omega) (by omega)]
    exact h
  have hr : a < (c.length : Int) → 0 ≤ wrap64 (rd c a) ∧ wrap64 (rd c a) ≤ 255 := by
    intro h
    have hx : c[a.toNat]? = some c[a.toNat] := List.getElem?_eq_getElem (by omega)
    have e : rd c a = c[a.toNat] := by
      have := rd_at hx
      rw [show ((a.toNat : Nat) : Int) = a by omega] at this
      exact this
    have hy := hc _ (List.mem_of_getElem? hx)
    rw [e, wrap_ok (by omega) (by omega)]
    exact hy
  simp only [spec_l1Cur_next.f, ea]
  by_cases h : a < (c.length : Int)
  · rw [if_pos h, if_pos h0]
    by_cases h2 : a + 1 ≤ (c.length : Int)
    · rw [if_pos h2]
      exact ⟨_, _, rfl, (hr h).1, (hr h).2⟩
    · rw [if_neg h2]
      exact ⟨_, _, rfl, (hm _).1, (hm _).2⟩
  · rw [if_neg h]
    by_cases h2 : a + 1 ≤ (c.length : Int)
    · rw [if_pos h2]
      exact ⟨_, _, rfl, by omega, by omega⟩
    · rw [if_neg h2]
      exact ⟨_, _, rfl, (hm _).1, (hm _).2⟩
theorem tmod_range (x n : Int) (h0 : 0 ≤ x) (h1 : 0 < n) : 0 ≤ Int.tmod x n ∧ Int.tmod x n < n := by
  rw [Int.tmod_eq_emod_of_nonneg h0]
  exact ⟨Int.emod_nonneg _ (by omega), Int.emod_lt_of_pos _ h1⟩
theorem pick_some (c : List Int) (hc : Code c) (a s : Int) (h0 : 0 ≤ a) (h1 : a ≤ 1152921504606846976) (n : Int) :
    ∃ x a' s' : Int, spec_l1Cur_pick.f c a s n = some (x, a', s') ∧ a ≤ a' ∧ a' ≤ a + 2 ∧ 0 ≤ x ∧ (0 < n → x < n) ∧ (n ≤ 0 → x = 0) := by
  simp only [spec_l1Cur_pick.f]
  by_cases hn : n ≤ 1
  · rw [if_pos hn]
    exact ⟨0, a, s, rfl, by omega, by omega, by omega, fun h => h, fun _ => rfl⟩
  · obtain ⟨x, s1, e1, b1, b2⟩ := next_some c hc a s h0 (by omega)
    rw [if_neg hn, e1, Option.bind_some]
    by_cases h2 : n > 200
    · obtain ⟨y, s2, e2, c1, c2⟩ := next_some c hc (a + 1) s1 (by omega) (by omega)
      have ew : wrap64 (wrap64 (x * 256) + y) = x * 256 + y := by rw [wrap_ok (n := x * 256) (by omega) (by omega), wrap_ok (by omega) (by omega)]
      have hr := tmod_range (x * 256 + y) n (by omega) (by omega)
      simp only [if_pos h2, e2, Option.bind_some, if_neg (show ¬ n = 0 by omega), ew]
      exact ⟨_, _, _, rfl, by omega, by omega, hr.1, fun _ => hr.2, fun h => by omega⟩
    · have hr := tmod_range x n (by omega) (by omega)
      simp only [if_neg h2, if_neg (show ¬ n = 0 by omega)]
      exact ⟨_, _, _, rfl, by omega, by omega, hr.1, fun _ => hr.2, fun h => by omega⟩
end Go.Proofs.Ytcjebflldmiajaa.Pure
namespace Go.Proofs.Ytcjebflldmiajaa.Pure
open Go.RowKit Go.Proofs.Ytcjebflldmiajaa.Fn Go.Proofs.YtcjebflldmiajaaW.PrintWords Go.Proofs.YtcjebflldmiajaaW.PrintLast Go.Proofs.YtcjebflldmiajaaW.PrintMore
set_option linter.unusedSimpArgs false
set_option linter.unusedVariables false

theorem within_eq (a b c : Int) : impl_within.f a b c = some (decide (b ≤ a ∧ a ≤ c)) := by
  unfold impl_within.f
  by_cases h : b ≤ a
  · rw [if_pos h]; simp [h]
  · rw [if_neg h]; simp [h]
theorem specIn_eq (a b c : Int) : spec_l1In.f a b c = some (decide (b ≤ a ∧ a ≤ c)) := within_eq a b c
/-- Rising, and in range, from i on. -/
def riseFrom (l : List Int) : List Int → Nat → Bool
  | [], _ => true
  | x :: t, i => decide (0 ≤ x ∧ x ≤ 10000) && ((decide (i = 0) || !decide (rd l ((i - 1 : Nat) : Int) ≥ x)) && riseFrom l t (i + 1))
def listOk (l : List Int) : Bool := decide (l.length ≤ 60) && riseFrom l l 0
theorem rise_ev (l : List Int) (hl : l.length ≤ 1048576) (t : List Int) : ∀ i, l.drop i = t → i ≤ l.length → Ev (fun k => spec_l1Rising.l0 k l 0 10000 l l.length i) (riseFrom l t i) := by
  induction t with
  | nil =>
    intro i h _
    have := drop_nil h
    (refine Ev.up ?_; simp only [spec_l1Rising.l0, decT])
    (repeat (first | with_reducible refine Ev.bindS ?_ | (with_reducible refine Ev.ifp ?_ ?_; (· first | omega | assumption | rfl | (simp only [List.length_map, List.length_replicate, List.length_take, List.length_drop, List.length_append, List.length_cons, List.length_nil, List.length_set]; omega) | (simp; done))) | (with_reducible refine Ev.ifn ?_ ?_; (· first | omega | assumption | rfl | (simp only [List.length_map, List.length_replicate, List.length_take, List.length_drop, List.length_append, List.length_cons, List.length_nil, List.length_set]; omega) | (simp; done)))))
    exact Ev.val rfl
  | cons x t ih =>
    intro i h hi
    obtain ⟨h1, h2, h3⟩ := drop_cons h
    have ih := ih (i + 1) h3 (by omega)
    (refine Ev.up ?_; simp only [spec_l1Rising.l0, decT])
    rw [rd_at h2, wrap_succ (by omega), specIn_eq]
    simp only [riseFrom]
    (repeat (first | with_reducible refine Ev.bindS ?_ | (with_reducible refine Ev.ifp ?_ ?_; (· first | omega | assumption | rfl | (simp only [List.length_map, List.length_replicate, List.length_take, List.length_drop, List.length_append, List.length_cons, List.length_nil, List.length_set]; omega) | (simp; done))) | (with_reducible refine Ev.ifn ?_ ?_; (· first | omega | assumption | rfl | (simp only [List.length_map, List.length_replicate, List.length_take, List.length_drop, List.length_append, List.length_cons, List.length_nil, List.length_set]; omega) | (simp; done)))))
    by_cases hx : 0 ≤ x ∧ x ≤ 10000
    · simp only [decT]
      rw [decide_eq_true hx, Bool.true_and]
      (repeat (first | with_reducible refine Ev.bindS ?_ | (with_reducible refine Ev.ifp ?_ ?_; (· first | omega | assumption | rfl | (simp only [List.length_map, List.length_replicate, List.length_take, List.length_drop, List.length_append, List.length_cons, List.length_nil, List.length_set]; omega) | (simp; done))) | (with_reducible refine Ev.ifn ?_ ?_; (· first | omega | assumption | rfl | (simp only [List.length_map, List.length_replicate, List.length_take, List.length_drop, List.length_append, List.length_cons, List.length_nil, List.length_set]; omega) | (simp; done)))))
      by_cases h0 : i = 0
      · rw [decide_eq_true h0, Bool.true_or, Bool.true_and]
        (repeat (first | with_reducible refine Ev.bindS ?_ | (with_reducible refine Ev.ifp ?_ ?_; (· first | omega | assumption | rfl | (simp only [List.length_map, List.length_replicate, List.length_take, List.length_drop, List.length_append, List.length_cons, List.length_nil, List.length_set]; omega) | (simp; done))) | (with_reducible refine Ev.ifn ?_ ?_; (· first | omega | assumption | rfl | (simp only [List.length_map, List.length_replicate, List.length_take, List.length_drop, List.length_append, List.length_cons, List.length_nil, List.length_set]; omega) | (simp; done)))))
        exact ih
      · have e : wrap64 ((i : Int) - 1) = ((i - 1 : Nat) : Int) := by rw [wrap_ok (by omega) (by omega)]; omega
        rw [decide_eq_false h0, Bool.false_or, e]
        (repeat (first | with_reducible refine Ev.bindS ?_ | (with_reducible refine Ev.ifp ?_ ?_; (· first | omega | assumption | rfl | (simp only [List.length_map, List.length_replicate, List.length_take, List.length_drop, List.length_append, List.length_cons, List.length_nil, List.length_set]; omega) | (simp; done))) | (with_reducible refine Ev.ifn ?_ ?_; (· first | omega | assumption | rfl | (simp only [List.length_map, List.length_replicate, List.length_take, List.length_drop, List.length_append, List.length_cons, List.length_nil, List.length_set]; omega) | (simp; done)))))
        by_cases hp : rd l ((i - 1 : Nat) : Int) ≥ x
        · (repeat (first | with_reducible refine Ev.bindS ?_ | (with_reducible refine Ev.ifp ?_ ?_; (· first | omega | assumption | rfl | (simp only [List.length_map, List.length_replicate, List.length_take, List.length_drop, List.length_append, List.length_cons, List.length_nil, List.length_set]; omega) | (simp; done))) | (with_reducible refine Ev.ifn ?_ ?_; (· first | omega | assumption | rfl | (simp only [List.length_map, List.length_replicate, List.length_take, List.length_drop, List.length_append, List.length_cons, List.length_nil, List.length_set]; omega) | (simp; done)))))
          exact Ev.val (by simp [hp])
        · (repeat (first | with_reducible refine Ev.bindS ?_ | (with_reducible refine Ev.ifp ?_ ?_; (· first | omega | assumption | rfl | (simp only [List.length_map, List.length_replicate, List.length_take, List.length_drop, List.length_append, List.length_cons, List.length_nil, List.length_set]; omega) | (simp; done))) | (with_reducible refine Ev.ifn ?_ ?_; (· first | omega | assumption | rfl | (simp only [List.length_map, List.length_replicate, List.length_take, List.length_drop, List.length_append, List.length_cons, List.length_nil, List.length_set]; omega) | (simp; done)))))
          simpa [hp] using ih
    · simp only [decT]
      rw [decide_eq_false hx]
      (repeat (first | with_reducible refine Ev.bindS ?_ | (with_reducible refine Ev.ifp ?_ ?_; (· first | omega | assumption | rfl | (simp only [List.length_map, List.length_replicate, List.length_take, List.length_drop, List.length_append, List.length_cons, List.length_nil, List.length_set]; omega) | (simp; done))) | (with_reducible refine Ev.ifn ?_ ?_; (· first | omega | assumption | rfl | (simp only [List.length_map, List.length_replicate, List.length_take, List.length_drop, List.length_append, List.length_cons, List.length_nil, List.length_set]; omega) | (simp; done)))))
      exact Ev.val rfl
theorem isList_ev (l : List Int) (hl : l.length ≤ 1048576) (t : List Int) : ∀ i, l.drop i = t → i ≤ l.length → Ev (fun k => impl_isList.l0 k l l l.length i) (riseFrom l t i && decide ((l.length : Int) ≤ 60)) := by
  induction t with
  | nil =>
    intro i h _
    have := drop_nil h
    (refine Ev.up ?_; simp only [impl_isList.l0, decT])
    (repeat (first | with_reducible refine Ev.bindS ?_ | (with_reducible refine Ev.ifp ?_ ?_; (· first | omega | assumption | rfl | (simp only [List.length_map, List.length_replicate, List.length_take, List.length_drop, List.length_append, List.length_cons, List.length_nil, List.length_set]; omega) | (simp; done))) | (with_reducible refine Ev.ifn ?_ ?_; (· first | omega | assumption | rfl | (simp only [List.length_map, List.length_replicate, List.length_take, List.length_drop, List.length_append, List.length_cons, List.length_nil, List.length_set]; omega) | (simp; done)))))
    exact Ev.val rfl
  | cons x t ih =>
    intro i h hi
    obtain ⟨h1, h2, h3⟩ := drop_cons h
    have ih := ih (i + 1) h3 (by omega)
    (refine Ev.up ?_; simp only [impl_isList.l0, decT])
    rw [rd_at h2, wrap_succ (by omega), within_eq]
    simp only [riseFrom]
    (repeat (first | with_reducible refine Ev.bindS ?_ | (with_reducible refine Ev.ifp ?_ ?_; (· first | omega | assumption | rfl | (simp only [List.length_map, List.length_replicate, List.length_take, List.length_drop, List.length_append, List.length_cons, List.length_nil, List.length_set]; omega) | (simp; done))) | (with_reducible refine Ev.ifn ?_ ?_; (· first | omega | assumption | rfl | (simp only [List.length_map, List.length_replicate, List.length_take, List.length_drop, List.length_append, List.length_cons, List.length_nil, List.length_set]; omega) | (simp; done)))))
    by_cases hx : 0 ≤ x ∧ x ≤ 10000
    · simp only [decT]
      rw [decide_eq_true hx, Bool.true_and]
      (repeat (first | with_reducible refine Ev.bindS ?_ | (with_reducible refine Ev.ifp ?_ ?_; (· first | omega | assumption | rfl | (simp only [List.length_map, List.length_replicate, List.length_take, List.length_drop, List.length_append, List.length_cons, List.length_nil, List.length_set]; omega) | (simp; done))) | (with_reducible refine Ev.ifn ?_ ?_; (· first | omega | assumption | rfl | (simp only [List.length_map, List.length_replicate, List.length_take, List.length_drop, List.length_append, List.length_cons, List.length_nil, List.length_set]; omega) | (simp; done)))))
      by_cases h0 : i = 0
      · rw [decide_eq_true h0, Bool.true_or, Bool.true_and]
        (repeat (first | with_reducible refine Ev.bindS ?_ | (with_reducible refine Ev.ifp ?_ ?_; (· first | omega | assumption | rfl | (simp only [List.length_map, List.length_replicate, List.length_take, List.length_drop, List.length_append, List.length_cons, List.length_nil, List.length_set]; omega) | (simp; done))) | (with_reducible refine Ev.ifn ?_ ?_; (· first | omega | assumption | rfl | (simp only [List.length_map, List.length_replicate, List.length_take, List.length_drop, List.length_append, List.length_cons, List.length_nil, List.length_set]; omega) | (simp; done)))))
        exact ih
      · have e : wrap64 ((i : Int) - 1) = ((i - 1 : Nat) : Int) := by rw [wrap_ok (by omega) (by omega)]; omega
        rw [decide_eq_false h0, Bool.false_or, e]
        (repeat (first | with_reducible refine Ev.bindS ?_ | (with_reducible refine Ev.ifp ?_ ?_; (· first | omega | assumption | rfl | (simp only [List.length_map, List.length_replicate, List.length_take, List.length_drop, List.length_append, List.length_cons, List.length_nil, List.length_set]; omega) | (simp; done))) | (with_reducible refine Ev.ifn ?_ ?_; (· first | omega | assumption | rfl | (simp only [List.length_map, List.length_replicate, List.length_take, List.length_drop, List.length_append, List.length_cons, List.length_nil, List.length_set]; omega) | (simp; done)))))
        by_cases hp : rd l ((i - 1 : Nat) : Int) ≥ x
        · (repeat (first | with_reducible refine Ev.bindS ?_ | (with_reducible refine Ev.ifp ?_ ?_; (· first | omega | assumption | rfl | (simp only [List.length_map, List.length_replicate, List.length_take, List.length_drop, List.length_append, List.length_cons, List.length_nil, List.length_set]; omega) | (simp; done))) | (with_reducible refine Ev.ifn ?_ ?_; (· first | omega | assumption | rfl | (simp only [List.length_map, List.length_replicate, List.length_take, List.length_drop, List.length_append, List.length_cons, List.length_nil, List.length_set]; omega) | (simp; done)))))
          exact Ev.val (by simp [hp])
        · (repeat (first | with_reducible refine Ev.bindS ?_ | (with_reducible refine Ev.ifp ?_ ?_; (· first | omega | assumption | rfl | (simp only [List.length_map, List.length_replicate, List.length_take, List.length_drop, List.length_append, List.length_cons, List.length_nil, List.length_set]; omega) | (simp; done))) | (with_reducible refine Ev.ifn ?_ ?_; (· first | omega | assumption | rfl | (simp only [List.length_map, List.length_replicate, List.length_take, List.length_drop, List.length_append, List.length_cons, List.length_nil, List.length_set]; omega) | (simp; done)))))
          simpa [hp] using ih
    · simp only [decT]
      rw [decide_eq_false hx]
      (repeat (first | with_reducible refine Ev.bindS ?_ | (with_reducible refine Ev.ifp ?_ ?_; (· first | omega | assumption | rfl | (simp only [List.length_map, List.length_replicate, List.length_take, List.length_drop, List.length_append, List.length_cons, List.length_nil, List.length_set]; omega) | (simp; done))) | (with_reducible refine Ev.ifn ?_ ?_; (· first | omega | assumption | rfl | (simp only [List.length_map, List.length_replicate, List.length_take, List.length_drop, List.length_append, List.length_cons, List.length_nil, List.length_set]; omega) | (simp; done)))))
      exact Ev.val (by simp)
theorem specList_ev (l : List Int) (hl : l.length ≤ 1048576) : Ev (fun k => spec_l8List.f k l) (listOk l) := by
  simp only [spec_l8List.f, listOk]
  by_cases h : (l.length : Int) ≤ 60
  · rw [decide_eq_true (p := l.length ≤ 60) (by omega), Bool.true_and]
    (repeat (first | with_reducible refine Ev.bindS ?_ | (with_reducible refine Ev.ifp ?_ ?_; (· first | omega | assumption | rfl | (simp only [List.length_map, List.length_replicate, List.length_take, List.length_drop, List.length_append, List.length_cons, List.length_nil, List.length_set]; omega) | (simp; done))) | (with_reducible refine Ev.ifn ?_ ?_; (· first | omega | assumption | rfl | (simp only [List.length_map, List.length_replicate, List.length_take, List.length_drop, List.length_append, List.length_cons, List.length_nil, List.length_set]; omega) | (simp; done)))))
    exact Ev.bind (rise_ev l hl l 0 rfl (by omega)) (Ev.val rfl)
  · rw [decide_eq_false (p := l.length ≤ 60) (by omega)]
    (repeat (first | with_reducible refine Ev.bindS ?_ | (with_reducible refine Ev.ifp ?_ ?_; (· first | omega | assumption | rfl | (simp only [List.length_map, List.length_replicate, List.length_take, List.length_drop, List.length_append, List.length_cons, List.length_nil, List.length_set]; omega) | (simp; done))) | (with_reducible refine Ev.ifn ?_ ?_; (· first | omega | assumption | rfl | (simp only [List.length_map, List.length_replicate, List.length_take, List.length_drop, List.length_append, List.length_cons, List.length_nil, List.length_set]; omega) | (simp; done)))))
    exact Ev.val rfl
theorem implList_ev (l : List Int) (hl : l.length ≤ 1048576) : Ev (fun k => impl_isList.f k l) (listOk l) := by
  have h := isList_ev l hl l 0 rfl (by omega)
  have e : listOk l = (riseFrom l l 0 && decide ((l.length : Int) ≤ 60)) := by
    have e2 : decide ((l.length : Int) ≤ 60) = decide (l.length ≤ 60) := by rw [decide_eq_decide]; omega
    rw [listOk, Bool.and_comm, e2]
  rw [e]
  exact h
/-- What a good list's numbers are. -/
theorem rise_at {l : List Int} (t : List Int) : ∀ i, l.drop i = t → riseFrom l t i = true → ∀ j x, i ≤ j → l[j]? = some x → (0 ≤ x ∧ x ≤ 10000) ∧ (0 < j → rd l ((j - 1 : Nat) : Int) < x) := by
  induction t with
  | nil =>
    intro i h _ j x hj hx
    have := drop_nil h
    have := (List.getElem?_eq_some_iff.1 hx).1
    omega
  | cons y t ih =>
    intro i h hr j x hj hx
    obtain ⟨h1, h2, h3⟩ := drop_cons h
    simp only [riseFrom, Bool.and_eq_true, decide_eq_true_eq, Bool.or_eq_true, Bool.not_eq_true', decide_eq_false_iff_not] at hr
    rcases Nat.lt_or_ge i j with hlt | hge
    · exact ih (i + 1) h3 hr.2.2 j x (by omega) hx
    · have e : j = i := by omega
      subst e
      rw [h2] at hx
      injection hx with hx
      subst hx
      refine ⟨hr.1, fun h0 => ?_⟩
      rcases hr.2.1 with h | h
      · omega
      · omega
theorem ok_at {l : List Int} (h : listOk l = true) {j : Nat} {x : Int} (hx : l[j]? = some x) : (0 ≤ x ∧ x ≤ 10000) ∧ (0 < j → rd l ((j - 1 : Nat) : Int) < x) := by
  simp only [listOk, Bool.and_eq_true] at h
  exact rise_at l 0 rfl h.2 j x (by omega) hx
theorem ok_len {l : List Int} (h : listOk l = true) : l.length ≤ 60 := by
  simp only [listOk, Bool.and_eq_true, decide_eq_true_eq] at h
  exact h.1
theorem ok_mono {l : List Int} (h : listOk l = true) : ∀ (d i : Nat) (x y : Int), l[i]? = some x → l[i + d]? = some y → x ≤ y ∧ (0 < d → x < y) := by
  intro d
  induction d with
  | zero =>
    intro i x y hx hy
    rw [Nat.add_zero, hx] at hy
    injection hy with hy
    omega
  | succ d ih =>
    intro i x y hx hy
    have hlt : i + (d + 1) < l.length := (List.getElem?_eq_some_iff.1 hy).1
    have hz : l[i + d]? = some l[i + d] := List.getElem?_eq_getElem (by omega)
    have h1 := ih i x _ hx hz
    have h2 := (ok_at h hy).2 (by omega)
    have e : i + (d + 1) - 1 = i + d := by omega
    rw [e, rd_at hz] at h2
    omega
end Go.Proofs.Ytcjebflldmiajaa.Pure
namespace Go.Proofs.Ytcjebflldmiajaa.Pure
open Go.RowKit Go.Proofs.Ytcjebflldmiajaa.Fn Go.Proofs.YtcjebflldmiajaaW.PrintWords Go.Proofs.YtcjebflldmiajaaW.PrintLast Go.Proofs.YtcjebflldmiajaaW.PrintMore
set_option linter.unusedSimpArgs false
set_option linter.unusedVariables false

theorem two_pow_le {i n : Nat} (h : i ≤ n) : (2 : Int) ^ i ≤ 2 ^ n := by
  have := Nat.pow_le_pow_right (n := 2) (by omega) h
  exact_mod_cast this
theorem two_pow_pos (i : Nat) : (0 : Int) < 2 ^ i := Int.pow_pos (by omega)
theorem shl_low {m : Int} (h1 : 1 ≤ m) (h2 : m ≤ 60) {i : Nat} (h4 : i ≤ 20) : shl .i64 m (wrap64 ((i : Int) + 1)) = m * 2 ^ (i + 1) := by
  rw [wrap_succ (by omega)]
  unfold shl
  have hm : min (((i + 1 : Nat) : Int)).toNat (IntKind.i64).bits = i + 1 := by
    rw [Int.toNat_natCast]
    exact Nat.min_eq_left (by show i + 1 ≤ 64; omega)
  rw [hm]
  have hp := two_pow_le (show i + 1 ≤ 21 by omega)
  have hp0 := two_pow_pos (i + 1)
  have hb : 0 ≤ m * 2 ^ (i + 1) ∧ m * 2 ^ (i + 1) ≤ 60 * 2 ^ 21 := ⟨Int.mul_nonneg (by omega) (by omega), Int.mul_le_mul h2 hp (by omega) (by omega)⟩
  exact IntWalk.i64_in _ (by omega)
theorem low_ev (m x : Int) (h1 : 1 ≤ m) (h2 : m ≤ 60) (hx : x ≤ 10000) : ∃ r : Nat, r ≤ 14 ∧ x < m * 2 ^ (r + 1) ∧ Ev (fun k => spec_l8Low.f k m x) (r : Int) ∧ Ev (fun k => impl_lowFor.f k m x) (r : Int) := by
  have key : ∀ (d i : Nat), i + d = 14 → ∃ r : Nat, r ≤ 14 ∧ x < m * 2 ^ (r + 1) ∧ Ev (fun k => spec_l8Low.l0 k m x i) (r : Int) ∧ Ev (fun k => impl_lowFor.l0 k m x i) (r : Int) := by
    intro d
    induction d with
    | zero =>
      intro i hi
      have e := shl_low h1 h2 (i := i) (by omega)
      have hw := wrap_succ (i := i) (by omega)
      have hu : IntKind.u64.wrap (wrap64 ((i : Int) + 1)) = wrap64 ((i : Int) + 1) := by rw [hw]; exact IntWalk.u64_in _ (by omega)
      have hlt : x < m * 2 ^ (i + 1) := by
        have : i = 14 := by omega
        subst this
        show x < m * 2 ^ 15
        omega
      refine ⟨i, by omega, hlt, ?_, ?_⟩
      · (refine Ev.up ?_; simp only [spec_l8Low.l0, decT])
        rw [hu, e, hw]
        (repeat (first | with_reducible refine Ev.bindS ?_ | (with_reducible refine Ev.ifp ?_ ?_; (· first | omega | assumption | rfl | (simp only [List.length_map, List.length_replicate, List.length_take, List.length_drop, List.length_append, List.length_cons, List.length_nil, List.length_set]; omega) | (simp; done))) | (with_reducible refine Ev.ifn ?_ ?_; (· first | omega | assumption | rfl | (simp only [List.length_map, List.length_replicate, List.length_take, List.length_drop, List.length_append, List.length_cons, List.length_nil, List.length_set]; omega) | (simp; done)))))
        exact Ev.val rfl
      · (refine Ev.up ?_; simp only [impl_lowFor.l0, decT])
        rw [e, hw]
        (repeat (first | with_reducible refine Ev.bindS ?_ | (with_reducible refine Ev.ifp ?_ ?_; (· first | omega | assumption | rfl | (simp only [List.length_map, List.length_replicate, List.length_take, List.length_drop, List.length_append, List.length_cons, List.length_nil, List.length_set]; omega) | (simp; done))) | (with_reducible refine Ev.ifn ?_ ?_; (· first | omega | assumption | rfl | (simp only [List.length_map, List.length_replicate, List.length_take, List.length_drop, List.length_append, List.length_cons, List.length_nil, List.length_set]; omega) | (simp; done)))))
        exact Ev.val rfl
    | succ d ih =>
      intro i hi
      have e := shl_low h1 h2 (i := i) (by omega)
      have hw := wrap_succ (i := i) (by omega)
      have hu : IntKind.u64.wrap (wrap64 ((i : Int) + 1)) = wrap64 ((i : Int) + 1) := by rw [hw]; exact IntWalk.u64_in _ (by omega)
      by_cases hlt : x < m * 2 ^ (i + 1)
      · refine ⟨i, by omega, hlt, ?_, ?_⟩
        · (refine Ev.up ?_; simp only [spec_l8Low.l0, decT])
          rw [hu, e, hw]
          (repeat (first | with_reducible refine Ev.bindS ?_ | (with_reducible refine Ev.ifp ?_ ?_; (· first | omega | assumption | rfl | (simp only [List.length_map, List.length_replicate, List.length_take, List.length_drop, List.length_append, List.length_cons, List.length_nil, List.length_set]; omega) | (simp; done))) | (with_reducible refine Ev.ifn ?_ ?_; (· first | omega | assumption | rfl | (simp only [List.length_map, List.length_replicate, List.length_take, List.length_drop, List.length_append, List.length_cons, List.length_nil, List.length_set]; omega) | (simp; done)))))
          exact Ev.val rfl
        · (refine Ev.up ?_; simp only [impl_lowFor.l0, decT])
          rw [e, hw]
          (repeat (first | with_reducible refine Ev.bindS ?_ | (with_reducible refine Ev.ifp ?_ ?_; (· first | omega | assumption | rfl | (simp only [List.length_map, List.length_replicate, List.length_take, List.length_drop, List.length_append, List.length_cons, List.length_nil, List.length_set]; omega) | (simp; done))) | (with_reducible refine Ev.ifn ?_ ?_; (· first | omega | assumption | rfl | (simp only [List.length_map, List.length_replicate, List.length_take, List.length_drop, List.length_append, List.length_cons, List.length_nil, List.length_set]; omega) | (simp; done)))))
          exact Ev.val rfl
      · obtain ⟨r, a, b, c, f⟩ := ih (i + 1) (by omega)
        refine ⟨r, a, b, ?_, ?_⟩
        · (refine Ev.up ?_; simp only [spec_l8Low.l0, decT])
          rw [hu, e, hw]
          (repeat (first | with_reducible refine Ev.bindS ?_ | (with_reducible refine Ev.ifp ?_ ?_; (· first | omega | assumption | rfl | (simp only [List.length_map, List.length_replicate, List.length_take, List.length_drop, List.length_append, List.length_cons, List.length_nil, List.length_set]; omega) | (simp; done))) | (with_reducible refine Ev.ifn ?_ ?_; (· first | omega | assumption | rfl | (simp only [List.length_map, List.length_replicate, List.length_take, List.length_drop, List.length_append, List.length_cons, List.length_nil, List.length_set]; omega) | (simp; done)))))
          exact c
        · (refine Ev.up ?_; simp only [impl_lowFor.l0, decT])
          rw [e, hw]
          (repeat (first | with_reducible refine Ev.bindS ?_ | (with_reducible refine Ev.ifp ?_ ?_; (· first | omega | assumption | rfl | (simp only [List.length_map, List.length_replicate, List.length_take, List.length_drop, List.length_append, List.length_cons, List.length_nil, List.length_set]; omega) | (simp; done))) | (with_reducible refine Ev.ifn ?_ ?_; (· first | omega | assumption | rfl | (simp only [List.length_map, List.length_replicate, List.length_take, List.length_drop, List.length_append, List.length_cons, List.length_nil, List.length_set]; omega) | (simp; done)))))
          exact f
  exact key 14 0 (by omega)
theorem u64_low {r : Nat} (h : r ≤ 14) : IntKind.u64.wrap (r : Int) = (r : Int) := IntWalk.u64_in _ (by omega)
theorem pack_same (r : Nat) (hr : r ≤ 14) : ∀ k, (∀ hi l n i c lows bits, spec_l8Pack.l0 k hi l n i c r lows bits = impl_pack.l0 k hi l n i c r lows bits) ∧
    (∀ hi x l n i c lows bits, spec_l8Pack.l1 k hi x l n i c r lows bits = impl_pack.l1 k hi x l n i c r lows bits) := by
  intro k
  induction k with
  | zero => exact ⟨fun _ _ _ _ _ _ _ => by simp only [spec_l8Pack.l0, impl_pack.l0], fun _ _ _ _ _ _ _ _ => by simp only [spec_l8Pack.l1, impl_pack.l1]⟩
  | succ k ih =>
    obtain ⟨ih0, ih1⟩ := ih
    refine ⟨fun _ _ _ _ _ _ _ => ?_, fun _ _ _ _ _ _ _ _ => ?_⟩
    · simp only [spec_l8Pack.l0, impl_pack.l0, u64_low hr, ih1]
    · simp only [spec_l8Pack.l1, impl_pack.l1, u64_low hr, ih0, ih1]
theorem shr_low {x : Int} {r : Nat} (hr : r ≤ 14) : shr .i64 x (r : Int) = x / 2 ^ r := by
  unfold shr
  rw [Int.toNat_natCast, Nat.min_eq_left (by show r ≤ 64; omega)]
theorem pack_inner (r : Nat) (hr : r ≤ 14) (x : Int) (M : Int) (hM : M ≤ 1000) (hx : x / 2 ^ r ≤ M) (l : List Int) (n : Int) (i : Nat) (c : Int) (lows : List Int) :
    ∀ (d : Nat) (hi : Int) (bits : List Bool), x / 2 ^ r - hi ≤ d → 0 ≤ hi → hi ≤ M → (bits.length : Int) + (M - hi) ≤ 100000 →
      ∃ (hi' : Int) (bits' : List Bool), hi ≤ hi' ∧ hi' ≤ M ∧ (bits'.length : Int) = bits.length + (hi' - hi) + 1 ∧ (∀ v, Ev (fun k => impl_pack.l0 k hi' l n (wrap64 ((i : Int) + 1)) c r lows bits') v → Ev (fun k => impl_pack.l1 k hi x l n i c r lows bits) v) := by
  intro d
  induction d with
  | zero =>
    intro hi bits hd h0 h1 hb
    refine ⟨hi, bits ++ [true], by omega, h1, by simp, fun v h => ?_⟩
    (refine Ev.up ?_; simp only [impl_pack.l1, decT])
    rw [shr_low hr]
    (repeat (first | with_reducible refine Ev.bindS ?_ | (with_reducible refine Ev.ifp ?_ ?_; (· first | omega | assumption | rfl | (simp only [List.length_map, List.length_replicate, List.length_take, List.length_drop, List.length_append, List.length_cons, List.length_nil, List.length_set]; omega) | (simp; done))) | (with_reducible refine Ev.ifn ?_ ?_; (· first | omega | assumption | rfl | (simp only [List.length_map, List.length_replicate, List.length_take, List.length_drop, List.length_append, List.length_cons, List.length_nil, List.length_set]; omega) | (simp; done)))))
    exact h
  | succ d ih =>
    intro hi bits hd h0 h1 hb
    by_cases hlt : hi < x / 2 ^ r
    · obtain ⟨hi', bits', a, b, e, f⟩ := ih (hi + 1) (bits ++ [false]) (by omega) (by omega) (by omega) (by simp; omega)
      refine ⟨hi', bits', by omega, b, by rw [e]; simp; omega, fun v h => ?_⟩
      (refine Ev.up ?_; simp only [impl_pack.l1, decT])
      rw [shr_low hr, wrap_ok (n := hi + 1) (by omega) (by omega)]
      (repeat (first | with_reducible refine Ev.bindS ?_ | (with_reducible refine Ev.ifp ?_ ?_; (· first | omega | assumption | rfl | (simp only [List.length_map, List.length_replicate, List.length_take, List.length_drop, List.length_append, List.length_cons, List.length_nil, List.length_set]; omega) | (simp; done))) | (with_reducible refine Ev.ifn ?_ ?_; (· first | omega | assumption | rfl | (simp only [List.length_map, List.length_replicate, List.length_take, List.length_drop, List.length_append, List.length_cons, List.length_nil, List.length_set]; omega) | (simp; done)))))
      exact f v h
    · refine ⟨hi, bits ++ [true], by omega, h1, by simp, fun v h => ?_⟩
      (refine Ev.up ?_; simp only [impl_pack.l1, decT])
      rw [shr_low hr]
      (repeat (first | with_reducible refine Ev.bindS ?_ | (with_reducible refine Ev.ifp ?_ ?_; (· first | omega | assumption | rfl | (simp only [List.length_map, List.length_replicate, List.length_take, List.length_drop, List.length_append, List.length_cons, List.length_nil, List.length_set]; omega) | (simp; done))) | (with_reducible refine Ev.ifn ?_ ?_; (· first | omega | assumption | rfl | (simp only [List.length_map, List.length_replicate, List.length_take, List.length_drop, List.length_append, List.length_cons, List.length_nil, List.length_set]; omega) | (simp; done)))))
      exact h
theorem pack_loop (r : Nat) (hr : r ≤ 14) (M : Int) (hM : M ≤ 1000) (l : List Int) (hl : l.length ≤ 60) (hx : ∀ x ∈ l, x / 2 ^ r ≤ M) (c : Int) (t : List Int) :
    ∀ (i : Nat) (hi : Int) (lows : List Int) (bits : List Bool), l.drop i = t → i ≤ l.length → 0 ≤ hi → hi ≤ M → lows.length = i → (bits.length : Int) = i + hi →
      ∃ (lows' : List Int) (bits' : List Bool), lows'.length = l.length ∧ (bits'.length : Int) ≤ l.length + M ∧ Ev (fun k => impl_pack.l0 k hi l l.length i c r lows bits) (c, (r : Int), lows', bits') := by
  induction t with
  | nil =>
    intro i hi lows bits h hi2 h0 h1 hlo hb
    have := drop_nil h
    refine ⟨lows, bits, by omega, by omega, ?_⟩
    (refine Ev.up ?_; simp only [impl_pack.l0, decT])
    (repeat (first | with_reducible refine Ev.bindS ?_ | (with_reducible refine Ev.ifp ?_ ?_; (· first | omega | assumption | rfl | (simp only [List.length_map, List.length_replicate, List.length_take, List.length_drop, List.length_append, List.length_cons, List.length_nil, List.length_set]; omega) | (simp; done))) | (with_reducible refine Ev.ifn ?_ ?_; (· first | omega | assumption | rfl | (simp only [List.length_map, List.length_replicate, List.length_take, List.length_drop, List.length_append, List.length_cons, List.length_nil, List.length_set]; omega) | (simp; done)))))
    exact Ev.val rfl
  | cons x t ih =>
    intro i hi lows bits h hi2 h0 h1 hlo hb
    obtain ⟨h2, h3, h4⟩ := drop_cons h
    obtain ⟨hi', bits', a, b, e, f⟩ := pack_inner r hr x M hM (hx x (List.mem_of_getElem? h3)) l l.length i c (lows ++ [Go.bits .and .i64 x (wrap64 ((shl .i64 1 (r : Int)) - 1))]) (x / 2 ^ r - hi).toNat hi bits (by omega) h0 h1 (by omega)
    obtain ⟨lows', bits'', q1, q2, q3⟩ := ih (i + 1) hi' (lows ++ [Go.bits .and .i64 x (wrap64 ((shl .i64 1 (r : Int)) - 1))]) bits' h4 (by omega) (by omega) b (by simp; omega) (by omega)
    refine ⟨lows', bits'', q1, q2, ?_⟩
    (refine Ev.up ?_; simp only [impl_pack.l0, decT])
    rw [rd_at h3]
    (repeat (first | with_reducible refine Ev.bindS ?_ | (with_reducible refine Ev.ifp ?_ ?_; (· first | omega | assumption | rfl | (simp only [List.length_map, List.length_replicate, List.length_take, List.length_drop, List.length_append, List.length_cons, List.length_nil, List.length_set]; omega) | (simp; done))) | (with_reducible refine Ev.ifn ?_ ?_; (· first | omega | assumption | rfl | (simp only [List.length_map, List.length_replicate, List.length_take, List.length_drop, List.length_append, List.length_cons, List.length_nil, List.length_set]; omega) | (simp; done)))))
    refine f _ ?_
    rw [wrap_succ (by omega)]
    exact q3
/-- Both pack a good list alike, and there is an end. -/
theorem pack_ev (l : List Int) (h : listOk l = true) : ∃ (r : Nat) (lows : List Int) (bits : List Bool), r ≤ 14 ∧ lows.length = l.length ∧ bits.length ≤ 180 ∧
    Ev (fun k => spec_l8Pack.f k l) ((l.length : Int), (r : Int), lows, bits) ∧ Ev (fun k => impl_pack.f k l) ((l.length : Int), (r : Int), lows, bits) := by
  have hl := ok_len h
  have join : ∀ (r : Nat) (M : Int), r ≤ 14 → 0 ≤ M → M ≤ 119 → (∀ x ∈ l, x / 2 ^ r ≤ M) → ∃ (lows : List Int) (bits : List Bool), lows.length = l.length ∧ bits.length ≤ 180 ∧
      Ev (fun k => spec_l8Pack.j0 k l l.length r) ((l.length : Int), (r : Int), lows, bits) ∧ Ev (fun k => impl_pack.j0 k l l.length r) ((l.length : Int), (r : Int), lows, bits) := by
    intro r M hr hM0 hM hx
    obtain ⟨lows, bits, a, b, e⟩ := pack_loop r hr M (by omega) l hl hx l.length l 0 0 [] [] rfl (by omega) (by omega) hM0 rfl rfl
    refine ⟨lows, bits, a, by omega, ?_, ?_⟩
    · (refine Ev.up ?_; simp only [spec_l8Pack.j0, decT])
      exact Ev.same (K := 0) (fun k _ => (pack_same r hr k).1 _ _ _ _ _ _ _) e
    · (refine Ev.up ?_; simp only [impl_pack.j0, decT])
      exact e
  by_cases h0 : l.length = 0
  · obtain ⟨lows, bits, a, b, c, d⟩ := join 0 0 (by omega) (by omega) (by omega) (by
      intro x hx
      have : l = [] := List.length_eq_zero_iff.1 h0
      subst this
      cases hx)
    refine ⟨0, lows, bits, by omega, a, b, ?_, ?_⟩
    · simp only [spec_l8Pack.f]
      (repeat (first | with_reducible refine Ev.bindS ?_ | (with_reducible refine Ev.ifp ?_ ?_; (· first | omega | assumption | rfl | (simp only [List.length_map, List.length_replicate, List.length_take, List.length_drop, List.length_append, List.length_cons, List.length_nil, List.length_set]; omega) | (simp; done))) | (with_reducible refine Ev.ifn ?_ ?_; (· first | omega | assumption | rfl | (simp only [List.length_map, List.length_replicate, List.length_take, List.length_drop, List.length_append, List.length_cons, List.length_nil, List.length_set]; omega) | (simp; done)))))
      exact c
    · simp only [impl_pack.f]
      (repeat (first | with_reducible refine Ev.bindS ?_ | (with_reducible refine Ev.ifp ?_ ?_; (· first | omega | assumption | rfl | (simp only [List.length_map, List.length_replicate, List.length_take, List.length_drop, List.length_append, List.length_cons, List.length_nil, List.length_set]; omega) | (simp; done))) | (with_reducible refine Ev.ifn ?_ ?_; (· first | omega | assumption | rfl | (simp only [List.length_map, List.length_replicate, List.length_take, List.length_drop, List.length_append, List.length_cons, List.length_nil, List.length_set]; omega) | (simp; done)))))
      exact d
  · have hlast : l[l.length - 1]? = some l[l.length - 1] := List.getElem?_eq_getElem (by omega)
    have e : wrap64 ((l.length : Int) - 1) = ((l.length - 1 : Nat) : Int) := by rw [wrap_ok (by omega) (by omega)]; omega
    obtain ⟨r, hr, hlt, hs, hi⟩ := low_ev l.length l[l.length - 1] (by omega) (by omega) (ok_at h hlast).1.2
    obtain ⟨lows, bits, a, b, c, d⟩ := join r 119 hr (by omega) (by omega) (by
      intro x hx
      obtain ⟨j, hj, hjx⟩ := List.getElem_of_mem hx
      have hjx' : l[j]? = some x := by rw [List.getElem?_eq_getElem hj, hjx]
      have hle := (ok_mono h (l.length - 1 - j) j x l[l.length - 1] hjx' (by rw [show j + (l.length - 1 - j) = l.length - 1 by omega]; exact hlast)).1
      have h2 : x < 120 * 2 ^ r := by
        have e2 : (l.length : Int) * 2 ^ (r + 1) = (2 * l.length) * 2 ^ r := by rw [Int.pow_succ]; rw [Int.mul_comm (2 ^ r) 2, ← Int.mul_assoc, Int.mul_comm (l.length : Int) 2]
        have e3 : (2 * (l.length : Int)) * 2 ^ r ≤ 120 * 2 ^ r := Int.mul_le_mul_of_nonneg_right (by omega) (by have := two_pow_pos r; omega)
        omega
      have := Int.ediv_lt_of_lt_mul (two_pow_pos r) h2
      omega)
    refine ⟨r, lows, bits, hr, a, b, ?_, ?_⟩
    · simp only [spec_l8Pack.f, e, rd_at hlast]
      (repeat (first | with_reducible refine Ev.bindS ?_ | (with_reducible refine Ev.ifp ?_ ?_; (· first | omega | assumption | rfl | (simp only [List.length_map, List.length_replicate, List.length_take, List.length_drop, List.length_append, List.length_cons, List.length_nil, List.length_set]; omega) | (simp; done))) | (with_reducible refine Ev.ifn ?_ ?_; (· first | omega | assumption | rfl | (simp only [List.length_map, List.length_replicate, List.length_take, List.length_drop, List.length_append, List.length_cons, List.length_nil, List.length_set]; omega) | (simp; done)))))
      exact Ev.bind hs c
    · simp only [impl_pack.f, e, rd_at hlast]
      (repeat (first | with_reducible refine Ev.bindS ?_ | (with_reducible refine Ev.ifp ?_ ?_; (· first | omega | assumption | rfl | (simp only [List.length_map, List.length_replicate, List.length_take, List.length_drop, List.length_append, List.length_cons, List.length_nil, List.length_set]; omega) | (simp; done))) | (with_reducible refine Ev.ifn ?_ ?_; (· first | omega | assumption | rfl | (simp only [List.length_map, List.length_replicate, List.length_take, List.length_drop, List.length_append, List.length_cons, List.length_nil, List.length_set]; omega) | (simp; done)))))
      exact Ev.bind hi d
end Go.Proofs.Ytcjebflldmiajaa.Pure
namespace Go.Proofs.Ytcjebflldmiajaa.Pure
open Go.RowKit Go.Proofs.Ytcjebflldmiajaa.Fn Go.Proofs.YtcjebflldmiajaaW.PrintWords Go.Proofs.YtcjebflldmiajaaW.PrintLast Go.Proofs.YtcjebflldmiajaaW.PrintMore
set_option linter.unusedSimpArgs false
set_option linter.unusedVariables false

theorem specSame_ev (a b : List Int) (ha : a.length ≤ 1048576) : Ev (fun k => spec_l1Same.f k a b) (decide (a = b)) := by
  simp only [spec_l1Same.f]
  by_cases h : a.length = b.length
  · have := same_ev (fun k i => spec_l1Same.l0 k a b a.length i) a b h (fun k => by simp only [spec_l1Same.l0]; rw [if_neg (by omega)])
      (fun k i x hi h1 h2 => by
        simp only [spec_l1Same.l0]
        rw [rd_at h1, rd_at h2, if_pos (by omega), if_pos (by omega), if_pos (by omega), if_pos (by omega), if_pos rfl, wrap_succ (by omega)])
      (fun k i x y hi h1 h2 hxy => by
        simp only [spec_l1Same.l0]
        rw [rd_at h1, rd_at h2, if_pos (by omega), if_pos (by omega), if_pos (by omega), if_pos (by omega), if_neg hxy])
    (repeat (first | with_reducible refine Ev.bindS ?_ | (with_reducible refine Ev.ifp ?_ ?_; (· first | omega | assumption | rfl | (simp only [List.length_map, List.length_replicate, List.length_take, List.length_drop, List.length_append, List.length_cons, List.length_nil, List.length_set]; omega) | (simp; done))) | (with_reducible refine Ev.ifn ?_ ?_; (· first | omega | assumption | rfl | (simp only [List.length_map, List.length_replicate, List.length_take, List.length_drop, List.length_append, List.length_cons, List.length_nil, List.length_set]; omega) | (simp; done)))))
    exact this
  · have e : decide (a = b) = false := decide_eq_false (fun e => h (by rw [e]))
    (repeat (first | with_reducible refine Ev.bindS ?_ | (with_reducible refine Ev.ifp ?_ ?_; (· first | omega | assumption | rfl | (simp only [List.length_map, List.length_replicate, List.length_take, List.length_drop, List.length_append, List.length_cons, List.length_nil, List.length_set]; omega) | (simp; done))) | (with_reducible refine Ev.ifn ?_ ?_; (· first | omega | assumption | rfl | (simp only [List.length_map, List.length_replicate, List.length_take, List.length_drop, List.length_append, List.length_cons, List.length_nil, List.length_set]; omega) | (simp; done)))))
    exact Ev.val e.symm
theorem slicesInt_ev (a b : List Int) (ha : a.length ≤ 1048576) : Ev (fun k => slices_Equal_int_int.f k a b) (decide (a = b)) := by
  simp only [slices_Equal_int_int.f]
  by_cases h : a.length = b.length
  · have := same_ev (fun k i => slices_Equal_int_int.l0 k a b a.length i) a b h (fun k => by simp only [slices_Equal_int_int.l0]; rw [if_neg (by omega)])
      (fun k i x hi h1 h2 => by
        simp only [slices_Equal_int_int.l0]
        rw [rd_at h1, rd_at h2, if_pos (by omega), if_pos (by omega), if_pos (by omega), if_pos (by omega), if_pos rfl, wrap_succ (by omega)])
      (fun k i x y hi h1 h2 hxy => by
        simp only [slices_Equal_int_int.l0]
        rw [rd_at h1, rd_at h2, if_pos (by omega), if_pos (by omega), if_pos (by omega), if_pos (by omega), if_neg hxy])
    (repeat (first | with_reducible refine Ev.bindS ?_ | (with_reducible refine Ev.ifp ?_ ?_; (· first | omega | assumption | rfl | (simp only [List.length_map, List.length_replicate, List.length_take, List.length_drop, List.length_append, List.length_cons, List.length_nil, List.length_set]; omega) | (simp; done))) | (with_reducible refine Ev.ifn ?_ ?_; (· first | omega | assumption | rfl | (simp only [List.length_map, List.length_replicate, List.length_take, List.length_drop, List.length_append, List.length_cons, List.length_nil, List.length_set]; omega) | (simp; done)))))
    exact this
  · have e : decide (a = b) = false := decide_eq_false (fun e => h (by rw [e]))
    (repeat (first | with_reducible refine Ev.bindS ?_ | (with_reducible refine Ev.ifp ?_ ?_; (· first | omega | assumption | rfl | (simp only [List.length_map, List.length_replicate, List.length_take, List.length_drop, List.length_append, List.length_cons, List.length_nil, List.length_set]; omega) | (simp; done))) | (with_reducible refine Ev.ifn ?_ ?_; (· first | omega | assumption | rfl | (simp only [List.length_map, List.length_replicate, List.length_take, List.length_drop, List.length_append, List.length_cons, List.length_nil, List.length_set]; omega) | (simp; done)))))
    exact Ev.val e.symm
theorem slicesBool_ev (a b : List Bool) (ha : a.length ≤ 1048576) : Ev (fun k => slices_Equal_bool_bool.f k a b) (decide (a = b)) := by
  simp only [slices_Equal_bool_bool.f]
  by_cases h : a.length = b.length
  · have := same_ev (fun k i => slices_Equal_bool_bool.l0 k a b a.length i) a b h (fun k => by simp only [slices_Equal_bool_bool.l0]; rw [if_neg (by omega)])
      (fun k i x hi h1 h2 => by
        simp only [slices_Equal_bool_bool.l0]
        rw [rdOf_at h1, rdOf_at h2, if_pos (by omega), if_pos (by omega), if_pos (by omega), if_pos (by omega), if_neg (by simp), wrap_succ (by omega)])
      (fun k i x y hi h1 h2 hxy => by
        simp only [slices_Equal_bool_bool.l0]
        rw [rdOf_at h1, rdOf_at h2, if_pos (by omega), if_pos (by omega), if_pos (by omega), if_pos (by omega), if_pos (by simpa using hxy)])
    (repeat (first | with_reducible refine Ev.bindS ?_ | (with_reducible refine Ev.ifp ?_ ?_; (· first | omega | assumption | rfl | (simp only [List.length_map, List.length_replicate, List.length_take, List.length_drop, List.length_append, List.length_cons, List.length_nil, List.length_set]; omega) | (simp; done))) | (with_reducible refine Ev.ifn ?_ ?_; (· first | omega | assumption | rfl | (simp only [List.length_map, List.length_replicate, List.length_take, List.length_drop, List.length_append, List.length_cons, List.length_nil, List.length_set]; omega) | (simp; done)))))
    exact this
  · have e : decide (a = b) = false := decide_eq_false (fun e => h (by rw [e]))
    (repeat (first | with_reducible refine Ev.bindS ?_ | (with_reducible refine Ev.ifp ?_ ?_; (· first | omega | assumption | rfl | (simp only [List.length_map, List.length_replicate, List.length_take, List.length_drop, List.length_append, List.length_cons, List.length_nil, List.length_set]; omega) | (simp; done))) | (with_reducible refine Ev.ifn ?_ ?_; (· first | omega | assumption | rfl | (simp only [List.length_map, List.length_replicate, List.length_take, List.length_drop, List.length_append, List.length_cons, List.length_nil, List.length_set]; omega) | (simp; done)))))
    exact Ev.val e.symm
/-- The one program's look at the bits, at the end. -/
def bitsEnd (acc : List Int) (a b : List Bool) : List Int × Bool := if a = b then (acc, true) else ([], false)
theorem specBits_ev (acc : List Int) (a b : List Bool) (ha : a.length ≤ 1048576) (h : a.length = b.length) (n low : Int) (lows : List Int) :
    Ev (fun k => spec_l8Unpack.l1 k acc a a.length 0 n low lows b) (bitsEnd acc a b) := by
  have key : ∀ (t u : List Bool) (i : Nat), a.drop i = t → b.drop i = u → i ≤ a.length → Ev (fun k => spec_l8Unpack.l1 k acc a a.length i n low lows b) (bitsEnd acc t u) := by
    intro t
    induction t with
    | nil =>
      intro u i h1 h2 hi
      have h3 := drop_len h1 hi
      have h4 := drop_len h2 (by omega)
      have e : i = a.length := by simpa using h3
      have hu : u = [] := List.length_eq_zero_iff.1 (by omega)
      subst hu
      (refine Ev.up ?_; simp only [spec_l8Unpack.l1, decT])
      (repeat (first | with_reducible refine Ev.bindS ?_ | (with_reducible refine Ev.ifp ?_ ?_; (· first | omega | assumption | rfl | (simp only [List.length_map, List.length_replicate, List.length_take, List.length_drop, List.length_append, List.length_cons, List.length_nil, List.length_set]; omega) | (simp; done))) | (with_reducible refine Ev.ifn ?_ ?_; (· first | omega | assumption | rfl | (simp only [List.length_map, List.length_replicate, List.length_take, List.length_drop, List.length_append, List.length_cons, List.length_nil, List.length_set]; omega) | (simp; done)))))
      exact Ev.val rfl
    | cons x t ih =>
      intro u i h1 h2 hi
      have h3 := drop_len h1 hi
      have h4 := drop_len h2 (by omega)
      cases u with
      | nil => simp at h3 h4; omega
      | cons y u =>
        obtain ⟨p1, p2, p3⟩ := drop_cons h1
        obtain ⟨q1, q2, q3⟩ := drop_cons h2
        (refine Ev.up ?_; simp only [spec_l8Unpack.l1, decT])
        rw [rdOf_at p2, rdOf_at q2, wrap_succ (by omega)]
        (repeat (first | with_reducible refine Ev.bindS ?_ | (with_reducible refine Ev.ifp ?_ ?_; (· first | omega | assumption | rfl | (simp only [List.length_map, List.length_replicate, List.length_take, List.length_drop, List.length_append, List.length_cons, List.length_nil, List.length_set]; omega) | (simp; done))) | (with_reducible refine Ev.ifn ?_ ?_; (· first | omega | assumption | rfl | (simp only [List.length_map, List.length_replicate, List.length_take, List.length_drop, List.length_append, List.length_cons, List.length_nil, List.length_set]; omega) | (simp; done)))))
        by_cases hxy : x = y
        · subst hxy
          have e : bitsEnd acc (x :: t) (x :: u) = bitsEnd acc t u := by simp [bitsEnd]
          rw [e, bne_self_eq_false]
          (repeat (first | with_reducible refine Ev.bindS ?_ | (with_reducible refine Ev.ifp ?_ ?_; (· first | omega | assumption | rfl | (simp only [List.length_map, List.length_replicate, List.length_take, List.length_drop, List.length_append, List.length_cons, List.length_nil, List.length_set]; omega) | (simp; done))) | (with_reducible refine Ev.ifn ?_ ?_; (· first | omega | assumption | rfl | (simp only [List.length_map, List.length_replicate, List.length_take, List.length_drop, List.length_append, List.length_cons, List.length_nil, List.length_set]; omega) | (simp; done)))))
          exact ih u (i + 1) p3 q3 (by omega)
        · have e : (x != y) = true := by simpa using hxy
          rw [e]
          (repeat (first | with_reducible refine Ev.bindS ?_ | (with_reducible refine Ev.ifp ?_ ?_; (· first | omega | assumption | rfl | (simp only [List.length_map, List.length_replicate, List.length_take, List.length_drop, List.length_append, List.length_cons, List.length_nil, List.length_set]; omega) | (simp; done))) | (with_reducible refine Ev.ifn ?_ ?_; (· first | omega | assumption | rfl | (simp only [List.length_map, List.length_replicate, List.length_take, List.length_drop, List.length_append, List.length_cons, List.length_nil, List.length_set]; omega) | (simp; done)))))
          exact Ev.val (by simp [bitsEnd, hxy])
  exact key a b 0 rfl rfl (by omega)
/-- What both answer. -/
def UnpAs (a b : List Int × Bool) : Prop := a.2 = b.2 ∧ (a.2 = true → a.1 = b.1 ∧ listOk a.1 = true) ∧ (a.2 = false → a.1 = [])
end Go.Proofs.Ytcjebflldmiajaa.Pure
