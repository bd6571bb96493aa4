/- The law FnPhrases holds of the given program: at every input it answers true and leaves its arguments as they were; no condition. -/
import Derived.Test.YtcopakljdenolaaQWWords
import Derived.ChangeArms
import Derived.ChangeSame
import Derived.Deep.Slices
import Derived.Deep.Strs
import Derived.Deep.Fields
import Derived.Lib.SmallJoins
import Derived.WideShapes
import Derived.Test.YtcopakljdenolaaRows
import Derived.WalkKit
import Derived.ProofKit
import Derived.OpenShut
import Derived.ShutString
import Derived.ChangeOld
import Derived.Below
import Derived.SizedLaws
import Derived.Carry
import Derived.Test.YtcopakljdenolaaCFPhrasesA
import Derived.Test.YtcopakljdenolaaCFPhrasesB
import Derived.Test.YtcopakljdenolaaCFPhrasesC
import Derived.Test.YtcopakljdenolaaCFPhrasesD
set_option maxHeartbeats 8000000
set_option maxRecDepth 100000
set_option linter.unusedVariables false
set_option linter.unusedSimpArgs false
open Go.RowKit Go.Proofs.YtcopakljdenolaaW.PrintWords Go.Proofs.YtcopakljdenolaaW.PrintLast Go.Proofs.YtcopakljdenolaaW.PrintMore
open Go.Proofs.Ytcopakljdenolaa.Gen   -- compacted234
open Go.RowKit Go.Proofs.Ytcopakljdenolaa.Fn Go.Proofs.YtcopakljdenolaaW.PrintWords Go.Proofs.YtcopakljdenolaaW.PrintLast Go.Proofs.YtcopakljdenolaaW.PrintMore
attribute [local go_sem] max2_int min2_int max_two min_two max_three min_three max_four min_four   -- for this text's walks alone
namespace Go.Proofs.Ytcopakljdenolaa.Fn
def laws_szPost.f (a0_0 : Int) (l0_1 : List Int) (a1 : Int) : Option (Int) := (laws_szIntS.f l0_1 a1).bind fun t218 => (if t218 < 0 then (some (-1)) else (some t218))
theorem laws_szPost.calls (a0_0 : Int) (A0_1 : Option Addr) (c0_1 : Nat) (l0_1 : List Int) (a1 : Int) (r : Int) (w : World) (hr0_1 : Kd.C (Kd.int .i64) w A0_1 l0_1.length l0_1) (hc0_1 : l0_1.length <= c0_1) (h : laws_szPost.f a0_0 l0_1 a1 = some r) :
  Calls Try.prog 66 #[.agg #[.int .i64 a0_0, .slice A0_1 l0_1.length c0_1], .int .i64 a1] w fun e w' => e = .returned (.int .i64 r) /\ Below w.heap.size w w' := by
 have hu75 := Try.underlying75
 have HR0_1 := Aside0.mk hr0_1
 have HC0_1 := Aside0.mk hc0_1
 clear hr0_1 hc0_1
 have HB := Aside0.mk (Below.refl w.heap.size w)
 have H : ((laws_szIntS.f l0_1 a1).bind fun t218 => (if t218 < 0 then (some (-1)) else (some t218))) = some r := h
 clear h
 replace H := Option.bind_eq_some_iff.mp H
 obtain ⟨t218, A30, H⟩ := H
 replace H : (if t218 < 0 then (some (-1)) else (some t218)) = some r := H
 have A3 := Aside0.mk A30
 clear A30
 by_cases c4 : t218 < 0
 ·rw [if_pos c4] at H
  have c4b0 : decide (t218 < 0) = true := decide_eq_true c4
  clear c4
  obtain rfl := Option.some.inj H
  go_enter Try.func66, Try.ntmps66
  go_wp2_with (first | ((with_reducible refine gate_dst (N := 2) rfl ?_); refine box_event ?hg (N := 2) ?hd (cs := #[.int .i64 a0_0, .slice A0_1 l0_1.length c0_1]) (t := 75) ?hr ?_; (case hd => rfl); (case hg => rfl); (case hr => first | (go_simp; done) | (go_simp; rfl)); intro gb217 hg w5 hbox hb; have n0_ := Aside0.mk (bs_ HB.out hb); have n1_ := Aside0.mk (hbox); have n2_ := Aside0.mk ((by rw [hg]; exact (bw_ HB.out) : w.heap.size <= gb217)); have n3_ := Aside0.mk ((by rw [hg]; exact (bw_ HB.out) : w.heap.size <= gb217)); clear HB; have HB := n0_; have BK217 := n1_; have GW217 := n2_; have GE217 := n3_; clear n0_ n1_ n2_ n3_; clear hb hbox hg; have hcz6_0 : w5.cell? ⟨gb217, 0, none⟩ = some (.int .i64 a0_0) := (blk_cell BK217.out 0).trans rfl; have hcz6_1 : w5.cell? ⟨gb217, 1, none⟩ = some (.slice A0_1 l0_1.length c0_1) := (blk_cell BK217.out 1).trans rfl; have hfz6_0 := blk_frozen BK217.out 0; have hfz6_1 := blk_frozen BK217.out 1) | ((with_reducible refine gate_callee (f := 97) rfl ?_); refine goesL_ (some 8) rfl rfl Try.func97 (by kernel_rfl) rfl #[.slice A0_1 l0_1.length c0_1, .int .i64 a1] rfl (ag_) ?_; (with_reducible refine (laws_szIntS.calls _ _ l0_1 a1 t218 _ ?side1 ?side2 A3.out).mono ?_); (case side1 => refine cd_ ?_; exact (Kd.C_below HR0_1.out HB.out)); (case side2 => exact HC0_1.out); rintro e w' ⟨rfl, ⟨nd, rfl⟩⟩; refine ⟨_, rfl, ?_⟩))
  go_ret
  exact ⟨ew_, by repeat (first | (with_reducible first | exact HB.out | apply below_alloc | apply pw_below_drewN | apply below_drew1 | refine below_set ?_ GE217.out) | exact HB.out)⟩
 ·rw [if_neg c4] at H
  have c4b0 : decide (t218 < 0) = false := decide_eq_false c4
  clear c4
  obtain rfl := Option.some.inj H
  go_enter Try.func66, Try.ntmps66
  go_wp2_with (first | ((with_reducible refine gate_dst (N := 2) rfl ?_); refine box_event ?hg (N := 2) ?hd (cs := #[.int .i64 a0_0, .slice A0_1 l0_1.length c0_1]) (t := 75) ?hr ?_; (case hd => rfl); (case hg => rfl); (case hr => first | (go_simp; done) | (go_simp; rfl)); intro gb217 hg w7 hbox hb; have n0_ := Aside0.mk (bs_ HB.out hb); have n1_ := Aside0.mk (hbox); have n2_ := Aside0.mk ((by rw [hg]; exact (bw_ HB.out) : w.heap.size <= gb217)); have n3_ := Aside0.mk ((by rw [hg]; exact (bw_ HB.out) : w.heap.size <= gb217)); clear HB; have HB := n0_; have BK217 := n1_; have GW217 := n2_; have GE217 := n3_; clear n0_ n1_ n2_ n3_; clear hb hbox hg; have hcz8_0 : w7.cell? ⟨gb217, 0, none⟩ = some (.int .i64 a0_0) := (blk_cell BK217.out 0).trans rfl; have hcz8_1 : w7.cell? ⟨gb217, 1, none⟩ = some (.slice A0_1 l0_1.length c0_1) := (blk_cell BK217.out 1).trans rfl; have hfz8_0 := blk_frozen BK217.out 0; have hfz8_1 := blk_frozen BK217.out 1) | ((with_reducible refine gate_callee (f := 97) rfl ?_); refine goesL_ (some 8) rfl rfl Try.func97 (by kernel_rfl) rfl #[.slice A0_1 l0_1.length c0_1, .int .i64 a1] rfl (ag_) ?_; (with_reducible refine (laws_szIntS.calls _ _ l0_1 a1 t218 _ ?side1 ?side2 A3.out).mono ?_); (case side1 => refine cd_ ?_; exact (Kd.C_below HR0_1.out HB.out)); (case side2 => exact HC0_1.out); rintro e w' ⟨rfl, ⟨nd, rfl⟩⟩; refine ⟨_, rfl, ?_⟩))
  go_ret
  exact ⟨ew_, by repeat (first | (with_reducible first | exact HB.out | apply below_alloc | apply pw_below_drewN | apply below_drew1 | refine below_set ?_ GE217.out) | exact HB.out)⟩
def laws_szPostS.l0 : Nat -> List (S75) -> Int -> Int -> Option (Int)
 | 0, _, _, _ => none
 | k + 1, x0, x1, x5 => if x5 < (x0.length : Int) then (if 0 <= x5 then ((laws_szPost.f ((rd_T75 x0 x5).f0) ((rd_T75 x0 x5).f1) x1).bind fun t220 => (if t220 < 0 then (some (-1)) else (laws_szPostS.l0 k x0 t220 (wrap64 (x5 + 1))))) else (none)) else (some x1)
def laws_szPostS.f (k : Nat) (l0 : List (S75)) (a1 : Int) : Option (Int) := if (wrap64 (a1 - (l0.length : Int))) < 0 then (some (-1)) else (laws_szPostS.l0 k l0 (wrap64 (a1 - (l0.length : Int))) 0)
theorem laws_szPostS.mono_l : ∀ k, (∀ y0 y1 y2, LeO (laws_szPostS.l0 k y0 y1 y2) (laws_szPostS.l0 (k + 1) y0 y1 y2))
 | 0 => fun _ _ _ r h => by simp [laws_szPostS.l0] at h
 | k + 1 => by
  have ih0 := laws_szPostS.mono_l k
  ·intro y0 y1 y2
   unfold laws_szPostS.l0
   repeat' (with_reducible first | exact ih0 _ _ _ | exact LeO.refl _ | exact LeO.none _ | refine LeO.ite ?_ ?_ | refine LeO.bind ?_ (fun _ => ?_))
theorem laws_szPostS.mono : ∀ a0 a1 k, LeO (laws_szPostS.f k a0 a1) (laws_szPostS.f (k + 1) a0 a1) := by
 intro a0 a1 k
 have ih0 := laws_szPostS.mono_l k
 unfold laws_szPostS.f
 repeat' (with_reducible first | exact ih0 _ _ _ | exact LeO.refl _ | exact LeO.none _ | refine LeO.ite ?_ ?_ | refine LeO.bind ?_ (fun _ => ?_))
theorem laws_szPostS.calls (k : Nat) (A0 : Option Addr) (c0 : Nat) (l0 : List (S75)) (a1 : Int) (r : Int) (w : World) (hr0 : Kd.C k75 w A0 l0.length l0) (hc0 : l0.length <= c0) (h : laws_szPostS.f k l0 a1 = some r) :
  Calls Try.prog 29 #[.slice A0 l0.length c0, .int .i64 a1] w fun e w' => e = .returned (.int .i64 r) /\ Below w.heap.size w w' := by
 have hu75 := Try.underlying75
 have HR0 := Aside0.mk hr0
 have HC0 := Aside0.mk hc0
 clear hr0 hc0
 have HB := Aside0.mk (Below.refl w.heap.size w)
 have H : (if (wrap64 (a1 - (l0.length : Int))) < 0 then (some (-1)) else (laws_szPostS.l0 k l0 (wrap64 (a1 - (l0.length : Int))) 0)) = some r := h
 clear h
 by_cases c3 : (wrap64 (a1 - (l0.length : Int))) < 0
 ·rw [if_pos c3] at H
  have c3b0 : decide ((wrap64 (a1 - (l0.length : Int))) < 0) = true := decide_eq_true c3
  clear c3
  obtain rfl := Option.some.inj H
  go_enter Try.func29, Try.ntmps29
  go_wp2
  go_ret
  exact ⟨ew_, by repeat (first | (with_reducible first | exact HB.out | apply below_alloc | apply pw_below_drewN | apply below_drew1) | exact HB.out)⟩
 ·rw [if_neg c3] at H
  have c3b0 : decide ((wrap64 (a1 - (l0.length : Int))) < 0) = false := decide_eq_false c3
  clear c3
  have H' := Aside0.mk H
  clear H
  go_enter Try.func29, Try.ntmps29
  go_wp2
  go_loopg [1, 5] k (fun kq v1 v5 w' => ∃ (x1_1 : Int) (x5_1 : Int), v1 = .int .i64 x1_1 /\ v5 = .int .i64 x5_1 /\ Aside0 (laws_szPostS.l0 kq l0 x1_1 x5_1 = some r) /\ Aside0 (kq <= k) /\ Aside0 (Below w.heap.size w w'))
  case atStart => exact ⟨(wrap64 (a1 - (l0.length : Int))), (0), (by first | rfl | (simp; done) | (simp [*]; done)), (by first | rfl | (simp; done) | (simp [*]; done)), H', ⟨Nat.le_refl _⟩, ⟨be_ HB.out⟩⟩
  case round =>
   clear H'
   (try clear c2); (try clear p2); (try clear c3); (try clear c3b0)
   obtain ⟨x1_1, x5_1, rfl, rfl, HA, HK1, HB⟩ := hrel
   cases gk with
   | zero => exact absurd HA.out (by simp [laws_szPostS.l0])
   | succ k1 =>
    have H := HA.out
    clear HA
    simp only [laws_szPostS.l0] at H
    by_cases c4 : x5_1 < (l0.length : Int)
    ·rw [if_pos c4] at H
     have c4b0 : decide (x5_1 < (l0.length : Int)) = true := decide_eq_true c4
     clear c4
     by_cases c5 : 0 <= x5_1
     ·rw [if_pos c5] at H
      have c5b0 : decide (0 <= x5_1) = true := decide_eq_true c5
      clear c5
      replace H := Option.bind_eq_some_iff.mp H
      obtain ⟨t220, A60, H⟩ := H
      replace H : (if t220 < 0 then (some (-1)) else (laws_szPostS.l0 k1 l0 t220 (wrap64 (x5_1 + 1)))) = some r := H
      have A6 := Aside0.mk A60
      clear A60
      by_cases c7 : t220 < 0
      ·rw [if_pos c7] at H
       have c7b0 : decide (t220 < 0) = true := decide_eq_true c7
       clear c7
       obtain rfl := Option.some.inj H
       have p219 : 0 <= (x5_1 : Int) := of_decide_eq_true as_
       have q219 : x5_1 < (l0.length : Int) := of_decide_eq_true as_
       obtain ⟨ad219, A219_1, c219_1, e219, hx219_0, hx219_1, hl219_1, hi219_1⟩ := at_T75 HR0.out x5_1 p219 q219
       cases e219
       replace hx219_0 := (HB.out.cell (World.block_lt_of_cell? w _ hx219_0)).trans hx219_0
       replace hx219_1 := (HB.out.cell (World.block_lt_of_cell? w _ hx219_1)).trans hx219_1
       have HR219_1 := Aside0.mk hi219_1
       have HC219_1 := Aside0.mk hl219_1
       clear hi219_1 hl219_1
       replace p219 := eq_true p219
       replace q219 := eq_true q219
       go_wp2_with (first | ((with_reducible refine gate_callee (f := 66) rfl ?_); refine goesL_ (some 23) rfl rfl Try.func66 (by kernel_rfl) rfl #[.agg #[.int .i64 ((rd_T75 l0 x5_1).f0), .slice A219_1 ((rd_T75 l0 x5_1).f1).length c219_1], .int .i64 x1_1] rfl (ag_) ?_; (with_reducible refine (laws_szPost.calls ((rd_T75 l0 x5_1).f0) _ _ ((rd_T75 l0 x5_1).f1) x1_1 t220 _ ?side1 ?side2 A6.out).mono ?_); (case side1 => refine cd_ ?_; exact (Kd.C_below HR219_1.out HB.out)); (case side2 => exact HC219_1.out); rintro e w8 ⟨rfl, hb⟩; refine ⟨_, rfl, ?_⟩; have n0_ := Aside0.mk (bs_ HB.out hb); clear HB; have HB := n0_; clear n0_; (try clear hb); (try clear hb2); (try clear hk); (try clear hi)))
       go_ret
       exact ⟨ew_, by repeat (first | (with_reducible first | exact HB.out | apply below_alloc | apply pw_below_drewN | apply below_drew1) | exact HB.out)⟩
      ·rw [if_neg c7] at H
       have c7b0 : decide (t220 < 0) = false := decide_eq_false c7
       clear c7
       have H' := Aside0.mk H
       clear H
       have p219 : 0 <= (x5_1 : Int) := of_decide_eq_true as_
       have q219 : x5_1 < (l0.length : Int) := of_decide_eq_true as_
       obtain ⟨ad219, A219_1, c219_1, e219, hx219_0, hx219_1, hl219_1, hi219_1⟩ := at_T75 HR0.out x5_1 p219 q219
       cases e219
       replace hx219_0 := (HB.out.cell (World.block_lt_of_cell? w _ hx219_0)).trans hx219_0
       replace hx219_1 := (HB.out.cell (World.block_lt_of_cell? w _ hx219_1)).trans hx219_1
       have HR219_1 := Aside0.mk hi219_1
       have HC219_1 := Aside0.mk hl219_1
       clear hi219_1 hl219_1
       replace p219 := eq_true p219
       replace q219 := eq_true q219
       go_wp2_with (first | ((with_reducible refine gate_callee (f := 66) rfl ?_); refine goesL_ (some 23) rfl rfl Try.func66 (by kernel_rfl) rfl #[.agg #[.int .i64 ((rd_T75 l0 x5_1).f0), .slice A219_1 ((rd_T75 l0 x5_1).f1).length c219_1], .int .i64 x1_1] rfl (ag_) ?_; (with_reducible refine (laws_szPost.calls ((rd_T75 l0 x5_1).f0) _ _ ((rd_T75 l0 x5_1).f1) x1_1 t220 _ ?side1 ?side2 A6.out).mono ?_); (case side1 => refine cd_ ?_; exact (Kd.C_below HR219_1.out HB.out)); (case side2 => exact HC219_1.out); rintro e w9 ⟨rfl, hb⟩; refine ⟨_, rfl, ?_⟩; have n0_ := Aside0.mk (bs_ HB.out hb); clear HB; have HB := n0_; clear n0_; (try clear hb); (try clear hb2); (try clear hk); (try clear hi)))
       go_roundg k1
       case measure => have := HK1.out; omega
       case rel => exact ⟨(t220), (wrap64 (x5_1 + 1)), (by first | rfl | (simp; done) | (simp [*]; done)), (by first | rfl | (simp; done) | (simp [*]; done)), H', ⟨by have := HK1.out; omega⟩, ⟨be_ HB.out⟩⟩
     ·rw [if_neg c5] at H
      exact absurd H (by simp)
    ·rw [if_neg c4] at H
     have c4b0 : decide (x5_1 < (l0.length : Int)) = false := decide_eq_false c4
     clear c4
     obtain rfl := Option.some.inj H
     go_wp2
     go_ret
     exact ⟨ew_, by repeat (first | (with_reducible first | exact HB.out | apply below_alloc | apply pw_below_drewN | apply below_drew1) | exact HB.out)⟩
def laws_toPost.f (k : Nat) (a0_0 : Int) (l0_1 : List Int) : Option (Int × List Int) := (laws_toIntS.f k l0_1).bind fun t238 => (some (a0_0, t238))
theorem laws_toPost.mono : ∀ a0 a1 k, LeO (laws_toPost.f k a0 a1) (laws_toPost.f (k + 1) a0 a1) := by
 intro a0 a1 k
 unfold laws_toPost.f
 repeat' (with_reducible first | exact laws_toIntS.mono _ _ | exact LeO.refl _ | exact LeO.none _ | refine LeO.ite ?_ ?_ | refine LeO.bind ?_ (fun _ => ?_))
theorem laws_toPost.calls (k : Nat) (a0_0 : Int) (A0_1 : Option Addr) (c0_1 : Nat) (l0_1 : List Int) (r1 : Int) (r2 : List Int) (w : World) (hr0_1 : Kd.C (Kd.int .i64) w A0_1 l0_1.length l0_1) (hc0_1 : l0_1.length <= c0_1) (h : laws_toPost.f k a0_0 l0_1 = some (r1, r2)) :
  Calls Try.prog 69 #[.agg #[.int .i64 a0_0, .slice A0_1 l0_1.length c0_1]] w fun e w' => ∃ v1_ : Value, e = .returned (.agg #[.int .i64 r1, v1_]) /\ Kd.R (Kd.int .i64) 3 w' w.heap.size (fun _ => True) v1_ r2 /\ Below w.heap.size w w' := by
 have hu75 := Try.underlying75
 have hu57 := Try.underlying57
 have HR0_1 := Aside0.mk hr0_1
 have HC0_1 := Aside0.mk hc0_1
 clear hr0_1 hc0_1
 have HB := Aside0.mk (Below.refl w.heap.size w)
 have H : ((laws_toIntS.f k l0_1).bind fun t238 => (some (a0_0, t238))) = some (r1, r2) := h
 clear h
 replace H := Option.bind_eq_some_iff.mp H
 obtain ⟨t238, A20, H⟩ := H
 replace H : (some (a0_0, t238)) = some (r1, r2) := H
 have A2 := Aside0.mk A20
 clear A20
 simp only [Option.some.injEq, Prod.mk.injEq] at H
 obtain ⟨rfl, rfl⟩ := H
 go_enter Try.func69, Try.ntmps69
 go_wp2_with (first | ((with_reducible refine gate_dst (N := 1) rfl ?_); refine box_event ?hg (N := 1) ?hd (cs := #[.int .i64 a0_0, .slice A0_1 l0_1.length c0_1]) (t := 75) ?hr ?_; (case hd => rfl); (case hg => rfl); (case hr => first | (go_simp; done) | (go_simp; rfl)); intro gb235 hg w3 hbox hb; have n0_ := Aside0.mk (bs_ HB.out hb); have n1_ := Aside0.mk (hbox); have n2_ := Aside0.mk ((by rw [hg]; exact (bw_ HB.out) : w.heap.size <= gb235)); have n3_ := Aside0.mk ((by rw [hg]; exact (bw_ HB.out) : w.heap.size <= gb235)); clear HB; have HB := n0_; have BK235 := n1_; have GW235 := n2_; have GE235 := n3_; clear n0_ n1_ n2_ n3_; clear hb hbox hg) | ((with_reducible refine gate_dst (N := 2) rfl ?_); refine box_event ?hg (N := 2) ?hd (cs := #[.int .i64 0, .slice none 0 0]) (t := 57) ?hr ?_; (case hd => rfl); (case hg => rfl); (case hr => first | (go_simp; done) | (go_simp; rfl)); intro gb236 hg w4 hbox hb; have n0_ := Aside0.mk (blk_below (g := gb235) (o := .cells #[.int .i64 a0_0, .slice A0_1 l0_1.length c0_1] 75 (0, 0)) (pk_ BK235.out) hb); have n1_ := Aside0.mk (bs_ HB.out hb); have n2_ := Aside0.mk (hbox); have n3_ := Aside0.mk ((by rw [hg]; exact (bw_ HB.out) : w.heap.size <= gb236)); have n4_ := Aside0.mk ((by rw [hg]; exact (bw_ HB.out) : w.heap.size <= gb236)); have n5_ := Aside0.mk ((by rw [hg]; exact Nat.ne_of_lt (blk_lt (g := gb235) (o := .cells #[.int .i64 a0_0, .slice A0_1 l0_1.length c0_1] 75 (0, 0)) (pk_ BK235.out)) : gb235 ≠ gb236)); have n6_ := Aside0.mk ((by rw [hg]; exact Nat.ne_of_gt (blk_lt (g := gb235) (o := .cells #[.int .i64 a0_0, .slice A0_1 l0_1.length c0_1] 75 (0, 0)) (pk_ BK235.out)) : gb236 ≠ gb235)); clear BK235; clear HB; have BK235 := n0_; have HB := n1_; have BK236 := n2_; have GW236 := n3_; have GE236 := n4_; have NB235_236 := n5_; have NB236_235 := n6_; clear n0_ n1_ n2_ n3_ n4_ n5_ n6_; clear hb hbox hg) | ((with_reducible refine gate_dst (N := 3) rfl ?_); refine box_event ?hg (N := 3) ?hd (cs := #[.int .i64 0, .slice none 0 0]) (t := 57) ?hr ?_; (case hd => rfl); (case hg => rfl); (case hr => first | (go_simp; done) | (go_simp; rfl)); intro gb237 hg w5 hbox hb; have n0_ := Aside0.mk (blk_below (g := gb235) (o := .cells #[.int .i64 a0_0, .slice A0_1 l0_1.length c0_1] 75 (0, 0)) (pk_ BK235.out) hb); have n1_ := Aside0.mk (blk_below (g := gb236) (o := .cells #[.int .i64 0, .slice none 0 0] 57 (0, 0)) (pk_ BK236.out) hb); have n2_ := Aside0.mk (bs_ HB.out hb); have n3_ := Aside0.mk (hbox); have n4_ := Aside0.mk ((by rw [hg]; exact (bw_ HB.out) : w.heap.size <= gb237)); have n5_ := Aside0.mk ((by rw [hg]; exact (bw_ HB.out) : w.heap.size <= gb237)); have n6_ := Aside0.mk ((by rw [hg]; exact Nat.ne_of_lt (blk_lt (g := gb235) (o := .cells #[.int .i64 a0_0, .slice A0_1 l0_1.length c0_1] 75 (0, 0)) (pk_ BK235.out)) : gb235 ≠ gb237)); have n7_ := Aside0.mk ((by rw [hg]; exact Nat.ne_of_gt (blk_lt (g := gb235) (o := .cells #[.int .i64 a0_0, .slice A0_1 l0_1.length c0_1] 75 (0, 0)) (pk_ BK235.out)) : gb237 ≠ gb235)); have n8_ := Aside0.mk ((by rw [hg]; exact Nat.ne_of_lt (blk_lt (g := gb236) (o := .cells #[.int .i64 0, .slice none 0 0] 57 (0, 0)) (pk_ BK236.out)) : gb236 ≠ gb237)); have n9_ := Aside0.mk ((by rw [hg]; exact Nat.ne_of_gt (blk_lt (g := gb236) (o := .cells #[.int .i64 0, .slice none 0 0] 57 (0, 0)) (pk_ BK236.out)) : gb237 ≠ gb236)); clear BK235; clear BK236; clear HB; have BK235 := n0_; have BK236 := n1_; have HB := n2_; have BK237 := n3_; have GW237 := n4_; have GE237 := n5_; have NB235_237 := n6_; have NB237_235 := n7_; have NB236_237 := n8_; have NB237_236 := n9_; clear n0_ n1_ n2_ n3_ n4_ n5_ n6_ n7_ n8_ n9_; clear hb hbox hg; have hnb6 := NB235_236.out; have hnc6 := NB236_235.out; have hnb7 := NB235_237.out; have hnc7 := NB237_235.out; have hcz8_0 : w5.cell? ⟨gb235, 0, none⟩ = some (.int .i64 a0_0) := (blk_cell BK235.out 0).trans rfl; have hcz8_1 : w5.cell? ⟨gb235, 1, none⟩ = some (.slice A0_1 l0_1.length c0_1) := (blk_cell BK235.out 1).trans rfl; have hfz8_0 := blk_frozen BK235.out 0; have hfz8_1 := blk_frozen BK235.out 1; have hnb9 := NB237_236.out; have hnc9 := NB236_237.out; have hcz10_0 : w5.cell? ⟨gb237, 0, none⟩ = some (.int .i64 0) := (blk_cell BK237.out 0).trans rfl; have hcz10_1 : w5.cell? ⟨gb237, 1, none⟩ = some (.slice none 0 0) := (blk_cell BK237.out 1).trans rfl; have hfz10_0 := blk_frozen BK237.out 0; have hfz10_1 := blk_frozen BK237.out 1) | ((with_reducible refine gate_callee (f := 98) rfl ?_); refine goesL_ (some 9) rfl rfl Try.func98 (by kernel_rfl) rfl #[.slice A0_1 l0_1.length c0_1] rfl (ag_) ?_; (with_reducible refine (laws_toIntS.calls k _ _ l0_1 t238 _ ?side1 ?side2 A2.out).mono ?_); (case side1 => exact Kd.C_below HR0_1.out (be_ HB.out)); (case side2 => exact HC0_1.out); rintro e w11 ⟨v239, rfl, ho0, hb⟩; refine ⟨_, rfl, ?_⟩; have n0_ := Aside0.mk (Kd.R_lower ho0 (bw_ HB.out)); have n1_ := Aside0.mk (blk_below (g := gb235) (o := .cells #[.int .i64 a0_0, .slice A0_1 l0_1.length c0_1] 75 (0, 0)) (by refine pk_ ?_; refine blk_far ?_ NB235_237.out _; (with_reducible repeat (first | refine blk_drewN ?_ _ | refine blk_drew ?_ | refine blk_alloc ?_ _)); exact BK235.out) hb); have n2_ := Aside0.mk (blk_below (g := gb236) (o := .cells #[.int .i64 0, .slice none 0 0] 57 (0, 0)) (by refine pk_ ?_; refine blk_far ?_ NB236_237.out _; (with_reducible repeat (first | refine blk_drewN ?_ _ | refine blk_drew ?_ | refine blk_alloc ?_ _)); exact BK236.out) hb); have n3_ := Aside0.mk (blk_below (g := gb237) (o := .cells #[.int .i64 a0_0, .slice none 0 0] 57 (0, 0)) (by refine pk_ ?_; refine blk_put (cs := #[.int .i64 0, .slice none 0 0]) ?_ 0 _ rfl; (with_reducible repeat (first | refine blk_drewN ?_ _ | refine blk_drew ?_ | refine blk_alloc ?_ _)); exact BK237.out) hb); have n4_ := Aside0.mk (bs_ HB.out hb); clear BK235; clear BK236; clear BK237; clear HB; have HO240 := n0_; have BK235 := n1_; have BK236 := n2_; have BK237 := n3_; have HB := n4_; clear n0_ n1_ n2_ n3_ n4_; (try clear hb); (try clear hb2); (try clear hk); (try clear hi); (try clear ho0); obtain ⟨Ao12, co12, eo12⟩ := Kd.R_slice HO240.out; subst eo12; have hcz13_0 : w11.cell? ⟨gb237, 0, none⟩ = some (.int .i64 a0_0) := (blk_cell BK237.out 0).trans rfl; have hcz13_1 : w11.cell? ⟨gb237, 1, none⟩ = some (.slice none 0 0) := (blk_cell BK237.out 1).trans rfl; have hfz13_0 := blk_frozen BK237.out 0; have hfz13_1 := blk_frozen BK237.out 1; have hcz14_0 : w11.cell? ⟨gb236, 0, none⟩ = some (.int .i64 0) := (blk_cell BK236.out 0).trans rfl; have hcz14_1 : w11.cell? ⟨gb236, 1, none⟩ = some (.slice none 0 0) := (blk_cell BK236.out 1).trans rfl; have hfz14_0 := blk_frozen BK236.out 0; have hfz14_1 := blk_frozen BK236.out 1))
 refine bodyPost_ret (results_cell_row rfl _ _ gb236 57 #[.int .i64 a0_0, .slice Ao12 t238.length co12] (0, 0) _ rfl (by (with_reducible repeat (first | refine blk_drewN ?_ _ | refine blk_drew ?_ | refine blk_alloc ?_ _)); refine blk_put (cs := #[.int .i64 a0_0, .slice none 0 0]) ?_ 1 _ rfl; (with_reducible repeat (first | refine blk_drewN ?_ _ | refine blk_drew ?_ | refine blk_alloc ?_ _)); refine blk_put (cs := #[.int .i64 0, .slice none 0 0]) ?_ 0 _ rfl; (with_reducible repeat (first | refine blk_drewN ?_ _ | refine blk_drew ?_ | refine blk_alloc ?_ _)); refine blk_far ?_ NB236_237.out _; (with_reducible repeat (first | refine blk_drewN ?_ _ | refine blk_drew ?_ | refine blk_alloc ?_ _)); exact BK236.out) Try.underlying57 rfl (by kernel_rfl)) rfl ?_
 exact ⟨_, ew_, by (with_reducible repeat (first | apply Kd.R_alloc | apply Kd.R_drewN | apply Kd.R_drew)); exact Kd.R_mono (Kd.R_far (p := ⟨gb236, 1, none⟩) (Kd.R_far (p := ⟨gb236, 0, none⟩) (Kd.R_far (p := ⟨gb237, 1, none⟩) (Kd.R_types (Kd.R_types HO240.out BK237.out (by decide)) BK236.out (by decide)) (fun _ hk => hk.1.2) (.slice Ao12 t238.length co12)) (fun _ hk => hk.2) (.int .i64 a0_0)) (fun _ hk => hk.2) (.slice Ao12 t238.length co12)) (fun _ hk => trivial), by repeat (first | (with_reducible first | exact HB.out | apply below_alloc | apply pw_below_drewN | apply below_drew1 | refine below_set ?_ GE235.out | refine below_set ?_ GE236.out | refine below_set ?_ GE237.out) | exact HB.out)⟩
def laws_toPostS.l0 : Nat -> List (S75) -> List (S57) -> Int -> Option ((List (S57)))
 | 0, _, _, _ => none
 | k + 1, x0, x3, x4 => if x4 < (x0.length : Int) then (if 0 <= x4 then ((laws_toPost.f k ((rd_T75 x0 x4).f0) ((rd_T75 x0 x4).f1)).bind fun bt245 => (if x4 < (x3.length : Int) then (laws_toPostS.l0 k x0 (x3.set (x4 : Int).toNat (⟨bt245.1, bt245.2⟩ : S57)) (wrap64 (x4 + 1))) else (none))) else (none)) else (some x3)
def laws_toPostS.f (k : Nat) (l0 : List (S75)) : Option ((List (S57))) := if 0 <= (l0.length : Int) then (if ((l0.length : Int) : Int).toNat <= 8796093022208 then (laws_toPostS.l0 k l0 (List.replicate ((l0.length : Int) : Int).toNat z57) 0) else (none)) else (none)
theorem laws_toPostS.mono_l : ∀ k, (∀ y0 y1 y2, LeO (laws_toPostS.l0 k y0 y1 y2) (laws_toPostS.l0 (k + 1) y0 y1 y2))
 | 0 => fun _ _ _ r h => by simp [laws_toPostS.l0] at h
 | k + 1 => by
  have ih0 := laws_toPostS.mono_l k
  ·intro y0 y1 y2
   unfold laws_toPostS.l0
   repeat' (with_reducible first | exact ih0 _ _ _ | exact laws_toPost.mono _ _ _ | exact LeO.refl _ | exact LeO.none _ | refine LeO.ite ?_ ?_ | refine LeO.bind ?_ (fun _ => ?_))
theorem laws_toPostS.mono : ∀ a0 k, LeO (laws_toPostS.f k a0) (laws_toPostS.f (k + 1) a0) := by
 intro a0 k
 have ih0 := laws_toPostS.mono_l k
 unfold laws_toPostS.f
 repeat' (with_reducible first | exact ih0 _ _ _ | exact laws_toPost.mono _ _ _ | exact LeO.refl _ | exact LeO.none _ | refine LeO.ite ?_ ?_ | refine LeO.bind ?_ (fun _ => ?_))
theorem laws_toPostS.calls (k : Nat) (A0 : Option Addr) (c0 : Nat) (l0 : List (S75)) (r : List (S57)) (w : World) (hr0 : Kd.C k75 w A0 l0.length l0) (hc0 : l0.length <= c0) (h : laws_toPostS.f k l0 = some r) :
  Calls Try.prog 31 #[.slice A0 l0.length c0] w fun e w' => ∃ v0_ : Value, e = .returned (v0_) /\ Kd.S k57 57 w' w.heap.size (fun _ => True) v0_ r /\ Below w.heap.size w w' := by
 have hu75 := Try.underlying75
 have hu57 := Try.underlying57
 have HR0 := Aside0.mk hr0
 have HC0 := Aside0.mk hc0
 clear hr0 hc0
 have HB := Aside0.mk (Below.refl w.heap.size w)
 have H : (if 0 <= (l0.length : Int) then (if ((l0.length : Int) : Int).toNat <= 8796093022208 then (laws_toPostS.l0 k l0 (List.replicate ((l0.length : Int) : Int).toNat z57) 0) else (none)) else (none)) = some r := h
 clear h
 by_cases c2 : 0 <= (l0.length : Int)
 ·rw [if_pos c2] at H
  have c2b0 := eq_true c2
  have c2b1 : decide (0 <= (l0.length : Int)) = true := decide_eq_true c2
  clear c2
  by_cases c3 : ((l0.length : Int) : Int).toNat <= 8796093022208
  ·rw [if_pos c3] at H
   have c3b0 := eq_true c3
   have c3b1 : decide (((l0.length : Int) : Int).toNat <= 8796093022208) = true := decide_eq_true c3
   clear c3
   obtain ⟨y241, hy241⟩ : ∃ y_ : List (S57), y_ = (List.replicate ((l0.length : Int) : Int).toNat z57) := ⟨_, rfl⟩
   replace H : (laws_toPostS.l0 k l0 y241 0) = some r := by first | (rw [hy241]; with_reducible exact H) | (have H2_ := (Option.bind_some _ _).symm.trans H; rw [hy241]; with_reducible exact H2_) | (have H2_ := (Option.bind_some _ _).symm.trans H; with_reducible exact H2_) | with_reducible exact H | (rw [hy241]; exact H) | exact H
   have Ny241 := Aside0.mk hy241
   clear hy241
   have H' := Aside0.mk H
   clear H
   go_enter Try.func31, Try.ntmps31
   go_wp2_with (first | ((with_reducible refine gate_dst (N := 7) rfl ?_); refine Kd.S_make k57 _ 57 rfl (N := 7) rfl 28 _ _ rfl (l0.length : Int) rfl rfl Try.underlying28 (.agg #[(.int .i64 0), (.slice none 0 0)]) 32 info57 rfl (by decide) (by omega) z57 (ok := fun _ => True) (okp := fun _ => True) (k57_mkM _ _ _ z57 (Kd.R_nil _ _ _ _ _)) (fun _ hk => hk) trivial (of_decide_eq_true as_) (Nat.le_trans (Nat.mul_le_mul_right _ (of_decide_eq_true as_ : (l0.length : Int).toNat <= 8796093022208)) (by omega)) (Below.refl _ _) (Nat.le_refl _) ?_; intro v242 w4 ho5 hb hg_ hnew_; clear hg_ hnew_; (first | rw [<- Ny241.out] at ho5 | (simp only [Int.reduceToNat] at ho5; rw [<- Ny241.out] at ho5)); have n0_ := Aside0.mk (Kd.S_lower ho5 (bw_ HB.out)); have n1_ := Aside0.mk (bs_ HB.out hb); clear HB; have HO243 := n0_; have HB := n1_; clear n0_ n1_; clear hb ho5))
   go_loopg [4] k (fun kq v4 w' => ∃ (x3_1 : List (S57)) (x4_1 : Int), v4 = .int .i64 x4_1 /\ Aside0 (laws_toPostS.l0 kq l0 x3_1 x4_1 = some r) /\ Aside0 (kq <= k) /\ Aside0 (Kd.S k57 57 w' w.heap.size (fun _ => True) v242 x3_1) /\ Aside0 (Below w.heap.size w w'))
   case atStart => exact ⟨(y241), (0), (by first | rfl | (simp; done) | (simp [*]; done)), H', ⟨Nat.le_refl _⟩, ⟨sk_ HO243.out⟩, ⟨be_ HB.out⟩⟩
   case round =>
    clear H'
    (try clear c2); (try clear c2b0); (try clear c2b1); (try clear p2); (try clear c3); (try clear c3b0); (try clear c3b1)
    obtain ⟨x3_1, x4_1, rfl, HA, HK1, HO_3, HB⟩ := hrel
    cases gk with
    | zero => exact absurd HA.out (by simp [laws_toPostS.l0])
    | succ k1 =>
     have H := HA.out
     clear HA
     simp only [laws_toPostS.l0] at H
     by_cases c6 : x4_1 < (l0.length : Int)
     ·rw [if_pos c6] at H
      have c6b0 : decide (x4_1 < (l0.length : Int)) = true := decide_eq_true c6
      clear c6
      by_cases c7 : 0 <= x4_1
      ·rw [if_pos c7] at H
       have c7b0 : decide (0 <= x4_1) = true := decide_eq_true c7
       clear c7
       replace H := Option.bind_eq_some_iff.mp H
       obtain ⟨⟨t245, t246⟩, A80, H⟩ := H
       replace H : (if x4_1 < (x3_1.length : Int) then (laws_toPostS.l0 k1 l0 (x3_1.set (x4_1 : Int).toNat (⟨t245, t246⟩ : S57)) (wrap64 (x4_1 + 1))) else (none)) = some r := H
       have A8 := Aside0.mk A80
       clear A80
       by_cases c9 : x4_1 < (x3_1.length : Int)
       ·rw [if_pos c9] at H
        have c9b0 : decide (x4_1 < (x3_1.length : Int)) = true := decide_eq_true c9
        clear c9
        obtain ⟨y249, hy249⟩ : ∃ y_ : List (S57), y_ = (x3_1.set (x4_1 : Int).toNat (⟨t245, t246⟩ : S57)) := ⟨_, rfl⟩
        replace H : (laws_toPostS.l0 k1 l0 y249 (wrap64 (x4_1 + 1))) = some r := by first | (rw [hy249]; with_reducible exact H) | (have H2_ := (Option.bind_some _ _).symm.trans H; rw [hy249]; with_reducible exact H2_) | (have H2_ := (Option.bind_some _ _).symm.trans H; with_reducible exact H2_) | with_reducible exact H | (rw [hy249]; exact H) | exact H
        have Ny249 := Aside0.mk hy249
        clear hy249
        have H' := Aside0.mk H
        clear H
        have p244 : 0 <= (x4_1 : Int) := of_decide_eq_true as_
        have q244 : x4_1 < (l0.length : Int) := of_decide_eq_true as_
        obtain ⟨ad244, A244_1, c244_1, e244, hx244_0, hx244_1, hl244_1, hi244_1⟩ := at_T75 HR0.out x4_1 p244 q244
        cases e244
        replace hx244_0 := (HB.out.cell (World.block_lt_of_cell? w _ hx244_0)).trans hx244_0
        replace hx244_1 := (HB.out.cell (World.block_lt_of_cell? w _ hx244_1)).trans hx244_1
        have HR244_1 := Aside0.mk hi244_1
        have HC244_1 := Aside0.mk hl244_1
        clear hi244_1 hl244_1
        replace p244 := eq_true p244
        replace q244 := eq_true q244
        go_wp2_with (first | ((with_reducible refine gate_callee (f := 69) rfl ?_); refine goesL_ (some 20) rfl rfl Try.func69 (by kernel_rfl) rfl #[.agg #[.int .i64 ((rd_T75 l0 x4_1).f0), .slice A244_1 ((rd_T75 l0 x4_1).f1).length c244_1]] rfl (ag_) ?_; (with_reducible refine (laws_toPost.calls k1 ((rd_T75 l0 x4_1).f0) _ _ ((rd_T75 l0 x4_1).f1) t245 t246 _ ?side1 ?side2 A8.out).mono ?_); (case side1 => refine cd_ ?_; exact (Kd.C_below HR244_1.out HB.out)); (case side2 => exact HC244_1.out); rintro e w11 ⟨v247, rfl, ho0, hb⟩; refine ⟨_, rfl, ?_⟩; have n0_ := Aside0.mk (Kd.S_elder' (sk_ HO_3.out) (Kd.R_base ho0) hb); have n1_ := Aside0.mk (Kd.R_lower ho0 (bw_ HB.out)); have n2_ := Aside0.mk (bs_ HB.out hb); clear HO_3; clear HB; have HO_3 := n0_; have HO248 := n1_; have HB := n2_; clear n0_ n1_ n2_; (try clear hb); (try clear hb2); (try clear hk); (try clear hi); (try clear ho0); have p10 : 0 <= (x4_1 : Int) := of_decide_eq_true as_; have q10 : (x4_1 : Int) < ((x3_1.length : Int) : Int) := of_decide_eq_true as_; obtain ⟨go10, co10, eo10, gb10, gl10, cl10, HG10⟩ := Kd.S_form HO_3.out (by omega); (first | cases eo10 | (injection eo10 with ea_ en_ ec_; (first | subst ea_ | (injection ea_ with ea_; subst ea_)); subst ec_; clear en_)); have GB10 := Aside0.mk gb10; have GG10 := Aside0.mk HG10; clear gb10 gl10 HG10; obtain ⟨_, ce10, hcl10, hM10, hcc10, hfr10, _, _⟩ := Kd.S_elem HO_3.out z57 (x4_1 : Int) p10 q10; obtain ⟨ve10_1, rfl, ge10_1⟩ := k57_openM hM10; have hx10_0 : w11.cell? ⟨go10, (x4_1 : Int).toNat * 2, none⟩ = some (.int .i64 ((rd_T57 x3_1 x4_1).f0)) := hcc10 0 _ rfl; have hx10_1 : w11.cell? ⟨go10, (x4_1 : Int).toNat * 2 + 1, none⟩ = some (ve10_1) := hcc10 1 _ rfl; have hf10_0 : w11.frozen? ⟨go10, (x4_1 : Int).toNat * 2, none⟩ = false := hfr10 0; have hf10_1 : w11.frozen? ⟨go10, (x4_1 : Int).toNat * 2 + 1, none⟩ = false := hfr10 1; clear hcl10 hcc10 hfr10; (try clear hM10); replace p10 := eq_true p10; replace q10 := eq_true q10; obtain ⟨Ao14, co14, eo14⟩ := Kd.R_slice HO248.out; subst eo14; have n_ := Aside0.mk (Kd.S_mono (ok' := (fun k_ => some k_ ≠ (.slice Ao14 t246.length co14 : Value).ownBlock)) HO_3.out (fun k_ hk => hk.2)); clear HO_3; have HO_3 := n_; clear n_; have HX12 := Aside0.mk (show Kd.S k57 57 w11 w.heap.size (fun k_ => ((fun _ => True)) k_ /\ ¬ ((fun k_ => some k_ = (.slice Ao14 t246.length co14 : Value).ownBlock)) k_) (.slice (some ⟨go10, 0, none⟩) x3_1.length co10) x3_1 from (by (with_reducible repeat (first | apply Kd.S_alloc | apply Kd.S_drewN | apply Kd.S_drew)); exact Kd.S_mono HO_3.out (fun k_ hk => ⟨trivial, fun e_ => hk e_⟩))); obtain ⟨oki12, ce12, hcl12, hM12, hcc12, hfr12, hoki12, hH12⟩ := Kd.S_elem HX12.out z57 (x4_1 : Int) (of_decide_eq_true as_) (by have h_ : (x4_1 : Int) < ((x3_1.length : Int) : Int) := of_decide_eq_true as_; first | exact h_ | (have e_ := (Kd.S_reads' HO_3.out).1; omega) | simpa using h_); obtain ⟨ve12_1, rfl, ge12_1⟩ := k57_openM hM12; have HP12 := Kd.S_seg hH12 (of_decide_eq_true as_) (by have h_ : (x4_1 : Int) < ((x3_1.length : Int) : Int) := of_decide_eq_true as_; first | exact h_ | (have e_ := (Kd.S_reads' HO_3.out).1; omega) | simpa using h_) (seg := [.int .i64 t245, .slice Ao14 t246.length co14]) (j := 0) (show 2 <= 2 from by decide) (x' := (⟨t245, t246⟩ : S57)) (k57_mkM _ _ _ (⟨t245, t246⟩ : S57) (Kd.R_mono (Kd.R_tight rfl (Kd.R_mono (ok' := fun k_ => ((fun _ => True)) k_ /\ k_ ≠ go10) (Kd.R_apart' (HO248.out) (Kd.S_typed HO_3.out) (by decide)) (fun k_ hk => ⟨trivial, fun e_ => (hk.2) (by rw [e_]; rfl)⟩))) (fun _ h_ => Or.inr (h_)))) (fun _ hk => hk) (fun k_ hk_ => ((Kd.R_mono (ok' := fun k_ => ((fun _ => True)) k_ /\ k_ ≠ go10) (Kd.R_apart' (HO248.out) (Kd.S_typed HO_3.out) (by decide)) (fun k_ hk => ⟨trivial, fun e_ => (hk.2) (by rw [e_]; rfl)⟩))).1 k_ hk_.symm); have hx12_0 := hcc12 0 _ rfl; (try simp only [show (k57).sz = 2 from rfl, Nat.mul_one, Nat.add_zero] at hx12_0); have hf12_0 := hfr12 0; (try simp only [show (k57).sz = 2 from rfl, Nat.mul_one, Nat.add_zero] at hf12_0); have hx12_1 := hcc12 1 _ rfl; (try simp only [show (k57).sz = 2 from rfl, Nat.mul_one, Nat.add_zero] at hx12_1); have hf12_1 := hfr12 1; (try simp only [show (k57).sz = 2 from rfl, Nat.mul_one, Nat.add_zero] at hf12_1); clear hcl12 hcc12 hfr12 hoki12 hH12; (try clear hM12)) | ((with_reducible refine gate_store (t := 57) (p := 21) rfl ?_); refine store_event (t := 57) (p := 21) (v := ?vo_w13) (w1 := ((w11.setCell ⟨go10, (x4_1 : Int).toNat * 2, none⟩ (.int .i64 t245)).setCell ⟨go10, (x4_1 : Int).toNat * 2 + 1, none⟩ (.slice Ao14 t246.length co14))) ?hg ?ho ?hn ?hr ?_; (case ho => rfl); (case hg => rfl); (case hn => rfl); (case hr => first | (go_simp; done) | (go_simp; rfl)); intro w13 hw; have hg : w11.grownBy w13 (some go10) := (by rw [hw]; exact HP12.2); have hp_ : Kd.S k57 57 w13 w.heap.size (fun _ => True) (.slice (some ⟨go10, 0, none⟩) x3_1.length co10) y249 := (by rw [hw, Ny249.out]; exact HP12.1); clear HP12; have n0_ := Aside0.mk (hp_); have n1_ := Aside0.mk ((by rw [hw]; exact below_set (below_set (HB.out) GB10.out) GB10.out : Below w.heap.size w w13)); clear HO_3; clear HB; clear HO248; have HO_3 := n0_; have HB := n1_; clear n0_ n1_; clear hg hw hp_))
        go_roundg k1
        case measure => have := HK1.out; omega
        case rel => exact ⟨(y249), (wrap64 (x4_1 + 1)), (by first | rfl | (simp; done) | (simp [*]; done)), H', ⟨by have := HK1.out; omega⟩, ⟨sk_ HO_3.out⟩, ⟨be_ HB.out⟩⟩
       ·rw [if_neg c9] at H
        exact absurd H (by simp)
      ·rw [if_neg c7] at H
       exact absurd H (by simp)
     ·rw [if_neg c6] at H
      have c6b0 : decide (x4_1 < (l0.length : Int)) = false := decide_eq_false c6
      clear c6
      obtain rfl := Option.some.inj H
      go_wp2
      go_ret
      exact ⟨_, ew_, by (with_reducible repeat (first | apply Kd.S_alloc | apply Kd.S_drewN | apply Kd.S_drew)); exact HO_3.out, by repeat (first | (with_reducible first | exact HB.out | apply below_alloc | apply pw_below_drewN | apply below_drew1) | exact HB.out)⟩
  ·rw [if_neg c3] at H
   exact absurd H (by simp)
 ·rw [if_neg c2] at H
  exact absurd H (by simp)
end Go.Proofs.Ytcopakljdenolaa.Fn
namespace Go.Proofs.Ytcopakljdenolaa.Pure
theorem rise_ev (l : List Int) (hl : l.length <= 1048576) (t : List Int) : ∀ i, l.drop i = t -> i <= l.length -> Ev (fun k => spec_l1Rising.l0 k l 0 19 l l.length i) (rise l t i) := by
  induction t with
  | nil =>
    intro i h _
    have := drop_nil h
    (refine Ev.up ?_; simp only [spec_l1Rising.l0, decT])
    (repeat (first | with_reducible refine Ev.bindS ?_ | (with_reducible refine Ev.ifp ?_ ?_; (· exact cnd_)) | (with_reducible refine Ev.ifn ?_ ?_; (· exact cnd_))))
    exact Ev.val rfl
  | cons x t ih =>
    intro i h hi
    obtain ⟨h1, h2, h3⟩ := drop_cons h
    have ih := ih (i + 1) h3 (by omega)
    (refine Ev.up ?_; simp only [spec_l1Rising.l0, decT])
    rw [rd_at h2, wrap_succ (by omega), specIn_eq]
    simp only [rise]
    (repeat (first | with_reducible refine Ev.bindS ?_ | (with_reducible refine Ev.ifp ?_ ?_; (· exact cnd_)) | (with_reducible refine Ev.ifn ?_ ?_; (· exact cnd_))))
    by_cases hx : 0 <= x /\ x <= 19
    · simp only [decT]
      rw [decide_eq_true hx, Bool.true_and]
      (repeat (first | with_reducible refine Ev.bindS ?_ | (with_reducible refine Ev.ifp ?_ ?_; (· exact cnd_)) | (with_reducible refine Ev.ifn ?_ ?_; (· exact cnd_))))
      by_cases h0 : i = 0
      · rw [decide_eq_true h0, Bool.true_or, Bool.true_and]
        (repeat (first | with_reducible refine Ev.bindS ?_ | (with_reducible refine Ev.ifp ?_ ?_; (· exact cnd_)) | (with_reducible refine Ev.ifn ?_ ?_; (· exact cnd_))))
        exact ih
      · have e : wrap64 ((i : Int) - 1) = ((i - 1 : Nat) : Int) := by rw [wrap_ok (by omega) (by omega)]; omega
        rw [decide_eq_false h0, Bool.false_or, e]
        (repeat (first | with_reducible refine Ev.bindS ?_ | (with_reducible refine Ev.ifp ?_ ?_; (· exact cnd_)) | (with_reducible refine Ev.ifn ?_ ?_; (· exact cnd_))))
        by_cases hp : rd l ((i - 1 : Nat) : Int) ≥ x
        · (repeat (first | with_reducible refine Ev.bindS ?_ | (with_reducible refine Ev.ifp ?_ ?_; (· exact cnd_)) | (with_reducible refine Ev.ifn ?_ ?_; (· exact cnd_))))
          exact Ev.val (by simp [hp])
        · (repeat (first | with_reducible refine Ev.bindS ?_ | (with_reducible refine Ev.ifp ?_ ?_; (· exact cnd_)) | (with_reducible refine Ev.ifn ?_ ?_; (· exact cnd_))))
          simpa [hp] using ih
    · simp only [decT]
      rw [decide_eq_false hx]
      (repeat (first | with_reducible refine Ev.bindS ?_ | (with_reducible refine Ev.ifp ?_ ?_; (· exact cnd_)) | (with_reducible refine Ev.ifn ?_ ?_; (· exact cnd_))))
      exact Ev.val rfl
theorem specGood_ev (l : List S57) (hl : Fit l) : Ev (fun k => spec_GoodPosts.f k l) (postsOk l l 0 && decide ((l.length : Int) <= 12)) := by
  have hl1 := hl.1
  have key : ∀ (t : List S57) (i : Nat), l.drop i = t -> i <= l.length -> Ev (fun k => spec_GoodPosts.l0 k l l l.length i) (postsOk l t i && decide ((l.length : Int) <= 12)) := by
    intro t
    induction t with
    | nil =>
      intro i h hi
      have := drop_nil h
      (refine Ev.up ?_; simp only [spec_GoodPosts.l0, decT])
      (repeat (first | with_reducible refine Ev.bindS ?_ | (with_reducible refine Ev.ifp ?_ ?_; (· exact cnd_)) | (with_reducible refine Ev.ifn ?_ ?_; (· exact cnd_))))
      exact Ev.val (by simp [postsOk])
    | cons p t ih =>
      intro i h hi
      obtain ⟨p1, p2, p3⟩ := drop_cons h
      have ih := ih (i + 1) p3 (by omega)
      have hp := hl.2 p (List.mem_of_getElem? p2)
      have hrise := rise_ev p.f1 hp p.f1 0 rfl (by omega)
      have jt : Ev (fun k => spec_GoodPosts.j1 k l l l.length i true) false := by
        (refine Ev.up ?_; simp only [spec_GoodPosts.j1, decT])
        (repeat (first | with_reducible refine Ev.bindS ?_ | (with_reducible refine Ev.ifp ?_ ?_; (· exact cnd_)) | (with_reducible refine Ev.ifn ?_ ?_; (· exact cnd_))))
        exact Ev.val rfl
      have jf : Ev (fun k => spec_GoodPosts.j1 k l l l.length i false) (postsOk l t (i + 1) && decide ((l.length : Int) <= 12)) := by
        (refine Ev.up ?_; simp only [spec_GoodPosts.j1, decT])
        rw [wrap_succ (by omega)]
        (repeat (first | with_reducible refine Ev.bindS ?_ | (with_reducible refine Ev.ifp ?_ ?_; (· exact cnd_)) | (with_reducible refine Ev.ifn ?_ ?_; (· exact cnd_))))
        exact ih
      (refine Ev.up ?_; simp only [spec_GoodPosts.l0, decT])
      rw [rd57_at p2, specIn_eq]
      simp only [postsOk]
      -- the tail: some places, rising
      have tail : ∀ (hpre : True), Ev (fun k => if (p.f1.length : Int) = 0 then spec_GoodPosts.j1 k l l l.length i true else (spec_l1Rising.f k p.f1 0 19).bind fun t229 => spec_GoodPosts.j1 k l l l.length i (!t229))
          (((decide (1 <= p.f1.length) && rise p.f1 p.f1 0) && postsOk l t (i + 1)) && decide ((l.length : Int) <= 12)) := by
        intro _
        by_cases h0 : p.f1.length = 0
        · rw [decide_eq_false (p := 1 <= p.f1.length) (by omega)]
          (repeat (first | with_reducible refine Ev.bindS ?_ | (with_reducible refine Ev.ifp ?_ ?_; (· exact cnd_)) | (with_reducible refine Ev.ifn ?_ ?_; (· exact cnd_))))
          simpa using jt
        · rw [decide_eq_true (p := 1 <= p.f1.length) (by omega), Bool.true_and]
          (repeat (first | with_reducible refine Ev.bindS ?_ | (with_reducible refine Ev.ifp ?_ ?_; (· exact cnd_)) | (with_reducible refine Ev.ifn ?_ ?_; (· exact cnd_))))
          refine Ev.bind (g := fun k => spec_l1Rising.f k p.f1 0 19) hrise ?_
          cases rise p.f1 p.f1 0 with
          | true => rw [Bool.true_and]; exact jf
          | false => simpa using jt
      (repeat (first | with_reducible refine Ev.bindS ?_ | (with_reducible refine Ev.ifp ?_ ?_; (· exact cnd_)) | (with_reducible refine Ev.ifn ?_ ?_; (· exact cnd_))))
      by_cases hx : 0 <= p.f0 /\ p.f0 <= 11
      · simp only [decT]
        rw [decide_eq_true hx, Bool.true_and]
        (repeat (first | with_reducible refine Ev.bindS ?_ | (with_reducible refine Ev.ifp ?_ ?_; (· exact cnd_)) | (with_reducible refine Ev.ifn ?_ ?_; (· exact cnd_))))
        by_cases h0 : i = 0
        · rw [decide_eq_true h0, Bool.true_or, Bool.true_and]
          refine Ev.ifn (by omega) ?_
          exact tail trivial
        · have e : wrap64 ((i : Int) - 1) = ((i - 1 : Nat) : Int) := by rw [wrap_ok (by omega) (by omega)]; omega
          rw [decide_eq_false h0, Bool.false_or, e]
          refine Ev.ifp (by omega) (Ev.ifp (by omega) (Ev.ifp (by omega) ?_))
          by_cases hq : (rd_T57 l ((i - 1 : Nat) : Int)).f0 ≥ p.f0
          · refine Ev.ifp hq ?_
            simpa [hq] using jt
          · refine Ev.ifn hq ?_
            rw [decide_eq_false hq, Bool.not_false, Bool.true_and]
            exact tail trivial
      · simp only [decT]
        rw [decide_eq_false hx]
        (repeat (first | with_reducible refine Ev.bindS ?_ | (with_reducible refine Ev.ifp ?_ ?_; (· exact cnd_)) | (with_reducible refine Ev.ifn ?_ ?_; (· exact cnd_))))
        simpa using jt
  exact key l 0 rfl (by omega)
def cv (x : S75) : S57 := ⟨x.f0, x.f1⟩
def Evt (P : Nat -> Prop) : Prop := ∃ K, ∀ k, K <= k -> P k
theorem Evt.and {P Q : Nat -> Prop} (h : Evt P) (k : Evt Q) : Evt (fun n => P n /\ Q n) := by
  obtain ⟨K, h⟩ := h
  obtain ⟨K', k⟩ := k
  exact ⟨max K K', fun n hn => ⟨h n (by omega), k n (by omega)⟩⟩
theorem Evt.ex {α : Type} {P : Nat -> α -> Prop} (x : α) (h : Evt (fun n => P n x)) : Evt (fun n => ∃ x, P n x) := by
  obtain ⟨K, h⟩ := h
  exact ⟨K, fun n hn => ⟨x, h n hn⟩⟩
theorem Evt.inl {P Q : Nat -> Prop} (h : Evt P) : Evt (fun n => P n ∨ Q n) := by
  obtain ⟨K, h⟩ := h
  exact ⟨K, fun n hn => .inl (h n hn)⟩
theorem Evt.inr {P Q : Nat -> Prop} (h : Evt Q) : Evt (fun n => P n ∨ Q n) := by
  obtain ⟨K, h⟩ := h
  exact ⟨K, fun n hn => .inr (h n hn)⟩
end Go.Proofs.Ytcopakljdenolaa.Pure
namespace Go.Proofs.Ytcopakljdenolaa.Fn
def cvPost (p : S75) : S57 := ⟨p.f0, p.f1⟩
def laws_markPostS.l0 : Nat -> List (S57) -> Int -> Int -> Option (Int × List (S57))
  | 0, _, _, _ => none
  | k + 1, x0, x1, x5 => if x5 < (x0.length : Int) then (if 0 <= x5 then ((laws_markIntS.f k (rd_T57 x0 x5).f1 (wrap64 (x1 + 1))).bind fun b => laws_markPostS.l0 k (x0.set (x5 : Int).toNat ⟨x1, b.2⟩) b.1 (wrap64 (x5 + 1))) else (none)) else (some (x1, x0))
def laws_markPostS.f (k : Nat) (l0 : List (S57)) (a1 : Int) : Option (Int × List (S57)) := laws_markPostS.l0 k l0 a1 0
theorem laws_markPostS.mono_l : ∀ k, (∀ y0 y1 y2, LeO (laws_markPostS.l0 k y0 y1 y2) (laws_markPostS.l0 (k + 1) y0 y1 y2))
  | 0 => fun _ _ _ r h => by simp [laws_markPostS.l0] at h
  | k + 1 => by
    have ih0 := laws_markPostS.mono_l k
    · intro y0 y1 y2
      unfold laws_markPostS.l0
      repeat' first
      | (with_reducible exact ih0 _ _ _)
      | (with_reducible exact laws_markIntS.mono _ _ _)
      | (with_reducible exact LeO.refl _)
      | (with_reducible exact LeO.none _)
      | (with_reducible refine LeO.ite ?_ ?_)
      | (with_reducible refine LeO.bind ?_ (fun _ => ?_))
theorem laws_markPostS.mono : ∀ a0 a1 k, LeO (laws_markPostS.f k a0 a1) (laws_markPostS.f (k + 1) a0 a1) := fun a0 a1 k => laws_markPostS.mono_l k a0 a1 0
theorem laws_markPostS.calls (k : Nat) (ok : Nat -> Prop) (v : Value) (l0 : List (S57)) (a1 : Int) (r1 : Int) (r2 : List (S57)) (w0 w : World) (hB : Below w0.heap.size w0 w) (ho : Kd.S k57 57 w w0.heap.size ok v l0) (h : laws_markPostS.f k l0 a1 = some (r1, r2)) :
    Calls Try.prog 23 #[v, .int .i64 a1] w fun e w' => e = .returned (.int .i64 r1) /\ Kd.S k57 57 w' w0.heap.size ok v r2 /\ Below w0.heap.size w0 w' /\ Kept w w' ok := by
  have hu57 := Try.underlying57
  have HO := Aside0.mk ho
  have HK := Aside0.mk (Kept.refl w ok)
  have HB := Aside0.mk hB
  have H' := Aside0.mk (show laws_markPostS.l0 k l0 a1 0 = some (r1, r2) from h)
  clear hB ho h
  go_enter Try.func23, Try.ntmps23
  go_wp2
  go_loopg [1, 5] k (fun kq v1 v5 w' => ∃ (x0 : List (S57)) (x1 : Int) (x5 : Int), v1 = .int .i64 x1 /\ v5 = .int .i64 x5 /\ Aside0 (laws_markPostS.l0 kq x0 x1 x5 = some (r1, r2)) /\ Aside0 (kq <= k) /\ Aside0 (Kd.S k57 57 w' w0.heap.size ok v x0) /\ Aside0 (Kept w w' ok) /\ Aside0 (Below w0.heap.size w0 w'))
  case atStart => exact ⟨l0, a1, 0, by first | rfl | (simp; done), by first | rfl | (simp; done), H', ⟨Nat.le_refl _⟩, HO, HK, HB⟩
  case round =>
    clear H' HO HK HB
    obtain ⟨x0, x1, x5, rfl, rfl, HA, HK1, HO, HK, HB⟩ := hrel
    cases gk with
    | zero => exact absurd HA.out (by simp [laws_markPostS.l0])
    | succ k1 =>
      have H := HA.out
      clear HA
      simp only [laws_markPostS.l0] at H
      by_cases c3 : x5 < (x0.length : Int)
      · rw [if_pos c3] at H
        have c3b : decide (x5 < (x0.length : Int)) = true := decide_eq_true c3
        by_cases c4 : 0 <= x5
        · rw [if_pos c4] at H
          have c4b : decide (0 <= x5) = true := decide_eq_true c4
          obtain ⟨b, hb, H⟩ := Option.bind_eq_some_iff.mp H
          have HM := Aside0.mk hb
          have H' := Aside0.mk H
          clear hb H
          obtain ⟨go5, co5, eo5, gb5, gl5, cl5, HG5⟩ := Kd.R_form (Kd.S_R HO.out) (by omega)
          subst eo5
          have GB5 := Aside0.mk gb5
          clear gb5 gl5 HG5
          obtain ⟨oki, c, hcl, hM, hcc, hfr, hoki, hH⟩ := Kd.S_elem HO.out ⟨0, []⟩ x5 c4 c3
          have erd : x0.getD x5.toNat ⟨0, []⟩ = rd_T57 x0 x5 := rfl
          rw [erd] at hM
          generalize rd_T57 x0 x5 = p at hM HM
          obtain ⟨v1, rfl, hR⟩ := k57_openM hM
          have z0 := hcc 0 _ rfl
          have z1 := hcc 1 _ rfl
          have f0 := hfr 0
          rw [show k57.sz = 2 from rfl] at z0 z1 f0
          rw [Nat.add_zero] at z0 f0
          obtain ⟨hH1, hg1⟩ := Kd.H_seg (seg := [.int .i64 x1]) (j := 0) hH c4 c3 (by show 0 + 1 <= 2; decide) (by intro q hq; rw [List.mem_singleton.1 hq]; rfl)
          have ew : wr.setCells go5 (x5.toNat * k57.sz + 0) [.int .i64 x1] = wr.setCell ⟨go5, x5.toNat * 2, none⟩ (.int .i64 x1) := rfl
          rw [ew] at hH1 hg1
          have hR1 := Kd.R_grown hR hg1 (fun k_ hk_ e_ => (hoki k_ hk_).2 (by injection e_))
          have z1' : (wr.setCell ⟨go5, x5.toNat * 2, none⟩ (.int .i64 x1)).cell? ⟨go5, x5.toNat * 2 + 1, none⟩ = some v1 := (World.cell?_setCell_other _ _ _ _ (by intro e_; injection e_ with _ e_ _; omega)).trans z1
          have HB1 := Aside0.mk (HB.out.setCell (p := ⟨go5, x5.toNat * 2, none⟩) GB5.out (.int .i64 x1))
          have HK1' := Aside0.mk (Kept.of_grown hg1 HK.out (fun k_ e_ => .inl (by injection e_ with e_; subst e_; exact (Kd.S_R HO.out).1 _ rfl)))
          have HH := Aside0.mk hH1
          have HR := Aside0.mk hR1
          have HT := Aside0.mk (fun k_ (e_ : v1.ownBlock = some k_) => hR1.1 k_ e_)
          have HI := Aside0.mk hoki
          clear ew hH1 hg1 hR1 hR hM hH hcc hcl hfr hoki z1 erd HO HB HK
          go_wp2_with (go_at_call 40; (with_reducible refine (laws_markIntS.calls k1 oki v1 p.f1 (wrap64 (x1 + 1)) b.1 b.2 w0 _ ?side1 ?side2 HM.out).mono ?_); (case side1 => exact HB1.out); (case side2 => exact HR.out); rintro e w2 ⟨rfl, hr2, hb2, hk2⟩; have HH2 := Aside0.mk (Kd.H_kept HH.out hk2 (fun _ _ h1_ h2_ => h1_ h2_)); have HR2 := Aside0.mk (Kd.R_mono (Kd.R_tight rfl hr2) (fun k_ hk_ => HT.out k_ hk_.symm)); have HB2 := Aside0.mk hb2; have HK2 := Aside0.mk (HK1'.out.then_ hk2 (fun k_ h_ => .inl (HI.out k_ h_).1)); clear hr2 hb2 hk2)
          go_roundg k1
          case measure => have := HK1.out; omega
          case rel => exact ⟨x0.set x5.toNat ⟨x1, b.2⟩, b.1, wrap64 (x5 + 1), by first | rfl | (simp; done), by first | rfl | (simp; done), H', ⟨by have := HK1.out; omega⟩, ⟨Kd.H_back HH2.out (k57_mkM w2 _ oki ⟨x1, b.2⟩ HR2.out) (fun _ h_ => h_)⟩, HK2, HB2⟩
        · rw [if_neg c4] at H
          exact absurd H (by simp)
      · rw [if_neg c3] at H
        have c3b : decide (x5 < (x0.length : Int)) = false := decide_eq_false c3
        clear c3
        simp only [Option.some.injEq, Prod.mk.injEq] at H
        obtain ⟨rfl, rfl⟩ := H
        obtain ⟨Ao, co, eo⟩ := Kd.S_slice HO.out
        subst eo
        go_wp2
        go_ret
        exact ⟨by first | rfl | (simp; done), HO.out, HB.out, HK.out⟩
end Go.Proofs.Ytcopakljdenolaa.Fn
namespace Go.Proofs.Ytcopakljdenolaa.Pure
def marked (l : List Int) (c : Int) : List Int := l.mapIdx fun i _ => c + (i : Int)
def endP : List S57 -> Int -> Int
  | [], c => c
  | p :: t, c => endP t (c + 1 + p.f1.length)
def markP : List S57 -> Int -> List S57
  | [], _ => []
  | p :: t, c => ⟨c, marked p.f1 (c + 1)⟩ :: markP t (c + 1 + p.f1.length)
theorem places_len (w s : ByteArray) (hs : s.size <= 1048575) : (places w s).length <= 1048576 := by
  have h1 := placesFrom_len w (wordsOf s) 0 []
  have h2 := words_len (nm s) eS []
  have h3 := nm_length s
  simp only [List.length_nil] at *
  show (placesFrom w (wordsOf s) 0 []).length <= _
  have : (wordsOf s).length = (wordsFrom (nm s) eS []).length := rfl
  omega
theorem postsFrom_fit (w : ByteArray) (t : List ByteArray) (ht : ∀ s ∈ t, s.size <= 1048575) : ∀ (i : Nat) (acc : List S57), (∀ p ∈ acc, p.f1.length <= 1048576) -> ∀ p ∈ postsFrom w t i acc, p.f1.length <= 1048576 := by
  induction t with
  | nil => intro i acc h p hp; exact h p hp
  | cons s t ih =>
    intro i acc h p hp
    simp only [postsFrom] at hp
    split at hp
    · refine ih (fun s' h' => ht s' (List.mem_cons_of_mem _ h')) (i + 1) _ (fun q hq => ?_) p hp
      rcases List.mem_append.1 hq with hq | hq
      · exact h q hq
      · rw [List.mem_singleton.1 hq]
        exact places_len w s (ht s List.mem_cons_self)
    · exact ih (fun s' h' => ht s' (List.mem_cons_of_mem _ h')) (i + 1) acc h p hp
theorem docsOk_small {l : List ByteArray} (h : docsOk l = true) : ∀ s ∈ l, s.size <= 120 := by
  intro s hs
  rw [docsOk, Bool.and_eq_true, List.all_eq_true] at h
  have h2 := h.2 s hs
  rcases doc_cases s with ⟨_, h3⟩ | ⟨_, _, h3⟩ | ⟨h1, _, _⟩
  · rw [h3] at h2; cases h2
  · rw [h3] at h2; cases h2
  · omega
theorem postsRes_fit (l : List ByteArray) (w : ByteArray) (hl : Small l) : Fit (postsRes l w).1 := by
  refine ⟨postsRes_len l w hl, ?_⟩
  unfold postsRes
  split
  · rename_i h
    exact postsFrom_fit w l (fun s hs => by have := docsOk_small h.1 s hs; omega) 0 [] (fun p hp => by cases hp)
  · intro p hp; cases hp
theorem containsInt_ev (ys : List Int) (n : Int) (hl : ys.length <= 9223372036854775806) : Ev (fun k => slices_Contains_int_int.f k ys n) (decide (n ∈ ys)) := by
  have key : ∀ (t : List Int) (i : Nat), ys.drop i = t -> i <= ys.length -> ∃ r : Int, Ev (fun k => slices_Index_int_int.l0 k ys n ys.length i) r /\ decide (r ≥ 0) = decide (n ∈ t) := by
    intro t
    induction t with
    | nil =>
      intro i h hi
      have := drop_nil h
      refine ⟨-1, ?_, by simp⟩
      (refine Ev.up ?_; simp only [slices_Index_int_int.l0, decT])
      (repeat (first | with_reducible refine Ev.bindS ?_ | (with_reducible refine Ev.ifp ?_ ?_; (· exact cnd_)) | (with_reducible refine Ev.ifn ?_ ?_; (· exact cnd_))))
      exact Ev.val rfl
    | cons x t ih =>
      intro i h hi
      obtain ⟨p1, p2, p3⟩ := drop_cons h
      by_cases hx : n = x
      · refine ⟨i, ?_, by rw [hx]; simp⟩
        (refine Ev.up ?_; simp only [slices_Index_int_int.l0, decT])
        rw [rd_at p2]
        (repeat (first | with_reducible refine Ev.bindS ?_ | (with_reducible refine Ev.ifp ?_ ?_; (· exact cnd_)) | (with_reducible refine Ev.ifn ?_ ?_; (· exact cnd_))))
        exact Ev.val rfl
      · obtain ⟨r, h1, h2⟩ := ih (i + 1) p3 (by omega)
        refine ⟨r, ?_, by rw [h2, decide_eq_decide]; simp [hx]⟩
        (refine Ev.up ?_; simp only [slices_Index_int_int.l0, decT])
        rw [rd_at p2, wrap_succ (by omega)]
        (repeat (first | with_reducible refine Ev.bindS ?_ | (with_reducible refine Ev.ifp ?_ ?_; (· exact cnd_)) | (with_reducible refine Ev.ifn ?_ ?_; (· exact cnd_))))
        exact h1
  obtain ⟨r, h1, h2⟩ := key ys 0 rfl (by omega)
  simp only [slices_Contains_int_int.f]
  refine Ev.bind (g := fun k => slices_Index_int_int.f k ys n) h1 ?_
  exact Ev.val h2
theorem specHas_ev (ys : List Int) (n : Int) (hl : ys.length <= 9223372036854775806) : Ev (fun k => spec_l1Has.f k ys n) (decide (n ∈ ys)) := by
  have key : ∀ (t : List Int) (i : Nat), ys.drop i = t -> i <= ys.length -> Ev (fun k => spec_l1Has.l0 k n ys ys.length i) (decide (n ∈ t)) := by
    intro t
    induction t with
    | nil =>
      intro i h hi
      have := drop_nil h
      (refine Ev.up ?_; simp only [spec_l1Has.l0, decT])
      (repeat (first | with_reducible refine Ev.bindS ?_ | (with_reducible refine Ev.ifp ?_ ?_; (· exact cnd_)) | (with_reducible refine Ev.ifn ?_ ?_; (· exact cnd_))))
      exact Ev.val (by simp)
    | cons x t ih =>
      intro i h hi
      obtain ⟨p1, p2, p3⟩ := drop_cons h
      have ih := ih (i + 1) p3 (by omega)
      (refine Ev.up ?_; simp only [spec_l1Has.l0, decT])
      rw [rd_at p2, wrap_succ (by omega)]
      by_cases hx : x = n
      · (repeat (first | with_reducible refine Ev.bindS ?_ | (with_reducible refine Ev.ifp ?_ ?_; (· exact cnd_)) | (with_reducible refine Ev.ifn ?_ ?_; (· exact cnd_))))
        exact Ev.val (by rw [hx]; simp)
      · (repeat (first | with_reducible refine Ev.bindS ?_ | (with_reducible refine Ev.ifp ?_ ?_; (· exact cnd_)) | (with_reducible refine Ev.ifn ?_ ?_; (· exact cnd_))))
        have e : decide (n ∈ x :: t) = decide (n ∈ t) := by rw [decide_eq_decide]; simp [Ne.symm hx]
        rw [e]
        exact ih
  exact key ys 0 rfl (by omega)
def keepBy (n : Int) (ys xs : List Int) : List Int := xs.filter fun x => decide (wrap64 (x + n) ∈ ys)
def other (d : Int) : List S57 -> Option S57
  | [] => none
  | q :: t => if q.f0 = d then some q else other d t
def meetOne (n : Int) (b : List S57) (p : S57) : List S57 :=
  match other p.f0 b with
  | none => []
  | some q => if (keepBy n q.f1 p.f1).length = 0 then [] else [⟨p.f0, keepBy n q.f1 p.f1⟩]
def meetAll (n : Int) (b : List S57) (a : List S57) : List S57 := a.flatMap (meetOne n b)
theorem keepBy_len (n : Int) (ys xs : List Int) : (keepBy n ys xs).length <= xs.length := List.length_filter_le _ _
theorem meetOne_len (n : Int) (b : List S57) (p : S57) : (meetOne n b p).length <= 1 := by
  unfold meetOne
  split
  · simp
  · split <;> simp
theorem meetAll_len (n : Int) (b a : List S57) : (meetAll n b a).length <= a.length := by
  induction a with
  | nil => simp [meetAll]
  | cons p t ih =>
    have h1 := meetOne_len n b p
    simp only [meetAll, List.flatMap_cons, List.length_append, List.length_cons] at *
    omega
theorem meetAll_fit (n : Int) (b a : List S57) (ha : Fit a) : Fit (meetAll n b a) := by
  refine ⟨Nat.le_trans (meetAll_len n b a) ha.1, fun p hp => ?_⟩
  obtain ⟨q, hq, hp⟩ := List.mem_flatMap.1 hp
  have h1 := ha.2 q hq
  unfold meetOne at hp
  split at hp
  · cases hp
  · split at hp
    · cases hp
    · rw [List.mem_singleton.1 hp]
      exact Nat.le_trans (keepBy_len _ _ _) h1
theorem idx_other (d : Int) (b : List S57) : ∀ (t : List S57) (i : Nat), b.drop i = t -> i <= b.length -> (other d t = none /\ idxDoc d t i = -1) ∨ ∃ (j : Nat) (q : S57), other d t = some q /\ idxDoc d t i = (j : Int) /\ b[j]? = some q := by
  intro t
  induction t with
  | nil => intro i h hi; exact .inl ⟨rfl, rfl⟩
  | cons x t ih =>
    intro i h hi
    obtain ⟨p1, p2, p3⟩ := drop_cons h
    by_cases hx : x.f0 = d
    · exact .inr ⟨i, x, by rw [other, if_pos hx], by rw [idxDoc, if_pos hx], p2⟩
    · rw [other, if_neg hx, idxDoc, if_neg hx]
      exact ih (i + 1) p3 (by omega)
theorem implMeet_inner (n : Int) (b out : List S57) (at_ : Nat) (q : S57) (hq : b[at_]? = some q) (a : List S57) (i : Nat) (p : S57) (hb : Fit b) (hp : p.f1.length <= 1048576) (ho : out.length < 4398046511104) (hi : i <= 9223372036854775806) (r : List S57)
    (hr : Ev (fun k => impl_meet.l0 k b n (if (keepBy n q.f1 p.f1).length = 0 then out else out ++ [⟨p.f0, keepBy n q.f1 p.f1⟩]) a a.length ((i + 1 : Nat) : Int)) r) :
    ∀ (t : List Int) (j : Nat) (acc : List Int), p.f1.drop j = t -> j <= p.f1.length -> acc.length <= j -> acc ++ keepBy n q.f1 t = keepBy n q.f1 p.f1 ->
      Ev (fun k => impl_meet.l1 k b n out at_ acc a a.length i p.f1 p.f1.length j p.f0 p.f1) r := by
  have hqb := hb.2 q (List.mem_of_getElem? hq)
  have hlt : at_ < b.length := (List.getElem?_eq_some_iff.1 hq).1
  intro t
  induction t with
  | nil =>
    intro j acc h hj ha e
    have := drop_nil h
    have e : acc = keepBy n q.f1 p.f1 := by rw [<- e]; simp [keepBy]
    rw [<- e] at hr
    (refine Ev.up ?_; simp only [impl_meet.l1, decT])
    rw [wrap_succ (i := i) hi]
    by_cases h0 : acc.length = 0
    · rw [if_pos h0] at hr
      (repeat (first | with_reducible refine Ev.bindS ?_ | (with_reducible refine Ev.ifp ?_ ?_; (· exact cnd_)) | (with_reducible refine Ev.ifn ?_ ?_; (· exact cnd_))))
      exact hr
    · rw [if_neg h0] at hr
      (repeat (first | with_reducible refine Ev.bindS ?_ | (with_reducible refine Ev.ifp ?_ ?_; (· exact cnd_)) | (with_reducible refine Ev.ifn ?_ ?_; (· exact cnd_))))
      exact hr
  | cons x t ih =>
    intro j acc h hj ha e
    obtain ⟨p1, p2, p3⟩ := drop_cons h
    (refine Ev.up ?_; simp only [impl_meet.l1, decT])
    rw [rd_at p2, rd57_at hq, wrap_succ (i := j) (by omega)]
    (repeat (first | with_reducible refine Ev.bindS ?_ | (with_reducible refine Ev.ifp ?_ ?_; (· exact cnd_)) | (with_reducible refine Ev.ifn ?_ ?_; (· exact cnd_))))
    refine Ev.bind (containsInt_ev q.f1 (wrap64 (x + n)) (by omega)) ?_
    by_cases hx : wrap64 (x + n) ∈ q.f1
    · rw [decide_eq_true hx]
      (repeat (first | with_reducible refine Ev.bindS ?_ | (with_reducible refine Ev.ifp ?_ ?_; (· exact cnd_)) | (with_reducible refine Ev.ifn ?_ ?_; (· exact cnd_))))
      refine ih (j + 1) (acc ++ [x]) p3 (by omega) (by simp; omega) ?_
      rw [<- e, List.append_assoc]
      simp [keepBy, hx]
    · rw [decide_eq_false hx]
      (repeat (first | with_reducible refine Ev.bindS ?_ | (with_reducible refine Ev.ifp ?_ ?_; (· exact cnd_)) | (with_reducible refine Ev.ifn ?_ ?_; (· exact cnd_))))
      refine ih (j + 1) acc p3 (by omega) (by omega) ?_
      rw [<- e]
      simp [keepBy, hx]
theorem implMeet_ev (n : Int) (a b : List S57) (ha : Fit a) (hb : Fit b) : Ev (fun k => impl_meet.f k a b n) (meetAll n b a) := by
  have ha1 := ha.1
  have hb1 := hb.1
  have key : ∀ (t : List S57) (i : Nat) (out : List S57), a.drop i = t -> i <= a.length -> out.length <= i -> Ev (fun k => impl_meet.l0 k b n out a a.length i) (out ++ meetAll n b t) := by
    intro t
    induction t with
    | nil =>
      intro i out h hi ho
      have := drop_nil h
      (refine Ev.up ?_; simp only [impl_meet.l0, decT])
      (repeat (first | with_reducible refine Ev.bindS ?_ | (with_reducible refine Ev.ifp ?_ ?_; (· exact cnd_)) | (with_reducible refine Ev.ifn ?_ ?_; (· exact cnd_))))
      exact Ev.val (by simp [meetAll])
    | cons p t ih =>
      intro i out h hi ho
      obtain ⟨p1, p2, p3⟩ := drop_cons h
      have hp := ha.2 p (List.mem_of_getElem? p2)
      have e0 : meetAll n b (p :: t) = meetOne n b p ++ meetAll n b t := by simp [meetAll]
      rw [e0]
      (refine Ev.up ?_; simp only [impl_meet.l0, decT])
      rw [rd57_at p2, wrap_succ (i := i) (by omega)]
      (repeat (first | with_reducible refine Ev.bindS ?_ | (with_reducible refine Ev.ifp ?_ ?_; (· exact cnd_)) | (with_reducible refine Ev.ifn ?_ ?_; (· exact cnd_))))
      simp only [meet_idx.f]
      (repeat (first | with_reducible refine Ev.bindS ?_ | (with_reducible refine Ev.ifp ?_ ?_; (· exact cnd_)) | (with_reducible refine Ev.ifn ?_ ?_; (· exact cnd_))))
      rcases idx_other p.f0 b b 0 rfl (by omega) with ⟨e1, e2⟩ | ⟨j, q, e1, e2, e3⟩
      · rw [e2]
        (repeat (first | with_reducible refine Ev.bindS ?_ | (with_reducible refine Ev.ifp ?_ ?_; (· exact cnd_)) | (with_reducible refine Ev.ifn ?_ ?_; (· exact cnd_))))
        have e4 : meetOne n b p = [] := by unfold meetOne; rw [e1]
        rw [e4, List.nil_append]
        exact ih (i + 1) out p3 (by omega) (by omega)
      · rw [e2]
        (repeat (first | with_reducible refine Ev.bindS ?_ | (with_reducible refine Ev.ifp ?_ ?_; (· exact cnd_)) | (with_reducible refine Ev.ifn ?_ ?_; (· exact cnd_))))
        refine implMeet_inner n b out j q e3 a i p hb hp (by omega) (by omega) _ ?_ p.f1 0 [] rfl (by omega) (by simp) (by simp)
        have e4 : meetOne n b p = if (keepBy n q.f1 p.f1).length = 0 then [] else [⟨p.f0, keepBy n q.f1 p.f1⟩] := by unfold meetOne; rw [e1]
        rw [e4]
        by_cases h0 : (keepBy n q.f1 p.f1).length = 0
        · rw [if_pos h0, if_pos h0, List.nil_append]
          exact ih (i + 1) out p3 (by omega) (by omega)
        · rw [if_neg h0, if_neg h0, <- List.append_assoc]
          exact ih (i + 1) _ p3 (by omega) (by simp; omega)
  have h := key a 0 [] rfl (by omega) (by simp)
  simpa [impl_meet.f] using h
def Apart (b : List S57) : Prop := b.Pairwise fun x y => x.f0 ≠ y.f0
theorem other_none {d : Int} {t : List S57} (h : ∀ q ∈ t, q.f0 ≠ d) : other d t = none := by
  induction t with
  | nil => rfl
  | cons x t ih =>
    rw [other, if_neg (h x List.mem_cons_self)]
    exact ih (fun q hq => h q (List.mem_cons_of_mem _ hq))
theorem specMeet_places (n : Int) (b out : List S57) (a : List S57) (i jb : Nat) (p q : S57) (hp : p.f1.length <= 1048576) (hq : q.f1.length <= 1048576) (ho : out.length < 4398046511104) (hjb : jb <= 9223372036854775806) (r : List S57)
    (hr : Ev (fun k => spec_l9Meet.l1 k b n (if (keepBy n q.f1 p.f1).length = 0 then out else out ++ [⟨p.f0, keepBy n q.f1 p.f1⟩]) a a.length i b b.length ((jb + 1 : Nat) : Int) p.f0 p.f1) r) :
    ∀ (t : List Int) (j : Nat) (acc : List Int), p.f1.drop j = t -> j <= p.f1.length -> acc.length <= j -> acc ++ keepBy n q.f1 t = keepBy n q.f1 p.f1 ->
      Ev (fun k => spec_l9Meet.l2 k b n out a a.length i b b.length jb p.f1 p.f1.length j p.f0 p.f1 q.f0 q.f1 p.f0 acc) r := by
  intro t
  induction t with
  | nil =>
    intro j acc h hj ha e
    have := drop_nil h
    have e : acc = keepBy n q.f1 p.f1 := by rw [<- e]; simp [keepBy]
    rw [<- e] at hr
    (refine Ev.up ?_; simp only [spec_l9Meet.l2, decT])
    rw [wrap_succ (i := jb) hjb]
    by_cases h0 : acc.length = 0
    · rw [if_pos h0] at hr
      (repeat (first | with_reducible refine Ev.bindS ?_ | (with_reducible refine Ev.ifp ?_ ?_; (· exact cnd_)) | (with_reducible refine Ev.ifn ?_ ?_; (· exact cnd_))))
      exact hr
    · rw [if_neg h0] at hr
      (repeat (first | with_reducible refine Ev.bindS ?_ | (with_reducible refine Ev.ifp ?_ ?_; (· exact cnd_)) | (with_reducible refine Ev.ifn ?_ ?_; (· exact cnd_))))
      exact hr
  | cons x t ih =>
    intro j acc h hj ha e
    obtain ⟨p1, p2, p3⟩ := drop_cons h
    (refine Ev.up ?_; simp only [spec_l9Meet.l2, decT])
    rw [rd_at p2, wrap_succ (i := j) (by omega)]
    (repeat (first | with_reducible refine Ev.bindS ?_ | (with_reducible refine Ev.ifp ?_ ?_; (· exact cnd_)) | (with_reducible refine Ev.ifn ?_ ?_; (· exact cnd_))))
    refine Ev.bind (specHas_ev q.f1 (wrap64 (x + n)) (by omega)) ?_
    by_cases hx : wrap64 (x + n) ∈ q.f1
    · rw [decide_eq_true hx]
      (repeat (first | with_reducible refine Ev.bindS ?_ | (with_reducible refine Ev.ifp ?_ ?_; (· exact cnd_)) | (with_reducible refine Ev.ifn ?_ ?_; (· exact cnd_))))
      refine ih (j + 1) (acc ++ [x]) p3 (by omega) (by simp; omega) ?_
      rw [<- e, List.append_assoc]
      simp [keepBy, hx]
    · rw [decide_eq_false hx]
      (repeat (first | with_reducible refine Ev.bindS ?_ | (with_reducible refine Ev.ifp ?_ ?_; (· exact cnd_)) | (with_reducible refine Ev.ifn ?_ ?_; (· exact cnd_))))
      refine ih (j + 1) acc p3 (by omega) (by omega) ?_
      rw [<- e]
      simp [keepBy, hx]
theorem specMeet_docs (n : Int) (b : List S57) (a : List S57) (i : Nat) (p : S57) (hb : Fit b) (hp : p.f1.length <= 1048576) (hi : i <= 9223372036854775806) (r : List S57) :
    ∀ (t : List S57) (j : Nat) (out : List S57), b.drop j = t -> j <= b.length -> Apart t -> out.length + 1 < 4398046511104 -> Ev (fun k => spec_l9Meet.l0 k b n (out ++ meetOne n t p) a a.length ((i + 1 : Nat) : Int)) r ->
      Ev (fun k => spec_l9Meet.l1 k b n out a a.length i b b.length j p.f0 p.f1) r := by
  have hb1 := hb.1
  intro t
  induction t with
  | nil =>
    intro j out h hj hA ho hr
    have := drop_nil h
    have e : meetOne n [] p = [] := rfl
    rw [e, List.append_nil] at hr
    (refine Ev.up ?_; simp only [spec_l9Meet.l1, decT])
    rw [wrap_succ (i := i) hi]
    (repeat (first | with_reducible refine Ev.bindS ?_ | (with_reducible refine Ev.ifp ?_ ?_; (· exact cnd_)) | (with_reducible refine Ev.ifn ?_ ?_; (· exact cnd_))))
    exact hr
  | cons q t ih =>
    intro j out h hj hA ho hr
    obtain ⟨p1, p2, p3⟩ := drop_cons h
    have hq := hb.2 q (List.mem_of_getElem? p2)
    obtain ⟨hA1, hA2⟩ := List.pairwise_cons.1 hA
    (refine Ev.up ?_; simp only [spec_l9Meet.l1, decT])
    rw [rd57_at p2]
    by_cases hd : p.f0 = q.f0
    · (repeat (first | with_reducible refine Ev.bindS ?_ | (with_reducible refine Ev.ifp ?_ ?_; (· exact cnd_)) | (with_reducible refine Ev.ifn ?_ ?_; (· exact cnd_))))
      refine specMeet_places n b out a i j p q hp hq (by omega) (by omega) r ?_ p.f1 0 [] rfl (by omega) (by simp) (by simp)
      have e1 : meetOne n (q :: t) p = if (keepBy n q.f1 p.f1).length = 0 then [] else [⟨p.f0, keepBy n q.f1 p.f1⟩] := by
        unfold meetOne; rw [other, if_pos hd.symm]
      have e2 : ∀ o, out.length <= (o : List S57).length -> True := fun _ _ => trivial
      have e3 : meetOne n t p = [] := by
        unfold meetOne; rw [other_none (fun x hx => by rw [hd]; exact Ne.symm (hA1 x hx))]
      rw [e1] at hr
      by_cases h0 : (keepBy n q.f1 p.f1).length = 0
      · rw [if_pos h0] at hr ⊢
        refine ih (j + 1) out p3 (by omega) hA2 ho ?_
        rw [e3]
        exact hr
      · rw [if_neg h0] at hr ⊢
        -- no further document is this one: the rest of the round does nothing
        have rest : ∀ (t' : List S57) (j' : Nat), b.drop j' = t' -> j' <= b.length -> (∀ x ∈ t', x.f0 ≠ p.f0) -> Ev (fun k => spec_l9Meet.l1 k b n (out ++ [⟨p.f0, keepBy n q.f1 p.f1⟩]) a a.length i b b.length j' p.f0 p.f1) r := by
          intro t'
          induction t' with
          | nil =>
            intro j' h' hj' _
            have := drop_nil h'
            (refine Ev.up ?_; simp only [spec_l9Meet.l1, decT])
            rw [wrap_succ (i := i) hi]
            (repeat (first | with_reducible refine Ev.bindS ?_ | (with_reducible refine Ev.ifp ?_ ?_; (· exact cnd_)) | (with_reducible refine Ev.ifn ?_ ?_; (· exact cnd_))))
            exact hr
          | cons z t' ih' =>
            intro j' h' hj' hz
            obtain ⟨z1, z2, z3⟩ := drop_cons h'
            have hne : ¬ p.f0 = z.f0 := fun e => hz z List.mem_cons_self e.symm
            (refine Ev.up ?_; simp only [spec_l9Meet.l1, decT])
            rw [rd57_at z2, wrap_succ (i := j') (by omega)]
            (repeat (first | with_reducible refine Ev.bindS ?_ | (with_reducible refine Ev.ifp ?_ ?_; (· exact cnd_)) | (with_reducible refine Ev.ifn ?_ ?_; (· exact cnd_))))
            exact ih' (j' + 1) z3 (by omega) (fun x hx => hz x (List.mem_cons_of_mem _ hx))
        exact rest t (j + 1) p3 (by omega) (fun x hx => by rw [hd]; exact Ne.symm (hA1 x hx))
    · rw [wrap_succ (i := j) (by omega)]
      (repeat (first | with_reducible refine Ev.bindS ?_ | (with_reducible refine Ev.ifp ?_ ?_; (· exact cnd_)) | (with_reducible refine Ev.ifn ?_ ?_; (· exact cnd_))))
      refine ih (j + 1) out p3 (by omega) hA2 ho ?_
      have e1 : meetOne n (q :: t) p = meetOne n t p := by unfold meetOne; rw [other, if_neg (fun e => hd e.symm)]
      rw [<- e1]
      exact hr
theorem specMeet_ev (n : Int) (a b : List S57) (ha : Fit a) (hb : Fit b) (hA : Apart b) : Ev (fun k => spec_l9Meet.f k a b n) (meetAll n b a) := by
  have ha1 := ha.1
  have hb1 := hb.1
  have key : ∀ (t : List S57) (i : Nat) (out : List S57), a.drop i = t -> i <= a.length -> out.length <= i -> Ev (fun k => spec_l9Meet.l0 k b n out a a.length i) (out ++ meetAll n b t) := by
    intro t
    induction t with
    | nil =>
      intro i out h hi ho
      have := drop_nil h
      (refine Ev.up ?_; simp only [spec_l9Meet.l0, decT])
      (repeat (first | with_reducible refine Ev.bindS ?_ | (with_reducible refine Ev.ifp ?_ ?_; (· exact cnd_)) | (with_reducible refine Ev.ifn ?_ ?_; (· exact cnd_))))
      exact Ev.val (by simp [meetAll])
    | cons p t ih =>
      intro i out h hi ho
      obtain ⟨p1, p2, p3⟩ := drop_cons h
      have hp := ha.2 p (List.mem_of_getElem? p2)
      have h1 := meetOne_len n b p
      have e0 : meetAll n b (p :: t) = meetOne n b p ++ meetAll n b t := by simp [meetAll]
      rw [e0, <- List.append_assoc]
      (refine Ev.up ?_; simp only [spec_l9Meet.l0, decT])
      rw [rd57_at p2]
      (repeat (first | with_reducible refine Ev.bindS ?_ | (with_reducible refine Ev.ifp ?_ ?_; (· exact cnd_)) | (with_reducible refine Ev.ifn ?_ ?_; (· exact cnd_))))
      refine specMeet_docs n b a i p hb hp (by omega) _ b 0 out rfl (by omega) hA (by omega) ?_
      exact ih (i + 1) _ p3 (by omega) (by simp; omega)
  have h := key a 0 [] rfl (by omega) (by simp)
  simpa [spec_l9Meet.f] using h
theorem good_apart {l : List S57} (h : goodB l = true) : Apart l := by
  have h := (Bool.and_eq_true _ _ ▸ h : postsOk l l 0 = true /\ _).1
  have key : ∀ (t : List S57) (i : Nat), l.drop i = t -> postsOk l t i = true -> t.Pairwise (fun x y => x.f0 < y.f0) /\ (∀ x, 0 < i -> l[i - 1]? = some x -> ∀ y ∈ t, x.f0 < y.f0) := by
    intro t
    induction t with
    | nil => intro i hd h; exact ⟨List.Pairwise.nil, fun x _ _ y hy => by cases hy⟩
    | cons p t ih =>
      intro i hd h
      obtain ⟨p1, p2, p3⟩ := drop_cons hd
      simp only [postsOk, Bool.and_eq_true, Bool.or_eq_true, Bool.not_eq_true', decide_eq_true_eq, decide_eq_false_iff_not] at h
      have ht : postsOk l t (i + 1) = true := by
        first | exact h.2.2.2 | exact h.2.2.2.2 | exact h.2.2
      obtain ⟨i1, i2⟩ := ih (i + 1) p3 ht
      have hall := i2 p (by omega) (by simpa using p2)
      refine ⟨List.pairwise_cons.2 ⟨hall, i1⟩, fun x hi hx y hy => ?_⟩
      have hxp : x.f0 < p.f0 := by
        rcases h.2.1 with h0 | h0
        · omega
        · rw [rd57_at hx] at h0
          omega
      rcases List.mem_cons.1 hy with rfl | hy
      · exact hxp
      · have := hall y hy
        omega
  exact (key l 0 rfl h).1.imp (fun h e => by omega)
def meetRes (a b : List S57) (n : Int) : List S57 × Bool := if goodB a = true /\ goodB b = true /\ -20 <= n /\ n <= 20 then (meetAll n b a, true) else ([], false)
theorem meetRes_fit (a b : List S57) (n : Int) (ha : Fit a) : Fit (meetRes a b n).1 := by
  unfold meetRes
  split
  · exact meetAll_fit n b a ha
  · exact ⟨by simp, fun p hp => by cases hp⟩
theorem implMeetPosts_ev (a b : List S57) (n : Int) (ha : Fit a) (hb : Fit b) : Ev (fun k => impl_MeetPosts.f k a b n) (meetRes a b n) := by
  have bad : ¬ (goodB a = true /\ goodB b = true /\ -20 <= n /\ n <= 20) -> Ev (fun _ : Nat => some (([], false) : List S57 × Bool)) (meetRes a b n) := fun h => by
    rw [meetRes, if_neg h]
    exact Ev.val rfl
  simp only [impl_MeetPosts.f]
  refine Ev.bind (implGood_ev a ha) ?_
  show Ev (fun k => if goodB a = true then _ else _) _
  cases h1 : goodB a with
  | false => exact Ev.ifn (by simp) (bad (fun h => by rw [h1] at h; cases h.1))
  | true =>
    refine Ev.ifp rfl (Ev.bind (implGood_ev b hb) ?_)
    show Ev (fun k => if goodB b = true then _ else _) _
    cases h2 : goodB b with
    | false => exact Ev.ifn (by simp) (bad (fun h => by rw [h2] at h; cases h.2.1))
    | true =>
      refine Ev.ifp rfl ?_
      rw [within_eq]
      by_cases h3 : -20 <= n /\ n <= 20
      · rw [decide_eq_true h3]
        (repeat (first | with_reducible refine Ev.bindS ?_ | (with_reducible refine Ev.ifp ?_ ?_; (· exact cnd_)) | (with_reducible refine Ev.ifn ?_ ?_; (· exact cnd_))))
        refine Ev.bind (implMeet_ev n a b ha hb) ?_
        rw [meetRes, if_pos ⟨h1, h2, h3⟩]
        exact Ev.val rfl
      · rw [decide_eq_false h3]
        (repeat (first | with_reducible refine Ev.bindS ?_ | (with_reducible refine Ev.ifp ?_ ?_; (· exact cnd_)) | (with_reducible refine Ev.ifn ?_ ?_; (· exact cnd_))))
        exact bad (fun h => h3 h.2.2)
theorem specMeetPosts_ev (a b : List S57) (n : Int) (ha : Fit a) (hb : Fit b) : Ev (fun k => spec_MeetPosts.f k a b n) (meetRes a b n) := by
  have bad : ¬ (goodB a = true /\ goodB b = true /\ -20 <= n /\ n <= 20) -> Ev (fun _ : Nat => some (([], false) : List S57 × Bool)) (meetRes a b n) := fun h => by
    rw [meetRes, if_neg h]
    exact Ev.val rfl
  simp only [spec_MeetPosts.f]
  refine Ev.bind (specGood_ev a ha) ?_
  show Ev (fun k => if goodB a = true then _ else _) _
  cases h1 : goodB a with
  | false => exact Ev.ifn (by simp) (bad (fun h => by rw [h1] at h; cases h.1))
  | true =>
    refine Ev.ifp rfl (Ev.bind (specGood_ev b hb) ?_)
    show Ev (fun k => if goodB b = true then _ else _) _
    cases h2 : goodB b with
    | false => exact Ev.ifn (by simp) (bad (fun h => by rw [h2] at h; cases h.2.1))
    | true =>
      refine Ev.ifp rfl ?_
      rw [specIn_eq]
      by_cases h3 : -20 <= n /\ n <= 20
      · rw [decide_eq_true h3]
        (repeat (first | with_reducible refine Ev.bindS ?_ | (with_reducible refine Ev.ifp ?_ ?_; (· exact cnd_)) | (with_reducible refine Ev.ifn ?_ ?_; (· exact cnd_))))
        refine Ev.bind (specMeet_ev n a b ha hb (good_apart h2)) ?_
        rw [meetRes, if_pos ⟨h1, h2, h3⟩]
        exact Ev.val rfl
      · rw [decide_eq_false h3]
        (repeat (first | with_reducible refine Ev.bindS ?_ | (with_reducible refine Ev.ifp ?_ ?_; (· exact cnd_)) | (with_reducible refine Ev.ifn ?_ ?_; (· exact cnd_))))
        exact bad (fun h => h3 h.2.2)
def Row (l : List Int) : Prop := (∀ x ∈ l, 0 <= x /\ x <= 19) /\ l.Pairwise (· < ·)
theorem rise_iff (l : List Int) : ∀ (t : List Int) (i : Nat), l.drop i = t -> (rise l t i = true ↔ (∀ x ∈ t, 0 <= x /\ x <= 19) /\ t.Pairwise (· < ·) /\ (0 < i -> ∀ x, l[i - 1]? = some x -> ∀ y ∈ t, x < y)) := by
  intro t
  induction t with
  | nil => intro i h; simp [rise]
  | cons y t ih =>
    intro i h
    obtain ⟨p1, p2, p3⟩ := drop_cons h
    have ih := ih (i + 1) p3
    simp only [rise, Bool.and_eq_true, Bool.or_eq_true, Bool.not_eq_true', decide_eq_true_eq, decide_eq_false_iff_not, ih]
    have hy : l[i + 1 - 1]? = some y := by simpa using p2
    constructor
    · rintro ⟨h1, h2, h3, h4, h5⟩
      have h5 := h5 (by omega) y hy
      refine ⟨fun x hx => ?_, List.pairwise_cons.2 ⟨h5, h4⟩, fun hi x hx z hz => ?_⟩
      · rcases List.mem_cons.1 hx with rfl | hx
        · exact h1
        · exact h3 x hx
      · have hlt : x < y := by
          rcases h2 with h2 | h2
          · omega
          · rw [rd_at hx] at h2; omega
        rcases List.mem_cons.1 hz with rfl | hz
        · exact hlt
        · have := h5 z hz; omega
    · rintro ⟨h1, h2, h3⟩
      obtain ⟨h4, h5⟩ := List.pairwise_cons.1 h2
      refine ⟨h1 y List.mem_cons_self, ?_, fun x hx => h1 x (List.mem_cons_of_mem _ hx), h5, fun _ x hx => ?_⟩
      · by_cases h0 : i = 0
        · exact .inl h0
        · right
          have hx : l[i - 1]? = some (l[i - 1]'(by omega)) := List.getElem?_eq_getElem (by omega)
          have := h3 (by omega) _ hx y List.mem_cons_self
          rw [rd_at hx]
          omega
      · rw [hy] at hx
        injection hx with hx
        subst hx
        exact h4
def Good1 (p : S57) : Prop := (0 <= p.f0 /\ p.f0 <= 11) /\ 1 <= p.f1.length /\ Row p.f1
theorem postsOk_iff (l : List S57) : ∀ (t : List S57) (i : Nat), l.drop i = t -> (postsOk l t i = true ↔ (∀ p ∈ t, Good1 p) /\ t.Pairwise (fun x y => x.f0 < y.f0) /\ (0 < i -> ∀ x, l[i - 1]? = some x -> ∀ y ∈ t, x.f0 < y.f0)) := by
  intro t
  induction t with
  | nil => intro i h; simp [postsOk]
  | cons y t ih =>
    intro i h
    obtain ⟨p1, p2, p3⟩ := drop_cons h
    have ih := ih (i + 1) p3
    have hr := rise_iff y.f1 y.f1 0 rfl
    have hr2 : rise y.f1 y.f1 0 = true ↔ Row y.f1 := by
      rw [hr]
      exact ⟨fun h => ⟨h.1, h.2.1⟩, fun h => ⟨h.1, h.2, fun h => by omega⟩⟩
    simp only [postsOk, Bool.and_eq_true, Bool.or_eq_true, Bool.not_eq_true', decide_eq_true_eq, decide_eq_false_iff_not, ih, hr2]
    have hy : l[i + 1 - 1]? = some y := by simpa using p2
    constructor
    · rintro ⟨h1, h2, ⟨h3, h4⟩, h5, h6, h7⟩
      have h7 := h7 (by omega) y hy
      refine ⟨fun x hx => ?_, List.pairwise_cons.2 ⟨h7, h6⟩, fun hi x hx z hz => ?_⟩
      · rcases List.mem_cons.1 hx with rfl | hx
        · exact ⟨h1, h3, h4⟩
        · exact h5 x hx
      · have hlt : x.f0 < y.f0 := by
          rcases h2 with h2 | h2
          · omega
          · rw [rd57_at hx] at h2; omega
        rcases List.mem_cons.1 hz with rfl | hz
        · exact hlt
        · have := h7 z hz; omega
    · rintro ⟨h1, h2, h3⟩
      obtain ⟨h4, h5⟩ := List.pairwise_cons.1 h2
      obtain ⟨g1, g2, g3⟩ := h1 y List.mem_cons_self
      refine ⟨g1, ?_, ⟨g2, g3⟩, fun x hx => h1 x (List.mem_cons_of_mem _ hx), h5, fun _ x hx => ?_⟩
      · by_cases h0 : i = 0
        · exact .inl h0
        · right
          have hx : l[i - 1]? = some (l[i - 1]'(by omega)) := List.getElem?_eq_getElem (by omega)
          have := h3 (by omega) _ hx y List.mem_cons_self
          rw [rd57_at hx]
          omega
      · rw [hy] at hx
        injection hx with hx
        subst hx
        exact h4
theorem good_iff (l : List S57) : goodB l = true ↔ (∀ p ∈ l, Good1 p) /\ l.Pairwise (fun x y => x.f0 < y.f0) /\ l.length <= 12 := by
  unfold goodB
  rw [Bool.and_eq_true, postsOk_iff l l 0 rfl, decide_eq_true_iff]
  exact ⟨fun h => ⟨h.1.1, h.1.2.1, by omega⟩, fun h => ⟨⟨h.1, h.2.1, fun h => by omega⟩, by omega⟩⟩
theorem meetOne_mem {n : Int} {b : List S57} {p x : S57} (h : x ∈ meetOne n b p) : x.f0 = p.f0 /\ ∃ q, other p.f0 b = some q /\ x.f1 = keepBy n q.f1 p.f1 /\ x.f1.length ≠ 0 := by
  unfold meetOne at h
  split at h
  · cases h
  · rename_i q hq
    split at h
    · cases h
    · rename_i h0
      rw [List.mem_singleton.1 h]
      exact ⟨rfl, q, hq, rfl, h0⟩
theorem meetAll_good (n : Int) (b a : List S57) (ha : goodB a = true) : goodB (meetAll n b a) = true := by
  rw [good_iff] at ha ⊢
  obtain ⟨h1, h2, h3⟩ := ha
  refine ⟨fun x hx => ?_, ?_, Nat.le_trans (meetAll_len n b a) h3⟩
  · obtain ⟨p, hp, hx⟩ := List.mem_flatMap.1 hx
    obtain ⟨e0, q, _, e1, e2⟩ := meetOne_mem hx
    obtain ⟨g1, g2, g3, g4⟩ := h1 p hp
    refine ⟨by rw [e0]; exact g1, by omega, ?_, ?_⟩
    · intro y hy
      rw [e1] at hy
      exact g3 y (List.mem_filter.1 hy).1
    · rw [e1]
      exact g4.filter _
  · clear h1 h3
    induction a with
    | nil => exact List.Pairwise.nil
    | cons p t ih =>
      obtain ⟨h4, h5⟩ := List.pairwise_cons.1 h2
      have e0 : meetAll n b (p :: t) = meetOne n b p ++ meetAll n b t := by simp [meetAll]
      rw [e0, List.pairwise_append]
      refine ⟨?_, ih h5, fun x hx y hy => ?_⟩
      · unfold meetOne
        split
        · exact List.Pairwise.nil
        · split
          · exact List.Pairwise.nil
          · exact List.pairwise_singleton _ _
      · obtain ⟨q, hq, hy⟩ := List.mem_flatMap.1 hy
        rw [(meetOne_mem hx).1, (meetOne_mem hy).1]
        exact h4 q hq
def hit (n : Int) (p q : S57) : Bool := decide (p.f0 = q.f0) && p.f1.any fun x => decide (wrap64 (x + n) ∈ q.f1)
theorem keep_ne (n : Int) (ys xs : List Int) : (keepBy n ys xs).length ≠ 0 ↔ (xs.any fun x => decide (wrap64 (x + n) ∈ ys)) = true := by
  rw [ne_eq, List.length_eq_zero_iff, keepBy, List.filter_eq_nil_iff, List.any_eq_true]
  simp
theorem one_count (n : Int) (p : S57) : ∀ b : List S57, Apart b -> (meetOne n b p).length = (b.filter (hit n p)).length := by
  intro b
  induction b with
  | nil => intro _; rfl
  | cons q t ih =>
    intro hA
    obtain ⟨hA1, hA2⟩ := List.pairwise_cons.1 hA
    by_cases hd : q.f0 = p.f0
    · have e1 : meetOne n (q :: t) p = if (keepBy n q.f1 p.f1).length = 0 then [] else [⟨p.f0, keepBy n q.f1 p.f1⟩] := by
        unfold meetOne; rw [other, if_pos hd]
      have e2 : t.filter (hit n p) = [] := by
        rw [List.filter_eq_nil_iff]
        intro x hx h
        have : p.f0 = x.f0 := by
          unfold hit at h
          rw [Bool.and_eq_true, decide_eq_true_iff] at h
          exact h.1
        exact hA1 x hx (by rw [hd, this])
      rw [e1, List.filter_cons, e2]
      by_cases h0 : (keepBy n q.f1 p.f1).length = 0
      · have : hit n p q = false := by
          unfold hit
          rw [decide_eq_true hd.symm, Bool.true_and, Bool.eq_false_iff]
          exact fun h => (keep_ne n q.f1 p.f1).2 h h0
        rw [if_pos h0, this]
        rfl
      · have : hit n p q = true := by
          unfold hit
          rw [decide_eq_true hd.symm, Bool.true_and]
          exact (keep_ne n q.f1 p.f1).1 h0
        rw [if_neg h0, this]
        rfl
    · have e1 : meetOne n (q :: t) p = meetOne n t p := by unfold meetOne; rw [other, if_neg hd]
      have e2 : hit n p q = false := by
        unfold hit
        rw [decide_eq_false (fun e => hd e.symm), Bool.false_and]
      rw [e1, List.filter_cons, e2]
      exact ih hA2
def count (f : S57 -> S57 -> Bool) (a b : List S57) : Nat := (a.map fun p => (b.filter (f p)).length).sum
theorem all_count (n : Int) (b a : List S57) (hA : Apart b) : (meetAll n b a).length = count (hit n) a b := by
  induction a with
  | nil => rfl
  | cons p t ih =>
    have e0 : meetAll n b (p :: t) = meetOne n b p ++ meetAll n b t := by simp [meetAll]
    rw [e0, List.length_append, ih, one_count n p b hA]
    simp [count]
theorem count_cons (f : S57 -> S57 -> Bool) (q : S57) (b : List S57) : ∀ a : List S57, count f a (q :: b) = (a.filter fun p => f p q).length + count f a b := by
  intro a
  induction a with
  | nil => rfl
  | cons p t ih =>
    simp only [count, List.map_cons, List.sum_cons, List.filter_cons] at ih ⊢
    rw [ih]
    by_cases h : f p q = true
    · rw [if_pos h, if_pos h]; simp only [List.length_cons]; omega
    · rw [if_neg h, if_neg h]; omega
theorem count_nil (f : S57 -> S57 -> Bool) (a : List S57) : count f a [] = 0 := by
  induction a with
  | nil => rfl
  | cons p t ih => simp only [count, List.map_cons, List.sum_cons, List.filter_nil, List.length_nil] at ih ⊢; rw [ih]
theorem count_swap (f : S57 -> S57 -> Bool) (a : List S57) : ∀ b : List S57, count f a b = count (fun q p => f p q) b a := by
  intro b
  induction b with
  | nil => rw [count_nil]; rfl
  | cons q b ih =>
    rw [count_cons, ih]
    simp [count]
theorem count_congr {f g : S57 -> S57 -> Bool} {a b : List S57} (h : ∀ p ∈ a, ∀ q ∈ b, f p q = g p q) : count f a b = count g a b := by
  unfold count
  congr 1
  refine List.map_congr_left fun p hp => ?_
  congr 1
  exact List.filter_congr fun q hq => h p hp q hq
theorem hit_back (n : Int) (h0 : -20 <= n) (h1 : n <= 20) (p q : S57) (hp : ∀ x ∈ p.f1, 0 <= x /\ x <= 19) (hq : ∀ x ∈ q.f1, 0 <= x /\ x <= 19) : hit n p q = hit (wrap64 (-n)) q p := by
  have ew : wrap64 (-n) = -n := wrap_ok (by omega) (by omega)
  rw [ew]
  unfold hit
  have e1 : decide (p.f0 = q.f0) = decide (q.f0 = p.f0) := by rw [decide_eq_decide]; exact eq_comm
  rw [e1]
  congr 1
  rw [Bool.eq_iff_iff, List.any_eq_true, List.any_eq_true]
  constructor
  · rintro ⟨x, hx, h⟩
    have hx2 := hp x hx
    rw [decide_eq_true_iff, wrap_ok (by omega) (by omega)] at h
    refine ⟨x + n, h, ?_⟩
    rw [decide_eq_true_iff, show x + n + -n = x by omega, wrap_ok (by omega) (by omega)]
    exact hx
  · rintro ⟨x, hx, h⟩
    have hx2 := hq x hx
    rw [decide_eq_true_iff, wrap_ok (by omega) (by omega)] at h
    refine ⟨x + -n, h, ?_⟩
    rw [decide_eq_true_iff, show x + -n + n = x by omega, wrap_ok (by omega) (by omega)]
    exact hx
theorem back_len (n : Int) (h0 : -20 <= n) (h1 : n <= 20) (a b : List S57) (ha : goodB a = true) (hb : goodB b = true) : (meetAll (wrap64 (-n)) a b).length = (meetAll n b a).length := by
  rw [all_count _ a b (good_apart ha), all_count n b a (good_apart hb), count_swap (hit n) a b]
  have h2 := ((good_iff a).1 ha).1
  have h3 := ((good_iff b).1 hb).1
  exact count_congr fun q hq p hp => (hit_back n h0 h1 p q (h2 p hp).2.2.1 (h3 q hq).2.2.1).symm
theorem back_res (n : Int) (a b : List S57) (h : (meetRes a b n).2 = true) : (meetRes b a (wrap64 (-n))).2 = true /\ (meetRes b a (wrap64 (-n))).1.length = (meetRes a b n).1.length /\ goodB (meetRes a b n).1 = true := by
  unfold meetRes at h ⊢
  split at h
  · rename_i hc
    have ew : wrap64 (-n) = -n := wrap_ok (by omega) (by omega)
    rw [if_pos hc, if_pos ⟨hc.2.1, hc.1, by omega, by omega⟩]
    exact ⟨rfl, back_len n hc.2.2.1 hc.2.2.2 a b hc.1 hc.2.1, meetAll_good n b a hc.1⟩
  · cases h
theorem postsFrom_rise (w : ByteArray) (t : List ByteArray) : ∀ (i : Nat) (acc : List S57), acc.Pairwise (fun x y => x.f0 < y.f0) -> (∀ p ∈ acc, 0 <= p.f0 /\ p.f0 < (i : Int)) ->
    (postsFrom w t i acc).Pairwise (fun x y => x.f0 < y.f0) /\ ∀ p ∈ postsFrom w t i acc, 0 <= p.f0 /\ p.f0 < ((i + t.length : Nat) : Int) := by
  induction t with
  | nil => intro i acc h1 h2; exact ⟨h1, fun p hp => h2 p hp⟩
  | cons s t ih =>
    intro i acc h1 h2
    simp only [postsFrom]
    have e : ((i + (s :: t).length : Nat) : Int) = ((i + 1 + t.length : Nat) : Int) := by simp; omega
    rw [e]
    split
    · refine ih (i + 1) _ (List.pairwise_append.2 ⟨h1, List.pairwise_singleton _ _, fun x hx y hy => ?_⟩) (fun p hp => ?_)
      · rw [List.mem_singleton.1 hy]
        exact (h2 x hx).2
      · rcases List.mem_append.1 hp with hp | hp
        · have := h2 p hp; omega
        · rw [List.mem_singleton.1 hp]
          show 0 <= (i : Int) /\ (i : Int) < _
          omega
    · exact ih (i + 1) acc h1 (fun p hp => by have := h2 p hp; omega)
theorem postsFrom_apart (w : ByteArray) (l : List ByteArray) : Apart (postsFrom w l 0 []) :=
  (postsFrom_rise w l 0 [] List.Pairwise.nil (fun p hp => by cases hp)).1.imp (fun h e => by omega)
theorem posts_fit (w : ByteArray) (l : List ByteArray) (hl : Small l) (hd : docsOk l = true) : Fit (postsFrom w l 0 []) := by
  have h := postsRes_fit l w hl
  refine ⟨?_, postsFrom_fit w l (fun s hs => by have := docsOk_small hd s hs; omega) 0 [] (fun p hp => by cases hp)⟩
  have := postsFrom_len w l 0 []
  have := hl.1
  simp only [List.length_nil] at *
  omega
def phraseFrom (docs : List ByteArray) : List ByteArray -> Nat -> List S57 -> List S57
  | [], _, out => out
  | w :: t, i, out => phraseFrom docs t (i + 1) (meetAll (i : Int) (postsFrom w docs 0 []) out)
def phraseRes (docs ws : List ByteArray) : List S57 × Bool :=
  match ws with
  | [] => ([], false)
  | w :: t => if docsOk docs = true /\ ws.length <= 4 /\ ws.all wordOk = true then (phraseFrom docs t 1 (postsFrom w docs 0 []), true) else ([], false)
theorem phraseFrom_fit (docs : List ByteArray) (t : List ByteArray) : ∀ (i : Nat) (out : List S57), Fit out -> Fit (phraseFrom docs t i out) := by
  induction t with
  | nil => intro i out h; exact h
  | cons w t ih => intro i out h; exact ih (i + 1) _ (meetAll_fit _ _ _ h)
theorem phraseRes_fit (docs ws : List ByteArray) (hl : Small docs) : Fit (phraseRes docs ws).1 := by
  unfold phraseRes
  split
  · exact ⟨by simp, fun p hp => by cases hp⟩
  · split
    · rename_i h
      exact phraseFrom_fit _ _ _ _ (posts_fit _ _ hl h.1)
    · exact ⟨by simp, fun p hp => by cases hp⟩
theorem notWord_ev (l : List ByteArray) (hl : Small l) : Ev (fun k => slices_ContainsFunc_at74.f k l) (!(l.all wordOk)) := by
  have hl1 := hl.1
  have hd : ∀ x, x.size <= 1048576 -> Ev (fun k => impl_PhraseIn_1.f k x) (!wordOk x) := by
    intro x hx
    simp only [impl_PhraseIn_1.f]
    refine Ev.bind (implWord_ev x hx) ?_
    exact Ev.val rfl
  have key : ∀ (t : List ByteArray) (i : Nat), l.drop i = t -> i <= l.length -> ∃ r : Int, Ev (fun k => slices_IndexFunc_at74.l0 k l l.length i) r /\ decide (r ≥ 0) = !(t.all wordOk) := by
    intro t
    induction t with
    | nil =>
      intro i h hi
      have := drop_nil h
      refine ⟨-1, ?_, by simp⟩
      (refine Ev.up ?_; simp only [slices_IndexFunc_at74.l0, decT])
      (repeat (first | with_reducible refine Ev.bindS ?_ | (with_reducible refine Ev.ifp ?_ ?_; (· exact cnd_)) | (with_reducible refine Ev.ifn ?_ ?_; (· exact cnd_))))
      exact Ev.val rfl
    | cons x t ih =>
      intro i h hi
      obtain ⟨p1, p2, p3⟩ := drop_cons h
      have hx := hl.2 x (List.mem_of_getElem? p2)
      obtain ⟨r, ih, hr⟩ := ih (i + 1) p3 (by omega)
      cases hk : wordOk x with
      | true =>
        refine ⟨r, ?_, by rw [List.all_cons, hk, hr]; simp⟩
        (refine Ev.up ?_; simp only [slices_IndexFunc_at74.l0, decT])
        rw [rdOf_at p2, wrap_succ (by omega)]
        (repeat (first | with_reducible refine Ev.bindS ?_ | (with_reducible refine Ev.ifp ?_ ?_; (· exact cnd_)) | (with_reducible refine Ev.ifn ?_ ?_; (· exact cnd_))))
        refine Ev.bind (hd x hx) ?_
        rw [hk]
        (repeat (first | with_reducible refine Ev.bindS ?_ | (with_reducible refine Ev.ifp ?_ ?_; (· exact cnd_)) | (with_reducible refine Ev.ifn ?_ ?_; (· exact cnd_))))
        exact ih
      | false =>
        refine ⟨i, ?_, by rw [List.all_cons, hk]; simp⟩
        (refine Ev.up ?_; simp only [slices_IndexFunc_at74.l0, decT])
        rw [rdOf_at p2, wrap_succ (by omega)]
        (repeat (first | with_reducible refine Ev.bindS ?_ | (with_reducible refine Ev.ifp ?_ ?_; (· exact cnd_)) | (with_reducible refine Ev.ifn ?_ ?_; (· exact cnd_))))
        refine Ev.bind (hd x hx) ?_
        rw [hk]
        (repeat (first | with_reducible refine Ev.bindS ?_ | (with_reducible refine Ev.ifp ?_ ?_; (· exact cnd_)) | (with_reducible refine Ev.ifn ?_ ?_; (· exact cnd_))))
        exact Ev.val rfl
  obtain ⟨r, h1, h2⟩ := key l 0 rfl (by omega)
  simp only [slices_ContainsFunc_at74.f]
  refine Ev.bind (g := fun k => slices_IndexFunc_at74.f k l) h1 ?_
  exact Ev.val h2
theorem implPhrase_loop (docs ws : List ByteArray) (hs : Small docs) (hd : docsOk docs = true) (hw : Small ws) :
    ∀ (t : List ByteArray) (i : Nat) (out : List S57), ws.drop i = t -> i <= ws.length -> Fit out -> Ev (fun k => impl_PhraseIn.l0 k docs out ws ws.length i) (phraseFrom docs t (i + 1) out, true) := by
  have hw1 := hw.1
  intro t
  induction t with
  | nil =>
    intro i out h hi ho
    have := drop_nil h
    (refine Ev.up ?_; simp only [impl_PhraseIn.l0, decT])
    (repeat (first | with_reducible refine Ev.bindS ?_ | (with_reducible refine Ev.ifp ?_ ?_; (· exact cnd_)) | (with_reducible refine Ev.ifn ?_ ?_; (· exact cnd_))))
    exact Ev.val rfl
  | cons w t ih =>
    intro i out h hi ho
    obtain ⟨p1, p2, p3⟩ := drop_cons h
    (refine Ev.up ?_; simp only [impl_PhraseIn.l0, decT])
    rw [rdOf_at p2, wrap_succ (i := i) (by omega)]
    (repeat (first | with_reducible refine Ev.bindS ?_ | (with_reducible refine Ev.ifp ?_ ?_; (· exact cnd_)) | (with_reducible refine Ev.ifn ?_ ?_; (· exact cnd_))))
    refine Ev.bind (implPosts_ev docs hs w) (Ev.bind (implMeet_ev _ _ _ ho (posts_fit w docs hs hd)) ?_)
    exact ih (i + 1) _ p3 (by omega) (meetAll_fit _ _ _ ho)
theorem specPhrase_loop (docs ws : List ByteArray) (hs : Small docs) (hd : docsOk docs = true) (hw : Small ws) :
    ∀ (t : List ByteArray) (i : Nat) (out : List S57), ws.drop i = t -> i <= ws.length -> Fit out -> Ev (fun k => spec_PhraseIn.l1 k docs ws out i) (phraseFrom docs t i out, true) := by
  have hw1 := hw.1
  intro t
  induction t with
  | nil =>
    intro i out h hi ho
    have := drop_nil h
    (refine Ev.up ?_; simp only [spec_PhraseIn.l1, decT])
    (repeat (first | with_reducible refine Ev.bindS ?_ | (with_reducible refine Ev.ifp ?_ ?_; (· exact cnd_)) | (with_reducible refine Ev.ifn ?_ ?_; (· exact cnd_))))
    exact Ev.val rfl
  | cons w t ih =>
    intro i out h hi ho
    obtain ⟨p1, p2, p3⟩ := drop_cons h
    (refine Ev.up ?_; simp only [spec_PhraseIn.l1, decT])
    rw [rdOf_at p2, wrap_succ (i := i) (by omega)]
    (repeat (first | with_reducible refine Ev.bindS ?_ | (with_reducible refine Ev.ifp ?_ ?_; (· exact cnd_)) | (with_reducible refine Ev.ifn ?_ ?_; (· exact cnd_))))
    refine Ev.bind (specPosts_ev docs hs w) (Ev.bind (specMeet_ev _ _ _ ho (posts_fit w docs hs hd) (postsFrom_apart w docs)) ?_)
    exact ih (i + 1) _ p3 (by omega) (meetAll_fit _ _ _ ho)
theorem implPhrase_ev (docs ws : List ByteArray) (hs : Small docs) (hw : Small ws) : Ev (fun k => impl_PhraseIn.f k docs ws) (phraseRes docs ws) := by
  have hw1 := hw.1
  have bad : phraseRes docs ws = ([], false) -> Ev (fun k => impl_PhraseIn.j0 k docs ws true) (phraseRes docs ws) := fun h => by
    rw [h]
    (refine Ev.up ?_; simp only [impl_PhraseIn.j0, decT])
    (repeat (first | with_reducible refine Ev.bindS ?_ | (with_reducible refine Ev.ifp ?_ ?_; (· exact cnd_)) | (with_reducible refine Ev.ifn ?_ ?_; (· exact cnd_))))
    exact Ev.val rfl
  simp only [impl_PhraseIn.f]
  refine Ev.bind (implDocs_ev docs hs) ?_
  cases h1 : docsOk docs with
  | false =>
    refine Ev.ifn (by simp) (bad ?_)
    unfold phraseRes
    split
    · rfl
    · rw [if_neg (fun h => by rw [h1] at h; cases h.1)]
  | true =>
    refine Ev.ifp rfl ?_
    rw [within_eq]
    by_cases h2 : 1 <= (ws.length : Int) /\ (ws.length : Int) <= 4
    · rw [decide_eq_true h2]
      (repeat (first | with_reducible refine Ev.bindS ?_ | (with_reducible refine Ev.ifp ?_ ?_; (· exact cnd_)) | (with_reducible refine Ev.ifn ?_ ?_; (· exact cnd_))))
      refine Ev.bind (notWord_ev ws hw) ?_
      cases h3 : ws.all wordOk with
      | false =>
        rw [Bool.not_false]
        refine bad ?_
        unfold phraseRes
        split
        · rfl
        · rw [if_neg (fun h => by rw [h3] at h; cases h.2.2)]
      | true =>
        rw [Bool.not_true]
        cases ws with
        | nil => simp at h2
        | cons w t =>
          have e : phraseRes docs (w :: t) = (phraseFrom docs t 1 (postsFrom w docs 0 []), true) := if_pos ⟨h1, by omega, h3⟩
          rw [e]
          have hw' : Small t := ⟨by simp at hw1; omega, fun y hy => hw.2 y (List.mem_cons_of_mem _ hy)⟩
          (refine Ev.up ?_; simp only [impl_PhraseIn.j0, decT])
          rw [show rdOf ByteArray.empty (w :: t) 0 = w from rfl]
          (repeat (first | with_reducible refine Ev.bindS ?_ | (with_reducible refine Ev.ifp ?_ ?_; (· exact cnd_)) | (with_reducible refine Ev.ifn ?_ ?_; (· exact cnd_))))
          refine Ev.bind (implPosts_ev docs hs w) ?_
          (repeat (first | with_reducible refine Ev.bindS ?_ | (with_reducible refine Ev.ifp ?_ ?_; (· exact cnd_)) | (with_reducible refine Ev.ifn ?_ ?_; (· exact cnd_))))
          exact implPhrase_loop docs t hs h1 hw' t 0 _ rfl (by omega) (posts_fit w docs hs h1)
    · rw [decide_eq_false h2]
      (repeat (first | with_reducible refine Ev.bindS ?_ | (with_reducible refine Ev.ifp ?_ ?_; (· exact cnd_)) | (with_reducible refine Ev.ifn ?_ ?_; (· exact cnd_))))
      refine bad ?_
      unfold phraseRes
      split
      · rfl
      · rename_i w t
        rw [if_neg (fun h => h2 ⟨by simp; omega, by omega⟩)]
theorem specPhrase_ev (docs ws : List ByteArray) (hs : Small docs) (hw : Small ws) : Ev (fun k => spec_PhraseIn.f k docs ws) (phraseRes docs ws) := by
  have hw1 := hw.1
  have bad : phraseRes docs ws = ([], false) -> Ev (fun k => spec_PhraseIn.j1 k docs ws true) (phraseRes docs ws) := fun h => by
    rw [h]
    (refine Ev.up ?_; simp only [spec_PhraseIn.j1, decT])
    (repeat (first | with_reducible refine Ev.bindS ?_ | (with_reducible refine Ev.ifp ?_ ?_; (· exact cnd_)) | (with_reducible refine Ev.ifn ?_ ?_; (· exact cnd_))))
    exact Ev.val rfl
  have last : ws.all wordOk = true -> Ev (fun k => (spec_l9Docs.f k docs).bind fun t392 => (if t392 = true then ((spec_l1In.f (ws.length : Int) 1 4).bind fun t393 => (spec_PhraseIn.j1 k docs ws (!t393))) else (spec_PhraseIn.j1 k docs ws true))) (phraseRes docs ws) := fun h3 => by
    refine Ev.bind (specDocs_ev docs hs) ?_
    cases h1 : docsOk docs with
    | false =>
      refine Ev.ifn (by simp) (bad ?_)
      unfold phraseRes
      split
      · rfl
      · rw [if_neg (fun h => by rw [h1] at h; cases h.1)]
    | true =>
      refine Ev.ifp rfl ?_
      rw [specIn_eq]
      by_cases h2 : 1 <= (ws.length : Int) /\ (ws.length : Int) <= 4
      · rw [decide_eq_true h2]
        (repeat (first | with_reducible refine Ev.bindS ?_ | (with_reducible refine Ev.ifp ?_ ?_; (· exact cnd_)) | (with_reducible refine Ev.ifn ?_ ?_; (· exact cnd_))))
        rw [Bool.not_true]
        cases ws with
        | nil => simp at h2
        | cons w t =>
          have e : phraseRes docs (w :: t) = (phraseFrom docs t 1 (postsFrom w docs 0 []), true) := if_pos ⟨h1, by omega, h3⟩
          rw [e]
          (refine Ev.up ?_; simp only [spec_PhraseIn.j1, decT])
          rw [show rdOf ByteArray.empty (w :: t) 0 = w from rfl]
          (repeat (first | with_reducible refine Ev.bindS ?_ | (with_reducible refine Ev.ifp ?_ ?_; (· exact cnd_)) | (with_reducible refine Ev.ifn ?_ ?_; (· exact cnd_))))
          refine Ev.bind (specPosts_ev docs hs w) ?_
          exact specPhrase_loop docs (w :: t) hs h1 hw t 1 _ rfl (by simp) (posts_fit w docs hs h1)
      · rw [decide_eq_false h2]
        (repeat (first | with_reducible refine Ev.bindS ?_ | (with_reducible refine Ev.ifp ?_ ?_; (· exact cnd_)) | (with_reducible refine Ev.ifn ?_ ?_; (· exact cnd_))))
        rw [Bool.not_false]
        refine bad ?_
        unfold phraseRes
        split
        · rfl
        · rename_i w t
          rw [if_neg (fun h => h2 ⟨by simp; omega, by omega⟩)]
  have key : ∀ (t : List ByteArray) (i : Nat), ws.drop i = t -> i <= ws.length -> (ws.all wordOk = t.all wordOk) -> Ev (fun k => spec_PhraseIn.l0 k docs ws ws ws.length i) (phraseRes docs ws) := by
    intro t
    induction t with
    | nil =>
      intro i h hi ha
      have := drop_nil h
      (refine Ev.up ?_; simp only [spec_PhraseIn.l0, decT])
      (repeat (first | with_reducible refine Ev.bindS ?_ | (with_reducible refine Ev.ifp ?_ ?_; (· exact cnd_)) | (with_reducible refine Ev.ifn ?_ ?_; (· exact cnd_))))
      exact last (by rw [ha]; rfl)
    | cons w t ih =>
      intro i h hi ha
      obtain ⟨p1, p2, p3⟩ := drop_cons h
      have hwd := hw.2 w (List.mem_of_getElem? p2)
      (refine Ev.up ?_; simp only [spec_PhraseIn.l0, decT])
      rw [rdOf_at p2, wrap_succ (i := i) (by omega)]
      (repeat (first | with_reducible refine Ev.bindS ?_ | (with_reducible refine Ev.ifp ?_ ?_; (· exact cnd_)) | (with_reducible refine Ev.ifn ?_ ?_; (· exact cnd_))))
      refine Ev.bind (specWord_ev w hwd) ?_
      cases h3 : wordOk w with
      | false =>
        refine Ev.ifn (by simp) ?_
        have e : phraseRes docs ws = ([], false) := by
          unfold phraseRes
          split
          · rfl
          · rw [if_neg (fun h => by rw [ha, List.all_cons, h3] at h; cases h.2.2)]
        rw [e]
        exact Ev.val rfl
      | true =>
        refine Ev.ifp rfl ?_
        exact ih (i + 1) p3 (by omega) (by rw [ha, List.all_cons, h3, Bool.true_and])
  exact key ws 0 rfl (by omega) rfl
abbrev nearP (a b : ByteArray) (n : Int) (i : Nat) (x : ByteArray) (k : Nat) (y : ByteArray) : Prop :=
  x.toList = a.toList /\ y.toList = b.toList /\ ¬ ((i : Int) = (k : Int)) /\ wrap64 ((i : Int) - (k : Int)) <= n /\ wrap64 ((k : Int) - (i : Int)) <= n
def rowB (a b : ByteArray) (n : Int) (i : Nat) (x : ByteArray) : List ByteArray -> Nat -> Bool
  | [], _ => false
  | y :: t, k => decide (nearP a b n i x k y) || rowB a b n i x t (k + 1)
def allB (a b : ByteArray) (n : Int) (ws : List ByteArray) : List ByteArray -> Nat -> Bool
  | [], _ => false
  | x :: t, i => rowB a b n i x ws 0 || allB a b n ws t (i + 1)
theorem rowB_iff (a b : ByteArray) (n : Int) (i : Nat) (x : ByteArray) (t : List ByteArray) : ∀ k : Nat, rowB a b n i x t k = true ↔ ∃ (j : Nat) (y : ByteArray), t[j]? = some y /\ nearP a b n i x (k + j) y := by
  induction t with
  | nil => intro k; simp [rowB]
  | cons y t ih =>
    intro k
    rw [rowB, Bool.or_eq_true, decide_eq_true_iff, ih]
    constructor
    · rintro (h | ⟨j, z, h1, h2⟩)
      · exact ⟨0, y, rfl, h⟩
      · exact ⟨j + 1, z, by simpa using h1, by rw [show k + (j + 1) = k + 1 + j by omega]; exact h2⟩
    · rintro ⟨j, z, h1, h2⟩
      cases j with
      | zero =>
        have : y = z := by simpa using h1
        subst this
        exact .inl h2
      | succ j => exact .inr ⟨j, z, by simpa using h1, by rw [show k + 1 + j = k + (j + 1) by omega]; exact h2⟩
theorem allB_iff (a b : ByteArray) (n : Int) (ws t : List ByteArray) : ∀ i : Nat, allB a b n ws t i = true ↔ ∃ (j : Nat) (x : ByteArray), t[j]? = some x /\ rowB a b n (i + j) x ws 0 = true := by
  induction t with
  | nil => intro i; simp [allB]
  | cons x t ih =>
    intro i
    rw [allB, Bool.or_eq_true, ih]
    constructor
    · rintro (h | ⟨j, z, h1, h2⟩)
      · exact ⟨0, x, rfl, h⟩
      · exact ⟨j + 1, z, by simpa using h1, by rw [show i + (j + 1) = i + 1 + j by omega]; exact h2⟩
    · rintro ⟨j, z, h1, h2⟩
      cases j with
      | zero =>
        have : x = z := by simpa using h1
        subst this
        exact .inl h2
      | succ j => exact .inr ⟨j, z, by simpa using h1, by rw [show i + 1 + j = i + (j + 1) by omega]; exact h2⟩
def nearW (a b : ByteArray) (n : Int) (ws : List ByteArray) : Bool := (placesFrom a ws 0 []).any fun x => (placesFrom b ws 0 []).any (nearQ n x)
theorem near_eq (a b : ByteArray) (n : Int) (h0 : 1 <= n) (h1 : n <= 20) (ws : List ByteArray) (hw : ws.length <= 2097152) : allB a b n ws ws 0 = nearW a b n ws := by
  rw [Bool.eq_iff_iff, allB_iff, nearW, List.any_eq_true]
  have lt : ∀ {j : Nat} {y : ByteArray}, ws[j]? = some y -> j < ws.length := fun h => (List.getElem?_eq_some_iff.1 h).1
  constructor
  · rintro ⟨i, x, hi, h⟩
    obtain ⟨k, y, hk, hx, hy, hne, h2, h3⟩ := (rowB_iff a b n (0 + i) x ws 0).1 h
    have hil := lt hi
    have hkl := lt hk
    refine ⟨(i : Int), (places_mem a ws 0 [] _).2 (.inr ⟨i, x, hi, hx, by omega⟩), ?_⟩
    rw [List.any_eq_true]
    refine ⟨(k : Int), (places_mem b ws 0 [] _).2 (.inr ⟨k, y, hk, hy, by omega⟩), ?_⟩
    rw [wrap_ok (by omega) (by omega)] at h2 h3
    unfold nearQ
    rw [Bool.and_eq_true, Bool.and_eq_true, bne_iff_ne, decide_eq_true_iff, decide_eq_true_iff, wrap_ok (by omega) (by omega), wrap_ok (by omega) (by omega)]
    exact ⟨by omega, by omega, by omega⟩
  · rintro ⟨p, hp, h⟩
    rw [List.any_eq_true] at h
    obtain ⟨q, hq, h⟩ := h
    rcases (places_mem a ws 0 [] _).1 hp with hp | ⟨i, x, hi, hx, rfl⟩
    · cases hp
    rcases (places_mem b ws 0 [] _).1 hq with hq | ⟨k, y, hk, hy, rfl⟩
    · cases hq
    have hil := lt hi
    have hkl := lt hk
    unfold nearQ at h
    rw [Bool.and_eq_true, Bool.and_eq_true, bne_iff_ne, decide_eq_true_iff, decide_eq_true_iff, wrap_ok (by omega) (by omega), wrap_ok (by omega) (by omega)] at h
    refine ⟨i, x, hi, (rowB_iff a b n (0 + i) x ws 0).2 ⟨k, y, hk, hx, hy, by omega, ?_, ?_⟩⟩
    · rw [wrap_ok (by omega) (by omega)]; omega
    · rw [wrap_ok (by omega) (by omega)]; omega
theorem specNear_l2 (a b : ByteArray) (n : Int) (out : List Int) (d : Int) (ws : List ByteArray) (i : Nat) (x : ByteArray) (docs : List ByteArray) (dl di : Int) (hw : ws.length <= 2097152) (r : List Int × Bool) :
    ∀ (t : List ByteArray) (k : Nat) (near : Bool), ws.drop k = t -> k <= ws.length -> Ev (fun f => spec_NearIn.l1 f a b n out d ws (near || rowB a b n i x t k) docs dl di ws ws.length (wrap64 ((i : Int) + 1))) r ->
      Ev (fun f => spec_NearIn.l2 f a b n out d ws near i x docs dl di ws ws.length i ws ws.length k) r := by
  intro t
  induction t with
  | nil =>
    intro k near h hk hr
    have := drop_nil h
    rw [rowB, Bool.or_false] at hr
    (refine Ev.up ?_; simp only [spec_NearIn.l2, decT])
    (repeat (first | with_reducible refine Ev.bindS ?_ | (with_reducible refine Ev.ifp ?_ ?_; (· exact cnd_)) | (with_reducible refine Ev.ifn ?_ ?_; (· exact cnd_))))
    exact hr
  | cons y t ih =>
    intro k near h hk hr
    obtain ⟨p1, p2, p3⟩ := drop_cons h
    rw [rowB] at hr
    have no : ¬ nearP a b n i x k y -> Ev (fun f => spec_NearIn.l2 f a b n out d ws near i x docs dl di ws ws.length i ws ws.length ((k + 1 : Nat) : Int)) r := fun h => by
      rw [decide_eq_false h, Bool.false_or] at hr
      exact ih (k + 1) near p3 (by omega) hr
    (refine Ev.up ?_; simp only [spec_NearIn.l2, decT])
    rw [rdOf_at p2, wrap_succ (i := k) (by omega)]
    by_cases h1 : x.toList = a.toList
    · by_cases h2 : y.toList = b.toList
      · by_cases h3 : (i : Int) = (k : Int)
        · (repeat (first | with_reducible refine Ev.bindS ?_ | (with_reducible refine Ev.ifp ?_ ?_; (· exact cnd_)) | (with_reducible refine Ev.ifn ?_ ?_; (· exact cnd_))))
          exact no (fun h => h.2.2.1 h3)
        · by_cases h4 : wrap64 ((i : Int) - (k : Int)) <= n
          · by_cases h5 : wrap64 ((k : Int) - (i : Int)) <= n
            · (repeat (first | with_reducible refine Ev.bindS ?_ | (with_reducible refine Ev.ifp ?_ ?_; (· exact cnd_)) | (with_reducible refine Ev.ifn ?_ ?_; (· exact cnd_))))
              rw [decide_eq_true ⟨h1, h2, h3, h4, h5⟩, Bool.true_or, Bool.or_true] at hr
              exact ih (k + 1) true p3 (by omega) hr
            · (repeat (first | with_reducible refine Ev.bindS ?_ | (with_reducible refine Ev.ifp ?_ ?_; (· exact cnd_)) | (with_reducible refine Ev.ifn ?_ ?_; (· exact cnd_))))
              exact no (fun h => h5 h.2.2.2.2)
          · (repeat (first | with_reducible refine Ev.bindS ?_ | (with_reducible refine Ev.ifp ?_ ?_; (· exact cnd_)) | (with_reducible refine Ev.ifn ?_ ?_; (· exact cnd_))))
            exact no (fun h => h4 h.2.2.2.1)
      · (repeat (first | with_reducible refine Ev.bindS ?_ | (with_reducible refine Ev.ifp ?_ ?_; (· exact cnd_)) | (with_reducible refine Ev.ifn ?_ ?_; (· exact cnd_))))
        exact no (fun h => h2 h.2.1)
    · (repeat (first | with_reducible refine Ev.bindS ?_ | (with_reducible refine Ev.ifp ?_ ?_; (· exact cnd_)) | (with_reducible refine Ev.ifn ?_ ?_; (· exact cnd_))))
      exact no (fun h => h1 h.1)
theorem specNear_l1 (a b : ByteArray) (n : Int) (out : List Int) (d : Int) (ws : List ByteArray) (docs : List ByteArray) (dl di : Int) (hw : ws.length <= 2097152) (ho : out.length < 17592186044416) (r : List Int × Bool) :
    ∀ (t : List ByteArray) (i : Nat) (near : Bool), ws.drop i = t -> i <= ws.length ->
      Ev (fun f => spec_NearIn.l0 f a b n (if (near || allB a b n ws t i) = true then out ++ [d] else out) docs dl (wrap64 (di + 1))) r ->
      Ev (fun f => spec_NearIn.l1 f a b n out d ws near docs dl di ws ws.length i) r := by
  intro t
  induction t with
  | nil =>
    intro i near h hi hr
    have := drop_nil h
    rw [allB, Bool.or_false] at hr
    (refine Ev.up ?_; simp only [spec_NearIn.l1, decT])
    cases near with
    | true =>
      rw [if_pos rfl] at hr
      (repeat (first | with_reducible refine Ev.bindS ?_ | (with_reducible refine Ev.ifp ?_ ?_; (· exact cnd_)) | (with_reducible refine Ev.ifn ?_ ?_; (· exact cnd_))))
      exact hr
    | false =>
      rw [if_neg (by simp)] at hr
      (repeat (first | with_reducible refine Ev.bindS ?_ | (with_reducible refine Ev.ifp ?_ ?_; (· exact cnd_)) | (with_reducible refine Ev.ifn ?_ ?_; (· exact cnd_))))
      exact hr
  | cons x t ih =>
    intro i near h hi hr
    obtain ⟨p1, p2, p3⟩ := drop_cons h
    rw [allB, <- Bool.or_assoc] at hr
    (refine Ev.up ?_; simp only [spec_NearIn.l1, decT])
    rw [rdOf_at p2]
    (repeat (first | with_reducible refine Ev.bindS ?_ | (with_reducible refine Ev.ifp ?_ ?_; (· exact cnd_)) | (with_reducible refine Ev.ifn ?_ ?_; (· exact cnd_))))
    refine specNear_l2 a b n out d ws i x docs dl di hw r ws 0 near rfl (by omega) ?_
    rw [wrap_succ (i := i) (by omega)]
    exact ih (i + 1) _ p3 (by omega) hr
def nearFrom (a b : ByteArray) (n : Int) : List ByteArray -> Nat -> List Int -> List Int
  | [], _, acc => acc
  | s :: t, i, acc => nearFrom a b n t (i + 1) (if nearW a b n (wordsOf s) = true then acc ++ [(i : Int)] else acc)
theorem nearFrom_len (a b : ByteArray) (n : Int) (t : List ByteArray) : ∀ (i : Nat) (acc : List Int), (nearFrom a b n t i acc).length <= acc.length + t.length := by
  induction t with
  | nil => intro i acc; simp [nearFrom]
  | cons s t ih =>
    intro i acc
    rw [nearFrom]
    refine Nat.le_trans (ih _ _) ?_
    split
    · simp only [List.length_append, List.length_cons, List.length_nil]; omega
    · simp only [List.length_cons]; omega
theorem specNear_l0 (a b : ByteArray) (n : Int) (h0 : 1 <= n) (h1 : n <= 20) (l : List ByteArray) (hl : Small l) :
    ∀ (t : List ByteArray) (i : Nat) (acc : List Int), l.drop i = t -> i <= l.length -> acc.length <= i -> Ev (fun k => spec_NearIn.l0 k a b n acc l l.length i) (nearFrom a b n t i acc, true) := by
  have hl1 := hl.1
  intro t
  induction t with
  | nil =>
    intro i acc h hi ha
    have := drop_nil h
    (refine Ev.up ?_; simp only [spec_NearIn.l0, decT])
    (repeat (first | with_reducible refine Ev.bindS ?_ | (with_reducible refine Ev.ifp ?_ ?_; (· exact cnd_)) | (with_reducible refine Ev.ifn ?_ ?_; (· exact cnd_))))
    exact Ev.val rfl
  | cons s t ih =>
    intro i acc h hi ha
    obtain ⟨p1, p2, p3⟩ := drop_cons h
    have hs := hl.2 s (List.mem_of_getElem? p2)
    have hw := words_len (nm s) eS []
    have hn := nm_length s
    simp only [List.length_nil] at hw
    have hwl : (wordsOf s).length <= 2097152 := by rw [wordsOf]; omega
    (refine Ev.up ?_; simp only [spec_NearIn.l0, decT])
    rw [rdOf_at p2]
    (repeat (first | with_reducible refine Ev.bindS ?_ | (with_reducible refine Ev.ifp ?_ ?_; (· exact cnd_)) | (with_reducible refine Ev.ifn ?_ ?_; (· exact cnd_))))
    refine Ev.bind (specWords_ev s hs) ?_
    refine specNear_l1 a b n acc i (wordsOf s) l l.length i hwl (by omega) _ (wordsOf s) 0 false rfl (by omega) ?_
    rw [Bool.false_or, near_eq a b n h0 h1 _ hwl, wrap_succ (i := i) (by omega)]
    exact ih (i + 1) _ p3 (by omega) (by split <;> (try simp only [List.length_append, List.length_cons, List.length_nil]) <;> omega)
theorem implNear_l0 (a b : ByteArray) (n : Int) (l : List ByteArray) (hl : Small l) :
    ∀ (t : List ByteArray) (i : Nat) (acc : List Int), l.drop i = t -> i <= l.length -> acc.length <= i -> Ev (fun k => impl_NearIn.l0 k a b n acc l l.length i) (nearFrom a b n t i acc, true) := by
  have hl1 := hl.1
  intro t
  induction t with
  | nil =>
    intro i acc h hi ha
    have := drop_nil h
    (refine Ev.up ?_; simp only [impl_NearIn.l0, decT])
    (repeat (first | with_reducible refine Ev.bindS ?_ | (with_reducible refine Ev.ifp ?_ ?_; (· exact cnd_)) | (with_reducible refine Ev.ifn ?_ ?_; (· exact cnd_))))
    exact Ev.val rfl
  | cons s t ih =>
    intro i acc h hi ha
    obtain ⟨p1, p2, p3⟩ := drop_cons h
    have hs := hl.2 s (List.mem_of_getElem? p2)
    have hw := words_len (nm s) eS []
    have hn := nm_length s
    simp only [List.length_nil] at hw
    have hwl : (wordsOf s).length <= 2097152 := by rw [wordsOf]; omega
    have ih := fun acc' => ih (i + 1) acc' p3 (by omega)
    (refine Ev.up ?_; simp only [impl_NearIn.l0, decT])
    rw [rdOf_at p2, wrap_succ (i := i) (by omega)]
    (repeat (first | with_reducible refine Ev.bindS ?_ | (with_reducible refine Ev.ifp ?_ ?_; (· exact cnd_)) | (with_reducible refine Ev.ifn ?_ ?_; (· exact cnd_))))
    refine Ev.bind (implWords_ev s hs) (Ev.bind (implPlaces_ev b (wordsOf s) hwl) (Ev.bind (implPlaces_ev a (wordsOf s) hwl) ?_))
    rw [nearFrom]
    cases h : nearW a b n (wordsOf s) with
    | true =>
      have h' : ((placesFrom a (wordsOf s) 0 []).any fun x => (placesFrom b (wordsOf s) 0 []).any (nearQ n x)) = true := h
      refine Ev.ifp h' ?_
      rw [if_pos rfl]
      (repeat (first | with_reducible refine Ev.bindS ?_ | (with_reducible refine Ev.ifp ?_ ?_; (· exact cnd_)) | (with_reducible refine Ev.ifn ?_ ?_; (· exact cnd_))))
      exact ih _ (by simp; omega)
    | false =>
      have h' : ((placesFrom a (wordsOf s) 0 []).any fun x => (placesFrom b (wordsOf s) 0 []).any (nearQ n x)) = false := h
      refine Ev.ifn (by rw [h']; simp) ?_
      rw [if_neg (by simp)]
      exact ih _ (by omega)
def nearRes (l : List ByteArray) (a b : ByteArray) (n : Int) : List Int × Bool := if docsOk l = true /\ wordOk a = true /\ wordOk b = true /\ 1 <= n /\ n <= 20 then (nearFrom a b n l 0 [], true) else ([], false)
theorem nearRes_len (l : List ByteArray) (a b : ByteArray) (n : Int) (hl : Small l) : (nearRes l a b n).1.length <= 1048576 := by
  unfold nearRes
  split
  · have := nearFrom_len a b n l 0 []
    have := hl.1
    simp only [List.length_nil] at *
    omega
  · simp
theorem specNear_ev (l : List ByteArray) (hl : Small l) (a b : ByteArray) (ha : a.size <= 1048576) (hb : b.size <= 1048576) (n : Int) : Ev (fun k => spec_NearIn.f k l a b n) (nearRes l a b n) := by
  have bad : ¬ (docsOk l = true /\ wordOk a = true /\ wordOk b = true /\ 1 <= n /\ n <= 20) -> Ev (fun k => spec_NearIn.j0 k l a b n true) (nearRes l a b n) := fun h => by
    rw [nearRes, if_neg h]
    (refine Ev.up ?_; simp only [spec_NearIn.j0, decT])
    (repeat (first | with_reducible refine Ev.bindS ?_ | (with_reducible refine Ev.ifp ?_ ?_; (· exact cnd_)) | (with_reducible refine Ev.ifn ?_ ?_; (· exact cnd_))))
    exact Ev.val rfl
  simp only [spec_NearIn.f]
  refine Ev.bind (specDocs_ev l hl) ?_
  cases h1 : docsOk l with
  | false =>
    (repeat (first | with_reducible refine Ev.bindS ?_ | (with_reducible refine Ev.ifp ?_ ?_; (· exact cnd_)) | (with_reducible refine Ev.ifn ?_ ?_; (· exact cnd_))))
    exact bad (fun h => by rw [h1] at h; cases h.1)
  | true =>
    (repeat (first | with_reducible refine Ev.bindS ?_ | (with_reducible refine Ev.ifp ?_ ?_; (· exact cnd_)) | (with_reducible refine Ev.ifn ?_ ?_; (· exact cnd_))))
    refine Ev.bind (specWord_ev a ha) ?_
    cases h2 : wordOk a with
    | false =>
      (repeat (first | with_reducible refine Ev.bindS ?_ | (with_reducible refine Ev.ifp ?_ ?_; (· exact cnd_)) | (with_reducible refine Ev.ifn ?_ ?_; (· exact cnd_))))
      exact bad (fun h => by rw [h2] at h; cases h.2.1)
    | true =>
      (repeat (first | with_reducible refine Ev.bindS ?_ | (with_reducible refine Ev.ifp ?_ ?_; (· exact cnd_)) | (with_reducible refine Ev.ifn ?_ ?_; (· exact cnd_))))
      refine Ev.bind (specWord_ev b hb) ?_
      cases h3 : wordOk b with
      | false =>
        (repeat (first | with_reducible refine Ev.bindS ?_ | (with_reducible refine Ev.ifp ?_ ?_; (· exact cnd_)) | (with_reducible refine Ev.ifn ?_ ?_; (· exact cnd_))))
        exact bad (fun h => by rw [h3] at h; cases h.2.2.1)
      | true =>
        (repeat (first | with_reducible refine Ev.bindS ?_ | (with_reducible refine Ev.ifp ?_ ?_; (· exact cnd_)) | (with_reducible refine Ev.ifn ?_ ?_; (· exact cnd_))))
        rw [specIn_eq]
        by_cases h4 : 1 <= n /\ n <= 20
        · rw [decide_eq_true h4]
          (repeat (first | with_reducible refine Ev.bindS ?_ | (with_reducible refine Ev.ifp ?_ ?_; (· exact cnd_)) | (with_reducible refine Ev.ifn ?_ ?_; (· exact cnd_))))
          rw [nearRes, if_pos ⟨h1, h2, h3, h4⟩, Bool.not_true]
          (refine Ev.up ?_; simp only [spec_NearIn.j0, decT])
          (repeat (first | with_reducible refine Ev.bindS ?_ | (with_reducible refine Ev.ifp ?_ ?_; (· exact cnd_)) | (with_reducible refine Ev.ifn ?_ ?_; (· exact cnd_))))
          exact specNear_l0 a b n h4.1 h4.2 l hl l 0 [] rfl (by omega) (by simp)
        · rw [decide_eq_false h4]
          (repeat (first | with_reducible refine Ev.bindS ?_ | (with_reducible refine Ev.ifp ?_ ?_; (· exact cnd_)) | (with_reducible refine Ev.ifn ?_ ?_; (· exact cnd_))))
          rw [Bool.not_false]
          exact bad (fun h => h4 h.2.2.2)
theorem implNear_ev (l : List ByteArray) (hl : Small l) (a b : ByteArray) (ha : a.size <= 1048576) (hb : b.size <= 1048576) (n : Int) : Ev (fun k => impl_NearIn.f k l a b n) (nearRes l a b n) := by
  have bad : ¬ (docsOk l = true /\ wordOk a = true /\ wordOk b = true /\ 1 <= n /\ n <= 20) -> Ev (fun _ : Nat => some (([], false) : List Int × Bool)) (nearRes l a b n) := fun h => by
    rw [nearRes, if_neg h]
    exact Ev.val rfl
  simp only [impl_NearIn.f]
  refine Ev.bind (implDocs_ev l hl) ?_
  cases h1 : docsOk l with
  | false =>
    (repeat (first | with_reducible refine Ev.bindS ?_ | (with_reducible refine Ev.ifp ?_ ?_; (· exact cnd_)) | (with_reducible refine Ev.ifn ?_ ?_; (· exact cnd_))))
    exact bad (fun h => by rw [h1] at h; cases h.1)
  | true =>
    (repeat (first | with_reducible refine Ev.bindS ?_ | (with_reducible refine Ev.ifp ?_ ?_; (· exact cnd_)) | (with_reducible refine Ev.ifn ?_ ?_; (· exact cnd_))))
    refine Ev.bind (implWord_ev a ha) ?_
    cases h2 : wordOk a with
    | false =>
      (repeat (first | with_reducible refine Ev.bindS ?_ | (with_reducible refine Ev.ifp ?_ ?_; (· exact cnd_)) | (with_reducible refine Ev.ifn ?_ ?_; (· exact cnd_))))
      exact bad (fun h => by rw [h2] at h; cases h.2.1)
    | true =>
      (repeat (first | with_reducible refine Ev.bindS ?_ | (with_reducible refine Ev.ifp ?_ ?_; (· exact cnd_)) | (with_reducible refine Ev.ifn ?_ ?_; (· exact cnd_))))
      refine Ev.bind (implWord_ev b hb) ?_
      cases h3 : wordOk b with
      | false =>
        (repeat (first | with_reducible refine Ev.bindS ?_ | (with_reducible refine Ev.ifp ?_ ?_; (· exact cnd_)) | (with_reducible refine Ev.ifn ?_ ?_; (· exact cnd_))))
        exact bad (fun h => by rw [h3] at h; cases h.2.2.1)
      | true =>
        (repeat (first | with_reducible refine Ev.bindS ?_ | (with_reducible refine Ev.ifp ?_ ?_; (· exact cnd_)) | (with_reducible refine Ev.ifn ?_ ?_; (· exact cnd_))))
        by_cases h4 : 1 <= n /\ n <= 20
        · refine Ev.ifp h4 ?_
          rw [nearRes, if_pos ⟨h1, h2, h3, h4⟩]
          exact implNear_l0 a b n l hl l 0 [] rfl (by omega) (by simp)
        · refine Ev.ifn h4 ?_
          exact bad (fun h => h4 h.2.2.2)
theorem sameInts_ev (l : List Int) (hl : l.length <= 1048576) : Ev (fun k => laws_sameInts.f k l l) true := by
  have h := all_ev (fun k i => laws_sameInts.l0 k l l l.length i) l.length true ?_ ?_
  · simp only [laws_sameInts.f]
    (repeat (first | with_reducible refine Ev.bindS ?_ | (with_reducible refine Ev.ifp ?_ ?_; (· exact cnd_)) | (with_reducible refine Ev.ifn ?_ ?_; (· exact cnd_))))
    exact h
  · intro k
    simp only [laws_sameInts.l0]
    rw [if_neg (by omega)]
  · intro i hi
    refine ⟨0, fun k _ => ?_⟩
    simp only [laws_sameInts.l0]
    rw [if_pos (by omega), if_pos (by omega), if_pos (by omega), if_pos (by omega), if_pos trivial, wrap_succ (by omega)]
theorem sameTexts_ev (l : List ByteArray) (hl : l.length <= 1048576) : Ev (fun k => laws_sameTexts.f k l l) true := by
  have h := all_ev (fun k i => laws_sameTexts.l0 k l l l.length i) l.length true ?_ ?_
  · simp only [laws_sameTexts.f]
    (repeat (first | with_reducible refine Ev.bindS ?_ | (with_reducible refine Ev.ifp ?_ ?_; (· exact cnd_)) | (with_reducible refine Ev.ifn ?_ ?_; (· exact cnd_))))
    exact h
  · intro k
    simp only [laws_sameTexts.l0]
    rw [if_neg (by omega)]
  · intro i hi
    refine ⟨0, fun k _ => ?_⟩
    simp only [laws_sameTexts.l0]
    rw [if_pos (by omega), if_pos (by omega), if_pos (by omega), if_pos (by omega), if_pos trivial, wrap_succ (by omega)]
theorem samePosts_ev (l : List S57) (hl : Fit l) : Ev (fun k => laws_samePosts.f k l l) true := by
  have hl1 := hl.1
  have h := all_ev (fun k i => laws_samePosts.l0 k l l l.length i) l.length true ?_ ?_
  · simp only [laws_samePosts.f]
    (repeat (first | with_reducible refine Ev.bindS ?_ | (with_reducible refine Ev.ifp ?_ ?_; (· exact cnd_)) | (with_reducible refine Ev.ifn ?_ ?_; (· exact cnd_))))
    exact h
  · intro k
    simp only [laws_samePosts.l0]
    rw [if_neg (by omega)]
  · intro i hi
    have hx : l[i]? = some l[i] := List.getElem?_eq_getElem hi
    obtain ⟨K, hK⟩ := sameInts_ev (l[i]).f1 (hl.2 _ (List.getElem_mem hi))
    refine ⟨K, fun k hk => ?_⟩
    have hk := hK k hk
    dsimp only at hk
    simp only [laws_samePosts.l0]
    rw [if_pos (by omega), if_pos (by omega), if_pos (by omega), if_pos (by omega), if_pos trivial, rd57_at hx, hk, Option.bind_some, if_pos rfl, wrap_succ (by omega)]
theorem posts_mem (w : ByteArray) (t : List ByteArray) : ∀ (i : Nat) (acc : List S57) (p : S57), p ∈ postsFrom w t i acc -> p ∈ acc ∨ ∃ (j : Nat) (s : ByteArray), t[j]? = some s /\ p = ⟨((i + j : Nat) : Int), places w s⟩ := by
  induction t with
  | nil => intro i acc p h; exact .inl h
  | cons s t ih =>
    intro i acc p h
    simp only [postsFrom] at h
    split at h
    · rcases ih (i + 1) _ p h with h | ⟨j, s', h1, h2⟩
      · rcases List.mem_append.1 h with h | h
        · exact .inl h
        · exact .inr ⟨0, s, rfl, List.mem_singleton.1 h⟩
      · exact .inr ⟨j + 1, s', by simpa using h1, by rw [h2, show i + 1 + j = i + (j + 1) by omega]⟩
    · rcases ih (i + 1) _ p h with h | ⟨j, s', h1, h2⟩
      · exact .inl h
      · exact .inr ⟨j + 1, s', by simpa using h1, by rw [h2, show i + 1 + j = i + (j + 1) by omega]⟩
def Stands (docs ws : List ByteArray) (i : Nat) (p : S57) : Prop :=
  ∃ (d : Nat) (s : ByteArray), docs[d]? = some s /\ p.f0 = (d : Int) /\ ∀ x ∈ p.f1, ∃ m : Nat, x = (m : Int) /\ ∀ (j : Nat) (w : ByteArray), j < i -> ws[j]? = some w -> (wordsOf s)[m + j]? = some w
theorem place_at {w s : ByteArray} {x : Int} (h : x ∈ places w s) : ∃ m : Nat, x = (m : Int) /\ (wordsOf s)[m]? = some w := by
  rcases (places_mem w (wordsOf s) 0 [] x).1 h with h | ⟨j, y, h1, h2, h3⟩
  · cases h
  · have e : y = w := toList_inj h2
    subst e
    exact ⟨j, by rw [h3]; omega, h1⟩
theorem stands_first (docs ws : List ByteArray) (w : ByteArray) (hw : ws[0]? = some w) : ∀ p ∈ postsFrom w docs 0 [], Stands docs ws 1 p := by
  intro p hp
  rcases posts_mem w docs 0 [] p hp with h | ⟨d, s, h1, h2⟩
  · cases h
  · refine ⟨d, s, h1, by rw [h2]; show ((0 + d : Nat) : Int) = _; omega, fun x hx => ?_⟩
    rw [h2] at hx
    obtain ⟨m, e1, e2⟩ := place_at hx
    refine ⟨m, e1, fun j w' hj hw' => ?_⟩
    have : j = 0 := by omega
    subst this
    rw [hw] at hw'
    injection hw' with hw'
    subst hw'
    exact e2
theorem stands_more (docs ws : List ByteArray) (hs : Small docs) (i : Nat) (w : ByteArray) (hw : ws[i]? = some w) (h0 : 0 < i) (hi : i <= 1048576) (out : List S57) (ho : ∀ p ∈ out, Stands docs ws i p) :
    ∀ p ∈ meetAll (i : Int) (postsFrom w docs 0 []) out, Stands docs ws (i + 1) p := by
  intro p' hp'
  obtain ⟨p, hp, hp'⟩ := List.mem_flatMap.1 hp'
  obtain ⟨d, s, e1, e2, e3⟩ := ho p hp
  have hsz := hs.2 s (List.mem_of_getElem? e1)
  have hwl : (wordsOf s).length <= 2097152 := by
    have h1 := words_len (nm s) eS []
    have h2 := nm_length s
    simp only [List.length_nil] at h1
    rw [wordsOf]; omega
  unfold meetOne at hp'
  split at hp'
  · cases hp'
  · rename_i q hq
    split at hp'
    · cases hp'
    · rw [List.mem_singleton.1 hp']
      have hqm : q ∈ postsFrom w docs 0 [] /\ q.f0 = p.f0 := by
        clear hp' hp e3 e2 e1 ho
        revert hq
        generalize postsFrom w docs 0 [] = b
        intro hq
        induction b with
        | nil => cases hq
        | cons x t ih =>
          rw [other] at hq
          split at hq
          · rename_i hx
            injection hq with hq
            subst hq
            exact ⟨List.mem_cons_self, hx⟩
          · obtain ⟨h1, h2⟩ := ih hq
            exact ⟨List.mem_cons_of_mem _ h1, h2⟩
      rcases posts_mem w docs 0 [] q hqm.1 with h | ⟨d', s', g1, g2⟩
      · cases h
      · have hd : d' = d := by
          have h1 := hqm.2
          rw [g2, e2] at h1
          have h1 : ((0 + d' : Nat) : Int) = (d : Int) := h1
          omega
        subst hd
        rw [e1] at g1
        injection g1 with g1
        subst g1
        refine ⟨d', s, e1, e2, fun x hx => ?_⟩
        obtain ⟨hx1, hx2⟩ := List.mem_filter.1 hx
        obtain ⟨m, m1, m2⟩ := e3 x hx1
        refine ⟨m, m1, fun j w' hj hw' => ?_⟩
        by_cases hji : j < i
        · exact m2 j w' hji hw'
        · have : j = i := by omega
          subst this
          rw [hw] at hw'
          injection hw' with hw'
          subst hw'
          have hmlt : m < (wordsOf s).length := by
            have hw0 : ∃ w0, ws[0]? = some w0 := by
              have := (List.getElem?_eq_some_iff.1 hw).1
              exact ⟨_, List.getElem?_eq_getElem (by omega)⟩
            obtain ⟨w0, hw0⟩ := hw0
            have := (List.getElem?_eq_some_iff.1 (m2 0 w0 h0 hw0)).1
            omega
          rw [decide_eq_true_iff, g2, m1, wrap_ok (by omega) (by omega)] at hx2
          obtain ⟨m', q1, q2⟩ := place_at hx2
          have : m' = m + j := by omega
          rw [<- this]
          exact q2
theorem phrase_stands (docs ws : List ByteArray) (hs : Small docs) (hw : ws.length <= 4) : ∀ (t : List ByteArray) (i : Nat) (out : List S57), ws.drop i = t -> i <= ws.length -> 0 < i -> (∀ p ∈ out, Stands docs ws i p) ->
    ∀ p ∈ phraseFrom docs t i out, Stands docs ws ws.length p := by
  intro t
  induction t with
  | nil =>
    intro i out h hi h0 ho p hp
    have h1 := drop_len h hi
    have e : i = ws.length := by simpa using h1
    rw [<- e]
    exact ho p hp
  | cons w t ih =>
    intro i out h hi h0 ho
    obtain ⟨p1, p2, p3⟩ := drop_cons h
    exact ih (i + 1) _ p3 (by omega) (by omega) (stands_more docs ws hs i w p2 h0 (by omega) out ho)
theorem phraseFrom_len (docs : List ByteArray) (t : List ByteArray) : ∀ (i : Nat) (out : List S57), (phraseFrom docs t i out).length <= out.length := by
  induction t with
  | nil => intro i out; exact Nat.le_refl _
  | cons w t ih => intro i out; exact Nat.le_trans (ih (i + 1) _) (meetAll_len _ _ _)
theorem nearQ_swap (n x q : Int) (h0 : 1 <= n) (h1 : n <= 20) (hx : 0 <= x /\ x < 4194304) (hq : 0 <= q /\ q < 4194304) : nearQ n x q = nearQ n q x := by
  unfold nearQ
  rw [wrap_ok (n := -n) (by omega) (by omega), wrap_ok (n := x - q) (by omega) (by omega), wrap_ok (n := q - x) (by omega) (by omega), Bool.eq_iff_iff]
  simp only [Bool.and_eq_true, bne_iff_ne, decide_eq_true_eq]
  omega
theorem nearW_swap (a b : ByteArray) (n : Int) (h0 : 1 <= n) (h1 : n <= 20) (ws : List ByteArray) (hw : ws.length <= 2097152) : nearW a b n ws = nearW b a n ws := by
  have rng : ∀ (w : ByteArray) (x : Int), x ∈ placesFrom w ws 0 [] -> 0 <= x /\ x < 4194304 := by
    intro w x hx
    rcases (places_mem w ws 0 [] x).1 hx with hx | ⟨j, y, h1, h2, h3⟩
    · cases hx
    · have := (List.getElem?_eq_some_iff.1 h1).1
      omega
  have half : ∀ a b : ByteArray, nearW a b n ws = true -> nearW b a n ws = true := by
    intro a b h
    unfold nearW at h ⊢
    rw [List.any_eq_true] at h ⊢
    obtain ⟨x, hx, h⟩ := h
    rw [List.any_eq_true] at h
    obtain ⟨q, hq, h⟩ := h
    refine ⟨q, hq, ?_⟩
    rw [List.any_eq_true]
    exact ⟨x, hx, by rw [<- nearQ_swap n x q h0 h1 (rng a x hx) (rng b q hq)]; exact h⟩
  rw [Bool.eq_iff_iff]
  exact ⟨half a b, half b a⟩
theorem nearFrom_swap (a b : ByteArray) (n : Int) (h0 : 1 <= n) (h1 : n <= 20) (t : List ByteArray) (ht : ∀ s ∈ t, s.size <= 1048576) : ∀ (i : Nat) (acc : List Int), nearFrom a b n t i acc = nearFrom b a n t i acc := by
  induction t with
  | nil => intro i acc; rfl
  | cons s t ih =>
    intro i acc
    have hs := ht s List.mem_cons_self
    have hw := words_len (nm s) eS []
    have hn := nm_length s
    simp only [List.length_nil] at hw
    rw [nearFrom, nearFrom, nearW_swap a b n h0 h1 (wordsOf s) (by rw [wordsOf]; omega)]
    exact ih (fun s' h' => ht s' (List.mem_cons_of_mem _ h')) _ _
theorem nearRes_swap (docs : List ByteArray) (a b : ByteArray) (n : Int) (hs : Small docs) : nearRes docs a b n = nearRes docs b a n := by
  unfold nearRes
  by_cases h : docsOk docs = true /\ wordOk a = true /\ wordOk b = true /\ 1 <= n /\ n <= 20
  · rw [if_pos h, if_pos ⟨h.1, h.2.2.1, h.2.1, h.2.2.2⟩, nearFrom_swap a b n h.2.2.2.1 h.2.2.2.2 docs hs.2]
  · rw [if_neg h, if_neg (fun h' => h ⟨h'.1, h'.2.2.1, h'.2.1, h'.2.2.2⟩)]
theorem u64_wrap (n : Int) : IntKind.u64.wrap n = n % 18446744073709551616 := by simp [IntKind.wrap, IntKind.bits, IntKind.signed]
theorem mask255 (y : Int) (h0 : 0 <= y) (h1 : y < 18446744073709551616) : 0 <= Go.bits .and .u64 y 255 /\ Go.bits .and .u64 y 255 <= 255 := by
  have e : Go.bits .and .u64 y (2 ^ 8 - 1) = y % 2 ^ 8 := bits_mask .u64 64 (by decide) (fun n h0 h1 => by rw [u64_wrap]; omega) 8 (by decide) y h0 h1
  have e2 : ((2 : Int) ^ 8 - 1) = 255 := by decide
  rw [e2] at e
  rw [e]
  omega
def Code (c : List Int) : Prop := ∀ y ∈ c, 0 <= y /\ y <= 255
theorem next_some (c : List Int) (hc : Code c) (a s : Int) (h0 : 0 <= a) (h1 : a <= 2305843009213693952) : ∃ x s' : Int, spec_l1Cur_next.f c a s = some (x, a + 1, s') /\ 0 <= x /\ x <= 255 := by
  have ea : wrap64 (a + 1) = a + 1 := wrap_ok (by omega) (by omega)
  have hm : ∀ z : Int, 0 <= wrap64 (Go.bits .and .u64 (IntKind.u64.wrap z / 1099511627776) 255) /\ wrap64 (Go.bits .and .u64 (IntKind.u64.wrap z / 1099511627776) 255) <= 255 := by
    intro z
    have h := mask255 (IntKind.u64.wrap z / 1099511627776) (by rw [u64_wrap]; omega) (by rw [u64_wrap]; omega)
    rw [wrap_ok (by omega) (by omega)]
    exact h
  have hr : a < (c.length : Int) -> 0 <= wrap64 (rd c a) /\ wrap64 (rd c a) <= 255 := by
    intro h
    have hx : c[a.toNat]? = some c[a.toNat] := List.getElem?_eq_getElem (by omega)
    have e : rd c a = c[a.toNat] := by
      have := rd_at hx
      rw [show ((a.toNat : Nat) : Int) = a by omega] at this
      exact this
    have hy := hc _ (List.mem_of_getElem? hx)
    rw [e, wrap_ok (by omega) (by omega)]
    exact hy
  simp only [spec_l1Cur_next.f, ea]
  by_cases h : a < (c.length : Int)
  · rw [if_pos h, if_pos h0]
    by_cases h2 : a + 1 <= (c.length : Int)
    · rw [if_pos h2]
      exact ⟨_, _, rfl, (hr h).1, (hr h).2⟩
    · rw [if_neg h2]
      exact ⟨_, _, rfl, (hm _).1, (hm _).2⟩
  · rw [if_neg h]
    by_cases h2 : a + 1 <= (c.length : Int)
    · rw [if_pos h2]
      exact ⟨_, _, rfl, by omega, by omega⟩
    · rw [if_neg h2]
      exact ⟨_, _, rfl, (hm _).1, (hm _).2⟩
theorem tmod_range (x n : Int) (h0 : 0 <= x) (h1 : 0 < n) : 0 <= Int.tmod x n /\ Int.tmod x n < n := by
  rw [Int.tmod_eq_emod_of_nonneg h0]
  exact ⟨Int.emod_nonneg _ (by omega), Int.emod_lt_of_pos _ h1⟩
theorem pick_some (c : List Int) (hc : Code c) (a s : Int) (h0 : 0 <= a) (h1 : a <= 1152921504606846976) (n : Int) :
    ∃ x a' s' : Int, spec_l1Cur_pick.f c a s n = some (x, a', s') /\ a <= a' /\ a' <= a + 2 /\ 0 <= x /\ (0 < n -> x < n) /\ (n <= 0 -> x = 0) := by
  simp only [spec_l1Cur_pick.f]
  by_cases hn : n <= 1
  · rw [if_pos hn]
    exact ⟨0, a, s, rfl, by omega, by omega, by omega, fun h => h, fun _ => rfl⟩
  · obtain ⟨x, s1, e1, b1, b2⟩ := next_some c hc a s h0 (by omega)
    rw [if_neg hn, e1, Option.bind_some]
    by_cases h2 : n > 200
    · obtain ⟨y, s2, e2, c1, c2⟩ := next_some c hc (a + 1) s1 (by omega) (by omega)
      have ew : wrap64 (wrap64 (x * 256) + y) = x * 256 + y := by rw [wrap_ok (n := x * 256) (by omega) (by omega), wrap_ok (by omega) (by omega)]
      have hr := tmod_range (x * 256 + y) n (by omega) (by omega)
      simp only [if_pos h2, e2, Option.bind_some, if_neg (show ¬ n = 0 by omega), ew]
      exact ⟨_, _, _, rfl, by omega, by omega, hr.1, fun _ => hr.2, fun h => by omega⟩
    · have hr := tmod_range x n (by omega) (by omega)
      simp only [if_neg h2, if_neg (show ¬ n = 0 by omega)]
      exact ⟨_, _, _, rfl, by omega, by omega, hr.1, fun _ => hr.2, fun h => by omega⟩
end Go.Proofs.Ytcopakljdenolaa.Pure
namespace Go.Proofs.Ytcopakljdenolaa.Fn
theorem q42_0 {p0 p1 q : Prop} (h0 : p0) (h1 : p1) (h : p0 -> p1 -> q := by intro q0_ q1_; repeat (first | (with_reducible first | exact q0_ | apply below_alloc | apply pw_below_drewN | apply below_drew1 | refine below_set ?_ (IsS87.ge q1_)) | exact q0_)) : q := h h0 h1
def spec_DrawPostsOf.f (k : Nat) (l0 : List Int) : Option (List ByteArray × ByteArray) := (spec_l1Cur_docs.f k l0 0 0).bind fun bt851 => ((spec_l1Cur_word.f l0 bt851.2.1 bt851.2.2).bind fun bt856 => (some (bt851.1, bt856.1)))
theorem spec_DrawPostsOf.mono : ∀ a0 k, LeO (spec_DrawPostsOf.f k a0) (spec_DrawPostsOf.f (k + 1) a0) := by
 intro a0 k
 unfold spec_DrawPostsOf.f
 repeat' (with_reducible first | exact spec_l1Cur_docs.mono _ _ _ _ | exact LeO.refl _ | exact LeO.none _ | refine LeO.ite ?_ ?_ | refine LeO.bind ?_ (fun _ => ?_))
theorem spec_DrawPostsOf.calls (k : Nat) (A0 : Option Addr) (c0 : Nat) (l0 : List Int) (r1 : List ByteArray) (r2 : ByteArray) (w : World) (hr0 : Kd.C (Kd.int .u8) w A0 l0.length l0) (hc0 : l0.length <= c0) (h : spec_DrawPostsOf.f k l0 = some (r1, r2)) :
  Calls Try.prog 42 #[.slice A0 l0.length c0] w fun e w' => ∃ v0_ : Value, e = .returned (.tuple #[v0_, .string r2]) /\ Kd.R Kd.string 9 w' w.heap.size (fun _ => True) v0_ r1 /\ Below w.heap.size w w' := by
 have hu87 := Try.underlying87
 have HR0 := Aside0.mk hr0
 have HC0 := Aside0.mk hc0
 clear hr0 hc0
 have HB := Aside0.mk (Below.refl w.heap.size w)
 have H : ((spec_l1Cur_docs.f k l0 0 0).bind fun bt851 => ((spec_l1Cur_word.f l0 bt851.2.1 bt851.2.2).bind fun bt856 => (some (bt851.1, bt856.1)))) = some (r1, r2) := h
 clear h
 replace H := Option.bind_eq_some_iff.mp H
 obtain ⟨⟨t851, t854, t855⟩, A20, H⟩ := H
 replace H : ((spec_l1Cur_word.f l0 t854 t855).bind fun bt856 => (some (t851, bt856.1))) = some (r1, r2) := H
 have A2 := Aside0.mk A20
 clear A20
 replace H := Option.bind_eq_some_iff.mp H
 obtain ⟨⟨t856, t857, t858⟩, A30, H⟩ := H
 replace H : (some (t851, t856)) = some (r1, r2) := H
 have A3 := Aside0.mk A30
 clear A30
 simp only [Option.some.injEq, Prod.mk.injEq] at H
 obtain ⟨rfl, rfl⟩ := H
 go_enter Try.func42, Try.ntmps42
 go_wp2_with (first | ((with_reducible refine gate_dst (N := 7) rfl ?_); refine box_event ?hg (N := 7) ?hd (cs := #[.slice A0 l0.length c0, .int .i64 0, .int .u64 0]) (t := 87) ?hr ?_; (case hd => rfl); (case hg => rfl); (case hr => first | (go_simp; done) | (go_simp; rfl)); intro gb850 hg w4 hbox hb; have n0_ := Aside0.mk (bs_ HB.out hb); have n1_ := Aside0.mk ((⟨_, _, hbox, (by rw [hg]; exact (bw_ HB.out)), HR0.out⟩ : IsS87 w w4 gb850 l0 0 0)); have n2_ := Aside0.mk ((by rw [hg]; exact (bw_ HB.out) : w.heap.size <= gb850)); have n3_ := Aside0.mk ((by rw [hg]; exact (bw_ HB.out) : w.heap.size <= gb850)); clear HB; have HB := n0_; have HI850 := n1_; have GW850 := n2_; have GE850 := n3_; clear n0_ n1_ n2_ n3_; clear hb hbox hg) | ((with_reducible refine gate_callee (f := 79) rfl ?_); refine goesL_ (some 9) rfl rfl Try.func79 (by kernel_rfl) rfl #[.pointer (some ⟨gb850, 0, none⟩)] rfl (ag_) ?_; (with_reducible refine (spec_l1Cur_docs.calls k gb850 l0 0 0 t851 t854 t855 w _ ?side1 ?side2 A2.out).mono ?_); (case side1 => repeat (first | (with_reducible first | exact HI850.out | apply IsS87.alloc | apply IsS87.drewN | apply IsS87.drew | apply IsS87.set_1 | apply IsS87.set_2) | exact HI850.out)); (case side2 => exact q42_0 HB.out HI850.out); rintro e w5 ⟨v852, rfl, ho0, hi, hb, hk⟩; refine ⟨_, rfl, ?_⟩; have n0_ := Aside0.mk (Kd.R_lower ho0 (below_size (q42_0 HB.out HI850.out))); have n1_ := Aside0.mk (hb); have n2_ := Aside0.mk (hi); clear HB; clear HI850; have HO853 := n0_; have HB := n1_; have HI850 := n2_; clear n0_ n1_ n2_; (try clear hb); (try clear hb2); (try clear hk); (try clear hi); (try clear ho0)) | ((with_reducible refine gate_callee (f := 80) rfl ?_); refine goesL_ (some 11) rfl rfl Try.func80 (by kernel_rfl) rfl #[.pointer (some ⟨gb850, 0, none⟩)] rfl (ag_) ?_; (with_reducible refine (spec_l1Cur_word.calls gb850 l0 t854 t855 t856 t857 t858 w _ ?side1 ?side2 A3.out).mono ?_); (case side1 => repeat (first | (with_reducible first | exact HI850.out | apply IsS87.alloc | apply IsS87.drewN | apply IsS87.drew | apply IsS87.set_1 | apply IsS87.set_2) | exact HI850.out)); (case side2 => exact q42_0 HB.out HI850.out); rintro e w6 ⟨rfl, hi, hb, hk⟩; refine ⟨_, rfl, ?_⟩; have n0_ := Aside0.mk (Kd.R_mono (Kd.R_keep (IsS87.apart (show IsS87 w _ gb850 l0 t854 t855 from by repeat (first | (with_reducible first | exact HI850.out | apply IsS87.alloc | apply IsS87.drewN | apply IsS87.drew | apply IsS87.set_1 | apply IsS87.set_2) | exact HI850.out)) (rk_ HO853.out) (by decide)) hk (fun _ h => h.2)) (fun _ h => h.1)); have n1_ := Aside0.mk (hb); have n2_ := Aside0.mk (hi); clear HO853; clear HB; clear HI850; have HO853 := n0_; have HB := n1_; have HI850 := n2_; clear n0_ n1_ n2_; (try clear hb); (try clear hb2); (try clear hk); (try clear hi)))
 go_ret2
 exact ⟨_, ew_, by (with_reducible repeat (first | apply Kd.R_alloc | apply Kd.R_drewN | apply Kd.R_drew)); exact HO853.out, by repeat (first | (with_reducible first | exact HB.out | apply below_alloc | apply pw_below_drewN | apply below_drew1 | refine below_set ?_ (IsS87.ge HI850.out)) | exact HB.out)⟩
def spec_DrawWordsOf.f (k : Nat) (l0 : List Int) : Option (ByteArray) := (spec_l1Cur_doc.f k l0 0 0).bind fun bt862 => (some bt862.1)
theorem spec_DrawWordsOf.mono : ∀ a0 k, LeO (spec_DrawWordsOf.f k a0) (spec_DrawWordsOf.f (k + 1) a0) := by
 intro a0 k
 unfold spec_DrawWordsOf.f
 repeat' (with_reducible first | exact spec_l1Cur_doc.mono _ _ _ _ | exact LeO.refl _ | exact LeO.none _ | refine LeO.ite ?_ ?_ | refine LeO.bind ?_ (fun _ => ?_))
theorem spec_DrawWordsOf.calls (k : Nat) (A0 : Option Addr) (c0 : Nat) (l0 : List Int) (r : ByteArray) (w : World) (hr0 : Kd.C (Kd.int .u8) w A0 l0.length l0) (hc0 : l0.length <= c0) (h : spec_DrawWordsOf.f k l0 = some r) :
  Calls Try.prog 47 #[.slice A0 l0.length c0] w fun e w' => e = .returned (.string r) /\ Below w.heap.size w w' := by
 have hu87 := Try.underlying87
 have HR0 := Aside0.mk hr0
 have HC0 := Aside0.mk hc0
 clear hr0 hc0
 have HB := Aside0.mk (Below.refl w.heap.size w)
 have H : ((spec_l1Cur_doc.f k l0 0 0).bind fun bt862 => (some bt862.1)) = some r := h
 clear h
 replace H := Option.bind_eq_some_iff.mp H
 obtain ⟨⟨t862, t863, t864⟩, A20, H⟩ := H
 replace H : (some t862) = some r := H
 have A2 := Aside0.mk A20
 clear A20
 obtain rfl := Option.some.inj H
 go_enter Try.func47, Try.ntmps47
 go_wp2_with (first | ((with_reducible refine gate_dst (N := 6) rfl ?_); refine box_event ?hg (N := 6) ?hd (cs := #[.slice A0 l0.length c0, .int .i64 0, .int .u64 0]) (t := 87) ?hr ?_; (case hd => rfl); (case hg => rfl); (case hr => first | (go_simp; done) | (go_simp; rfl)); intro gb861 hg w3 hbox hb; have n0_ := Aside0.mk (bs_ HB.out hb); have n1_ := Aside0.mk ((⟨_, _, hbox, (by rw [hg]; exact (bw_ HB.out)), HR0.out⟩ : IsS87 w w3 gb861 l0 0 0)); have n2_ := Aside0.mk ((by rw [hg]; exact (bw_ HB.out) : w.heap.size <= gb861)); have n3_ := Aside0.mk ((by rw [hg]; exact (bw_ HB.out) : w.heap.size <= gb861)); clear HB; have HB := n0_; have HI861 := n1_; have GW861 := n2_; have GE861 := n3_; clear n0_ n1_ n2_ n3_; clear hb hbox hg) | ((with_reducible refine gate_callee (f := 81) rfl ?_); refine goesL_ (some 8) rfl rfl Try.func81 (by kernel_rfl) rfl #[.pointer (some ⟨gb861, 0, none⟩)] rfl (ag_) ?_; (with_reducible refine (spec_l1Cur_doc.calls k gb861 l0 0 0 t862 t863 t864 w _ ?side1 ?side2 A2.out).mono ?_); (case side1 => repeat (first | (with_reducible first | exact HI861.out | apply IsS87.alloc | apply IsS87.drewN | apply IsS87.drew | apply IsS87.set_1 | apply IsS87.set_2) | exact HI861.out)); (case side2 => repeat (first | (with_reducible first | exact HB.out | apply below_alloc | apply pw_below_drewN | apply below_drew1 | refine below_set ?_ (IsS87.ge HI861.out)) | exact HB.out)); rintro e w4 ⟨rfl, hi, hb, hk⟩; refine ⟨_, rfl, ?_⟩; have n0_ := Aside0.mk (hb); have n1_ := Aside0.mk (hi); clear HB; clear HI861; have HB := n0_; have HI861 := n1_; clear n0_ n1_; (try clear hb); (try clear hb2); (try clear hk); (try clear hi)))
 go_ret
 exact ⟨ew_, by repeat (first | (with_reducible first | exact HB.out | apply below_alloc | apply pw_below_drewN | apply below_drew1 | refine below_set ?_ (IsS87.ge HI861.out)) | exact HB.out)⟩
end Go.Proofs.Ytcopakljdenolaa.Fn
namespace Go.Proofs.Ytcopakljdenolaa.Pure
theorem rd_mem {α : Type} {z : α} {l : List α} {x : Int} (h0 : 0 <= x) (h1 : x < (l.length : Int)) : l.getD x.toNat z ∈ l := by
  rw [List.getD_eq_getElem?_getD, List.getElem?_eq_getElem (by omega)]
  exact List.getElem_mem _
theorem of_some (c : List Int) (hc : Code c) (a s : Int) (h0 : 0 <= a) (h1 : a <= 1152921504606846976) (l : List ByteArray) (hl : 0 < l.length) :
    ∃ (x : ByteArray) (a' s' : Int), spec_l1Cur_of.f c a s l = some (x, a', s') /\ x ∈ l /\ a <= a' /\ a' <= a + 2 := by
  obtain ⟨x, a', s', e, b1, b2, b3, b4, b5⟩ := pick_some c hc a s h0 h1 (l.length : Int)
  have hx := b4 (by omega)
  refine ⟨rdOf ByteArray.empty l x, a', s', ?_, rd_mem b3 hx, b1, b2⟩
  simp only [spec_l1Cur_of.f, e, Option.bind_some]
  rw [if_pos b3, if_pos hx]
theorem one_some (c : List Int) (hc : Code c) (a s : Int) (h0 : 0 <= a) (h1 : a <= 1152921504606846976) (n : Int) :
    ∃ (x : Bool) (a' s' : Int), spec_l1Cur_one.f c a s n = some (x, a', s') /\ a <= a' /\ a' <= a + 2 := by
  obtain ⟨x, a', s', e, b1, b2, _⟩ := pick_some c hc a s h0 h1 n
  refine ⟨(x == 0), a', s', ?_, b1, b2⟩
  simp only [spec_l1Cur_one.f, e, Option.bind_some]
theorem word_some (c : List Int) (hc : Code c) (a s : Int) (h0 : 0 <= a) (h1 : a <= 1152921504606846976) :
    ∃ (x : ByteArray) (a' s' : Int), spec_l1Cur_word.f c a s = some (x, a', s') /\ x.size <= 4 /\ a <= a' /\ a' <= a + 2 := by
  obtain ⟨x, a', s', e, hx, b1, b2⟩ := of_some c hc a s h0 h1 ([(⟨#[114, 101, 100]⟩ : ByteArray), (⟨#[98, 108, 117, 101]⟩ : ByteArray), (⟨#[115, 101, 97]⟩ : ByteArray), (⟨#[98, 111, 97, 116]⟩ : ByteArray), (⟨#[116, 104, 101]⟩ : ByteArray), (⟨#[120]⟩ : ByteArray), (⟨#[121]⟩ : ByteArray), (⟨#[110, 111, 110, 101]⟩ : ByteArray), (⟨#[]⟩ : ByteArray), (⟨#[82, 101, 100]⟩ : ByteArray)] : List ByteArray) (by simp)
  refine ⟨x, a', s', by simp only [spec_l1Cur_word.f, e, Option.bind_some], ?_, b1, b2⟩
  have hall : ∀ y ∈ ([(⟨#[114, 101, 100]⟩ : ByteArray), (⟨#[98, 108, 117, 101]⟩ : ByteArray), (⟨#[115, 101, 97]⟩ : ByteArray), (⟨#[98, 111, 97, 116]⟩ : ByteArray), (⟨#[116, 104, 101]⟩ : ByteArray), (⟨#[120]⟩ : ByteArray), (⟨#[121]⟩ : ByteArray), (⟨#[110, 111, 110, 101]⟩ : ByteArray), (⟨#[]⟩ : ByteArray), (⟨#[82, 101, 100]⟩ : ByteArray)] : List ByteArray), y.size <= 4 := by decide
  exact hall x hx
theorem doc_ev (c : List Int) (hc : Code c) (a s : Int) (h0 : 0 <= a) (h1 : a <= 1152921504606000000) :
    ∃ (d : ByteArray) (a' s' : Int), Ev (fun k => spec_l1Cur_doc.f k c a s) (d, a', s') /\ d.size <= 1000 /\ a <= a' /\ a' <= a + 1000 := by
  have key : ∀ (m : Nat) (x : ByteArray) (n b t : Int), n <= (m : Int) -> m <= 20 -> 0 <= b -> b + 2 * m <= 1152921504606400000 -> x.size + 6 * m <= 500 ->
      ∃ (d : ByteArray) (a' s' : Int), Ev (fun k => spec_l1Cur_doc.l0 k x n c b t) (d, a', s') /\ d.size <= 1000 /\ b <= a' /\ a' <= b + 2 * m + 10 := by
    intro m
    induction m with
    | zero =>
      intro x n b t hn hm hb hb2 hx
      obtain ⟨y, b1, t1, e1, c1, c2⟩ := one_some c hc b t hb (by omega) 40
      cases y with
      | false =>
        refine ⟨x, b1, t1, ?_, by omega, by omega, by omega⟩
        (refine Ev.up ?_; simp only [spec_l1Cur_doc.l0, decT])
        (repeat (first | with_reducible refine Ev.bindS ?_ | (with_reducible refine Ev.ifp ?_ ?_; (· exact cnd_)) | (with_reducible refine Ev.ifn ?_ ?_; (· exact cnd_))))
        rw [e1]
        (repeat (first | with_reducible refine Ev.bindS ?_ | (with_reducible refine Ev.ifp ?_ ?_; (· exact cnd_)) | (with_reducible refine Ev.ifn ?_ ?_; (· exact cnd_))))
        exact Ev.val rfl
      | true =>
        obtain ⟨z, b2, t2, e2, hz, c3, c4⟩ := of_some c hc b1 t1 (by omega) (by omega) ([(⟨#[97, 32, 98, 32, 99, 32, 100, 32, 101, 32, 102, 32, 103, 32, 104, 32, 105, 32, 106, 32, 107, 32, 108, 32, 109, 32, 110, 32, 111, 32, 112, 32, 113, 32, 114, 32, 115, 32, 116, 32, 117]⟩ : ByteArray), strOfNums (List.replicate 121 0)] : List ByteArray) (by simp)
        refine ⟨z, b2, t2, ?_, ?_, by omega, by omega⟩
        · (refine Ev.up ?_; simp only [spec_l1Cur_doc.l0, decT])
          (repeat (first | with_reducible refine Ev.bindS ?_ | (with_reducible refine Ev.ifp ?_ ?_; (· exact cnd_)) | (with_reducible refine Ev.ifn ?_ ?_; (· exact cnd_))))
          rw [e1]
          (repeat (first | with_reducible refine Ev.bindS ?_ | (with_reducible refine Ev.ifp ?_ ?_; (· exact cnd_)) | (with_reducible refine Ev.ifn ?_ ?_; (· exact cnd_))))
          rw [e2]
          (repeat (first | with_reducible refine Ev.bindS ?_ | (with_reducible refine Ev.ifp ?_ ?_; (· exact cnd_)) | (with_reducible refine Ev.ifn ?_ ?_; (· exact cnd_))))
          exact Ev.val rfl
        · rcases List.mem_cons.1 hz with rfl | hz
          · decide
          · rw [List.mem_singleton.1 hz]
            have : (strOfNums (List.replicate 121 0)).size = 121 := by rw [<- nm_length, nm_nums _ (by intro x hx; rw [(List.mem_replicate.1 hx).2]; omega)]; simp
            omega
    | succ m ih =>
      intro x n b t hn hm hb hb2 hx
      by_cases hp : n > 0
      · obtain ⟨y, b1, t1, e1, hy, c1, c2⟩ := of_some c hc b t hb (by omega) ([(⟨#[114, 101, 100, 32]⟩ : ByteArray), (⟨#[98, 108, 117, 101, 32]⟩ : ByteArray), (⟨#[82, 101, 100, 32]⟩ : ByteArray), (⟨#[115, 101, 97, 32]⟩ : ByteArray), (⟨#[98, 111, 97, 116, 44, 32]⟩ : ByteArray), (⟨#[116, 104, 101, 32]⟩ : ByteArray), (⟨#[120, 49, 121, 32]⟩ : ByteArray)] : List ByteArray) (by simp)
        have hall : ∀ y ∈ ([(⟨#[114, 101, 100, 32]⟩ : ByteArray), (⟨#[98, 108, 117, 101, 32]⟩ : ByteArray), (⟨#[82, 101, 100, 32]⟩ : ByteArray), (⟨#[115, 101, 97, 32]⟩ : ByteArray), (⟨#[98, 111, 97, 116, 44, 32]⟩ : ByteArray), (⟨#[116, 104, 101, 32]⟩ : ByteArray), (⟨#[120, 49, 121, 32]⟩ : ByteArray)] : List ByteArray), y.size <= 6 := by decide
        have hy6 := hall y hy
        have e : wrap64 (n - 1) = n - 1 := wrap_ok (by omega) (by omega)
        obtain ⟨d, a', s', q1, q2, q3, q4⟩ := ih (x ++ y) (n - 1) b1 t1 (by omega) (by omega) (by omega) (by omega) (by rw [str_append_size]; omega)
        refine ⟨d, a', s', ?_, q2, by omega, by omega⟩
        (refine Ev.up ?_; simp only [spec_l1Cur_doc.l0, decT])
        rw [e]
        (repeat (first | with_reducible refine Ev.bindS ?_ | (with_reducible refine Ev.ifp ?_ ?_; (· exact cnd_)) | (with_reducible refine Ev.ifn ?_ ?_; (· exact cnd_))))
        rw [e1]
        (repeat (first | with_reducible refine Ev.bindS ?_ | (with_reducible refine Ev.ifp ?_ ?_; (· exact cnd_)) | (with_reducible refine Ev.ifn ?_ ?_; (· exact cnd_))))
        exact q1
      · obtain ⟨d, a', s', q1, q2, q3, q4⟩ := ih x n b t (by omega) (by omega) hb (by omega) (by omega)
        exact ⟨d, a', s', q1, q2, q3, by omega⟩
  obtain ⟨n, b, t, e, b1, b2, b3, b4, _⟩ := pick_some c hc a s h0 (by omega) 8
  have hn := b4 (by omega)
  obtain ⟨d, a', s', q1, q2, q3, q4⟩ := key 8 eS n b t (by omega) (by omega) (by omega) (by omega) (by show 0 + _ <= _; omega)
  refine ⟨d, a', s', ?_, q2, by omega, by omega⟩
  simp only [spec_l1Cur_doc.f]
  rw [e]
  (repeat (first | with_reducible refine Ev.bindS ?_ | (with_reducible refine Ev.ifp ?_ ?_; (· exact cnd_)) | (with_reducible refine Ev.ifn ?_ ?_; (· exact cnd_))))
  exact q1
theorem docs_ev (c : List Int) (hc : Code c) (a s : Int) (h0 : 0 <= a) (h1 : a <= 1152921504600000000) :
    ∃ (l : List ByteArray) (a' s' : Int), Ev (fun k => spec_l1Cur_docs.f k c a s) (l, a', s') /\ l.length <= 13 /\ (∀ d ∈ l, d.size <= 1000) /\ a <= a' /\ a' <= a + 20000 := by
  have key : ∀ (m : Nat) (x : List ByteArray) (n b t : Int), n <= (m : Int) -> m <= 13 -> 0 <= b -> b + 1000 * m <= 1152921504601000000 -> x.length + m <= 13 -> (∀ d ∈ x, d.size <= 1000) ->
      ∃ (l : List ByteArray) (a' s' : Int), Ev (fun k => spec_l1Cur_docs.l0 k x n c b t) (l, a', s') /\ l.length <= 13 /\ (∀ d ∈ l, d.size <= 1000) /\ b <= a' /\ a' <= b + 1000 * m := by
    intro m
    induction m with
    | zero =>
      intro x n b t hn hm hb hb2 hx hs
      refine ⟨x, b, t, ?_, by omega, hs, by omega, by omega⟩
      (refine Ev.up ?_; simp only [spec_l1Cur_docs.l0, decT])
      (repeat (first | with_reducible refine Ev.bindS ?_ | (with_reducible refine Ev.ifp ?_ ?_; (· exact cnd_)) | (with_reducible refine Ev.ifn ?_ ?_; (· exact cnd_))))
      exact Ev.val rfl
    | succ m ih =>
      intro x n b t hn hm hb hb2 hx hs
      by_cases hp : n > 0
      · obtain ⟨d, b1, t1, q1, q2, q3, q4⟩ := doc_ev c hc b t hb (by omega)
        have e : wrap64 (n - 1) = n - 1 := wrap_ok (by omega) (by omega)
        obtain ⟨l, a', s', r1, r2, r3, r4, r5⟩ := ih (x ++ [d]) (n - 1) b1 t1 (by omega) (by omega) (by omega) (by omega) (by simp; omega) (by
          intro y hy
          rcases List.mem_append.1 hy with hy | hy
          · exact hs y hy
          · rw [List.mem_singleton.1 hy]; exact q2)
        refine ⟨l, a', s', ?_, r2, r3, by omega, by omega⟩
        (refine Ev.up ?_; simp only [spec_l1Cur_docs.l0, decT])
        rw [e]
        (repeat (first | with_reducible refine Ev.bindS ?_ | (with_reducible refine Ev.ifp ?_ ?_; (· exact cnd_)) | (with_reducible refine Ev.ifn ?_ ?_; (· exact cnd_))))
        refine Ev.bind q1 ?_
        (repeat (first | with_reducible refine Ev.bindS ?_ | (with_reducible refine Ev.ifp ?_ ?_; (· exact cnd_)) | (with_reducible refine Ev.ifn ?_ ?_; (· exact cnd_))))
        exact r1
      · obtain ⟨l, a', s', r1, r2, r3, r4, r5⟩ := ih x n b t (by omega) (by omega) hb (by omega) (by omega) hs
        exact ⟨l, a', s', r1, r2, r3, by omega, by omega⟩
  obtain ⟨n, b, t, e, b1, b2, b3, b4, _⟩ := pick_some c hc a s h0 (by omega) 7
  have hn := b4 (by omega)
  obtain ⟨o, b', t', e', b5, b6⟩ := one_some c hc b t (by omega) (by omega) 20
  cases o with
  | true =>
    obtain ⟨n2, b3', t3, e3, c1, c2, c3, c4, _⟩ := pick_some c hc b' t' (by omega) (by omega) 2
    have hn2 := c4 (by omega)
    have ew : wrap64 (12 + n2) = 12 + n2 := wrap_ok (by omega) (by omega)
    obtain ⟨l, a', s', r1, r2, r3, r4, r5⟩ := key 13 [] (12 + n2) b3' t3 (by omega) (by omega) (by omega) (by omega) (by simp) (by simp)
    refine ⟨l, a', s', ?_, r2, r3, by omega, by omega⟩
    simp only [spec_l1Cur_docs.f]
    rw [e]
    (repeat (first | with_reducible refine Ev.bindS ?_ | (with_reducible refine Ev.ifp ?_ ?_; (· exact cnd_)) | (with_reducible refine Ev.ifn ?_ ?_; (· exact cnd_))))
    rw [e']
    (repeat (first | with_reducible refine Ev.bindS ?_ | (with_reducible refine Ev.ifp ?_ ?_; (· exact cnd_)) | (with_reducible refine Ev.ifn ?_ ?_; (· exact cnd_))))
    rw [e3]
    (repeat (first | with_reducible refine Ev.bindS ?_ | (with_reducible refine Ev.ifp ?_ ?_; (· exact cnd_)) | (with_reducible refine Ev.ifn ?_ ?_; (· exact cnd_))))
    rw [ew]
    (refine Ev.up ?_; simp only [spec_l1Cur_docs.j0, decT])
    exact r1
  | false =>
    obtain ⟨l, a', s', r1, r2, r3, r4, r5⟩ := key 7 [] n b' t' (by omega) (by omega) (by omega) (by omega) (by simp) (by simp)
    refine ⟨l, a', s', ?_, r2, r3, by omega, by omega⟩
    simp only [spec_l1Cur_docs.f]
    rw [e]
    (repeat (first | with_reducible refine Ev.bindS ?_ | (with_reducible refine Ev.ifp ?_ ?_; (· exact cnd_)) | (with_reducible refine Ev.ifn ?_ ?_; (· exact cnd_))))
    rw [e']
    (repeat (first | with_reducible refine Ev.bindS ?_ | (with_reducible refine Ev.ifp ?_ ?_; (· exact cnd_)) | (with_reducible refine Ev.ifn ?_ ?_; (· exact cnd_))))
    (refine Ev.up ?_; simp only [spec_l1Cur_docs.j0, decT])
    exact r1
theorem small_of {l : List ByteArray} (h1 : l.length <= 13) (h2 : ∀ d ∈ l, d.size <= 1000) : Small l := ⟨by omega, fun y hy => by have := h2 y hy; omega⟩
theorem among_some (c : List Int) (hc : Code c) (a s : Int) (h0 : 0 <= a) (h1 : a <= 1152921504606846976) (l : List Int) (hl : 0 < l.length) :
    ∃ (x : Int) (a' s' : Int), spec_l1Cur_among.f c a s l = some (x, a', s') /\ x ∈ l /\ a <= a' /\ a' <= a + 2 := by
  obtain ⟨x, a', s', e, b1, b2, b3, b4, b5⟩ := pick_some c hc a s h0 h1 (l.length : Int)
  have hx := b4 (by omega)
  refine ⟨rd l x, a', s', ?_, rd_mem b3 hx, b1, b2⟩
  simp only [spec_l1Cur_among.f, e, Option.bind_some]
  rw [if_pos b3, if_pos hx]
theorem drawPhrase_ev (c : List Int) (hc : Code c) : ∃ (d ws : List ByteArray), Ev (fun k => spec_DrawPhraseIn.f k c) (d, ws) /\ Small d /\ Small ws := by
  obtain ⟨d, a, s, e, h1, h2, h3, h4⟩ := docs_ev c hc 0 0 (by omega) (by omega)
  obtain ⟨n, b, t, e2, b1, b2, b3, b4, _⟩ := pick_some c hc a s h3 (by omega) 4
  have hn := b4 (by omega)
  have key : ∀ (m : Nat) (x : List ByteArray) (n b t : Int), n <= (m : Int) -> m <= 4 -> 0 <= b -> b + 2 * m <= 100000 -> x.length + m <= 4 -> (∀ d ∈ x, d.size <= 1000) ->
      ∃ ws : List ByteArray, Ev (fun k => spec_DrawPhraseIn.l0 k d x n c b t) (d, ws) /\ ws.length <= 13 /\ ∀ w ∈ ws, w.size <= 1000 := by
    intro m
    induction m with
    | zero =>
      intro x n b t hn hm hb hb2 hx hs
      obtain ⟨o, b', t', e', b5, b6⟩ := one_some c hc b t hb (by omega) 12
      cases o with
      | false =>
        refine ⟨x, ?_, by omega, hs⟩
        (refine Ev.up ?_; simp only [spec_DrawPhraseIn.l0, decT])
        (repeat (first | with_reducible refine Ev.bindS ?_ | (with_reducible refine Ev.ifp ?_ ?_; (· exact cnd_)) | (with_reducible refine Ev.ifn ?_ ?_; (· exact cnd_))))
        rw [e']
        (repeat (first | with_reducible refine Ev.bindS ?_ | (with_reducible refine Ev.ifp ?_ ?_; (· exact cnd_)) | (with_reducible refine Ev.ifn ?_ ?_; (· exact cnd_))))
        exact Ev.val rfl
      | true =>
        obtain ⟨w, b3, t3, e3, hw, _, _⟩ := word_some c hc b' t' (by omega) (by omega)
        refine ⟨x ++ [w], ?_, by simp; omega, fun y hy => ?_⟩
        · (refine Ev.up ?_; simp only [spec_DrawPhraseIn.l0, decT])
          (repeat (first | with_reducible refine Ev.bindS ?_ | (with_reducible refine Ev.ifp ?_ ?_; (· exact cnd_)) | (with_reducible refine Ev.ifn ?_ ?_; (· exact cnd_))))
          rw [e']
          (repeat (first | with_reducible refine Ev.bindS ?_ | (with_reducible refine Ev.ifp ?_ ?_; (· exact cnd_)) | (with_reducible refine Ev.ifn ?_ ?_; (· exact cnd_))))
          rw [e3]
          (repeat (first | with_reducible refine Ev.bindS ?_ | (with_reducible refine Ev.ifp ?_ ?_; (· exact cnd_)) | (with_reducible refine Ev.ifn ?_ ?_; (· exact cnd_))))
          exact Ev.val rfl
        · rcases List.mem_append.1 hy with hy | hy
          · exact hs y hy
          · rw [List.mem_singleton.1 hy]; omega
    | succ m ih =>
      intro x n b t hn hm hb hb2 hx hs
      by_cases hp : n > 0
      · obtain ⟨w, b1, t1, e1, hw, c1, c2⟩ := of_some c hc b t hb (by omega) ([(⟨#[114, 101, 100]⟩ : ByteArray), (⟨#[98, 108, 117, 101]⟩ : ByteArray), (⟨#[115, 101, 97]⟩ : ByteArray), (⟨#[116, 104, 101]⟩ : ByteArray)] : List ByteArray) (by simp)
        have hall : ∀ y ∈ ([(⟨#[114, 101, 100]⟩ : ByteArray), (⟨#[98, 108, 117, 101]⟩ : ByteArray), (⟨#[115, 101, 97]⟩ : ByteArray), (⟨#[116, 104, 101]⟩ : ByteArray)] : List ByteArray), y.size <= 4 := by decide
        have hw4 := hall w hw
        have e : wrap64 (n - 1) = n - 1 := wrap_ok (by omega) (by omega)
        obtain ⟨ws, r1, r2, r3⟩ := ih (x ++ [w]) (n - 1) b1 t1 (by omega) (by omega) (by omega) (by omega) (by simp; omega) (by
          intro y hy
          rcases List.mem_append.1 hy with hy | hy
          · exact hs y hy
          · rw [List.mem_singleton.1 hy]; omega)
        refine ⟨ws, ?_, r2, r3⟩
        (refine Ev.up ?_; simp only [spec_DrawPhraseIn.l0, decT])
        rw [e]
        (repeat (first | with_reducible refine Ev.bindS ?_ | (with_reducible refine Ev.ifp ?_ ?_; (· exact cnd_)) | (with_reducible refine Ev.ifn ?_ ?_; (· exact cnd_))))
        rw [e1]
        (repeat (first | with_reducible refine Ev.bindS ?_ | (with_reducible refine Ev.ifp ?_ ?_; (· exact cnd_)) | (with_reducible refine Ev.ifn ?_ ?_; (· exact cnd_))))
        exact r1
      · obtain ⟨ws, r1, r2, r3⟩ := ih x n b t (by omega) (by omega) hb (by omega) (by omega) hs
        exact ⟨ws, r1, r2, r3⟩
  obtain ⟨ws, r1, r2, r3⟩ := key 4 [] n b t (by omega) (by omega) (by omega) (by omega) (by simp) (by simp)
  refine ⟨d, ws, ?_, small_of h1 h2, small_of r2 r3⟩
  simp only [spec_DrawPhraseIn.f]
  refine Ev.bind e ?_
  rw [e2]
  (repeat (first | with_reducible refine Ev.bindS ?_ | (with_reducible refine Ev.ifp ?_ ?_; (· exact cnd_)) | (with_reducible refine Ev.ifn ?_ ?_; (· exact cnd_))))
  exact r1
theorem drawNear_ev (c : List Int) (hc : Code c) : ∃ (d : List ByteArray) (a b : ByteArray) (n : Int), Ev (fun k => spec_DrawNearIn.f k c) (d, a, b, n) /\ Small d /\ a.size <= 1048576 /\ b.size <= 1048576 := by
  obtain ⟨d, a, s, e, h1, h2, h3, h4⟩ := docs_ev c hc 0 0 (by omega) (by omega)
  obtain ⟨x, a1, s1, e1, b1, b2, b3⟩ := word_some c hc a s (by omega) (by omega)
  obtain ⟨y, a2, s2, e2, c1, c2, c3⟩ := word_some c hc a1 s1 (by omega) (by omega)
  obtain ⟨n, a3, s3, e3, _, _, _⟩ := among_some c hc a2 s2 (by omega) (by omega) ([0, 1, 2, 3, 20, 21] : List Int) (by simp)
  refine ⟨d, x, y, n, ?_, small_of h1 h2, by omega, by omega⟩
  simp only [spec_DrawNearIn.f]
  refine Ev.bind e ?_
  rw [e1]
  (repeat (first | with_reducible refine Ev.bindS ?_ | (with_reducible refine Ev.ifp ?_ ?_; (· exact cnd_)) | (with_reducible refine Ev.ifn ?_ ?_; (· exact cnd_))))
  rw [e2]
  (repeat (first | with_reducible refine Ev.bindS ?_ | (with_reducible refine Ev.ifp ?_ ?_; (· exact cnd_)) | (with_reducible refine Ev.ifn ?_ ?_; (· exact cnd_))))
  rw [e3]
  (repeat (first | with_reducible refine Ev.bindS ?_ | (with_reducible refine Ev.ifp ?_ ?_; (· exact cnd_)) | (with_reducible refine Ev.ifn ?_ ?_; (· exact cnd_))))
  exact Ev.val rfl
theorem posts_ev (c : List Int) (hc : Code c) (a s : Int) (h0 : 0 <= a) (h1 : a <= 1152921504500000000) :
    ∃ (l : List S57) (a' s' : Int), Ev (fun k => spec_l1Cur_posts.f k c a s) (l, a', s') /\ Fit l /\ a <= a' /\ a' <= a + 30000 := by
  obtain ⟨d, a1, s1, e1, d1, d2, d3, d4⟩ := docs_ev c hc a s h0 (by omega)
  obtain ⟨w, a2, s2, e2, hw, w1, w2⟩ := of_some c hc a1 s1 (by omega) (by omega) ([(⟨#[114, 101, 100]⟩ : ByteArray), (⟨#[98, 108, 117, 101]⟩ : ByteArray), (⟨#[115, 101, 97]⟩ : ByteArray)] : List ByteArray) (by simp)
  have hall : ∀ y ∈ ([(⟨#[114, 101, 100]⟩ : ByteArray), (⟨#[98, 108, 117, 101]⟩ : ByteArray), (⟨#[115, 101, 97]⟩ : ByteArray)] : List ByteArray), y.size <= 4 := by decide
  have hw4 := hall w hw
  have hs := small_of d1 d2
  have hp := specPostsOf_ev d hs w (by omega)
  have hf := postsRes_fit d w hs
  by_cases hz : ((postsRes d w).1.length : Int) > 0
  · obtain ⟨o, a3, s3, e3, o1, o2⟩ := one_some c hc a2 s2 (by omega) (by omega) 20
    cases o with
    | false =>
      refine ⟨_, a3, s3, ?_, hf, by omega, by omega⟩
      simp only [spec_l1Cur_posts.f]
      refine Ev.bind e1 ?_
      rw [e2]
      (repeat (first | with_reducible refine Ev.bindS ?_ | (with_reducible refine Ev.ifp ?_ ?_; (· exact cnd_)) | (with_reducible refine Ev.ifn ?_ ?_; (· exact cnd_))))
      refine Ev.bind hp ?_
      (repeat (first | with_reducible refine Ev.bindS ?_ | (with_reducible refine Ev.ifp ?_ ?_; (· exact cnd_)) | (with_reducible refine Ev.ifn ?_ ?_; (· exact cnd_))))
      rw [e3]
      (repeat (first | with_reducible refine Ev.bindS ?_ | (with_reducible refine Ev.ifp ?_ ?_; (· exact cnd_)) | (with_reducible refine Ev.ifn ?_ ?_; (· exact cnd_))))
      (refine Ev.up ?_; simp only [spec_l1Cur_posts.j0, decT])
      (repeat (first | with_reducible refine Ev.bindS ?_ | (with_reducible refine Ev.ifp ?_ ?_; (· exact cnd_)) | (with_reducible refine Ev.ifn ?_ ?_; (· exact cnd_))))
      exact Ev.val rfl
    | true =>
      obtain ⟨v, a4, s4, e4, _, v1, v2⟩ := among_some c hc a3 s3 (by omega) (by omega) ([(-1), 5, 11, 12] : List Int) (by simp)
      refine ⟨(postsRes d w).1.set (0 : Int).toNat (⟨v, (rd_T57 (postsRes d w).1 0).f1⟩ : S57), a4, s4, ?_, ⟨by rw [List.length_set]; exact hf.1, fun p hp => ?_⟩, by omega, by omega⟩
      · simp only [spec_l1Cur_posts.f]
        refine Ev.bind e1 ?_
        rw [e2]
        (repeat (first | with_reducible refine Ev.bindS ?_ | (with_reducible refine Ev.ifp ?_ ?_; (· exact cnd_)) | (with_reducible refine Ev.ifn ?_ ?_; (· exact cnd_))))
        refine Ev.bind hp ?_
        (repeat (first | with_reducible refine Ev.bindS ?_ | (with_reducible refine Ev.ifp ?_ ?_; (· exact cnd_)) | (with_reducible refine Ev.ifn ?_ ?_; (· exact cnd_))))
        rw [e3]
        (repeat (first | with_reducible refine Ev.bindS ?_ | (with_reducible refine Ev.ifp ?_ ?_; (· exact cnd_)) | (with_reducible refine Ev.ifn ?_ ?_; (· exact cnd_))))
        (refine Ev.up ?_; simp only [spec_l1Cur_posts.j0, decT])
        (repeat (first | with_reducible refine Ev.bindS ?_ | (with_reducible refine Ev.ifp ?_ ?_; (· exact cnd_)) | (with_reducible refine Ev.ifn ?_ ?_; (· exact cnd_))))
        rw [e4]
        (repeat (first | with_reducible refine Ev.bindS ?_ | (with_reducible refine Ev.ifp ?_ ?_; (· exact cnd_)) | (with_reducible refine Ev.ifn ?_ ?_; (· exact cnd_))))
        exact Ev.val rfl
      · rcases List.mem_or_eq_of_mem_set hp with hp | rfl
        · exact hf.2 p hp
        · show (rd_T57 (postsRes d w).1 0).f1.length <= 1048576
          exact hf.2 (rd_T57 (postsRes d w).1 0) (rd_mem (by omega) hz)
  · refine ⟨_, a2, s2, ?_, hf, by omega, by omega⟩
    simp only [spec_l1Cur_posts.f]
    refine Ev.bind e1 ?_
    rw [e2]
    (repeat (first | with_reducible refine Ev.bindS ?_ | (with_reducible refine Ev.ifp ?_ ?_; (· exact cnd_)) | (with_reducible refine Ev.ifn ?_ ?_; (· exact cnd_))))
    refine Ev.bind hp ?_
    (repeat (first | with_reducible refine Ev.bindS ?_ | (with_reducible refine Ev.ifp ?_ ?_; (· exact cnd_)) | (with_reducible refine Ev.ifn ?_ ?_; (· exact cnd_))))
    (refine Ev.up ?_; simp only [spec_l1Cur_posts.j0, decT])
    (repeat (first | with_reducible refine Ev.bindS ?_ | (with_reducible refine Ev.ifp ?_ ?_; (· exact cnd_)) | (with_reducible refine Ev.ifn ?_ ?_; (· exact cnd_))))
    exact Ev.val rfl
theorem drawMeet_ev (c : List Int) (hc : Code c) : ∃ (x y : List S57) (n : Int), Ev (fun k => spec_DrawMeetPosts.f k c) (x, y, n) /\ Fit x /\ Fit y := by
  obtain ⟨x, a1, s1, e1, h1, h2, h3⟩ := posts_ev c hc 0 0 (by omega) (by omega)
  obtain ⟨y, a2, s2, e2, g1, g2, g3⟩ := posts_ev c hc a1 s1 (by omega) (by omega)
  obtain ⟨n, a3, s3, e3, _, _, _⟩ := among_some c hc a2 s2 (by omega) (by omega) ([(-21), (-1), 0, 1, 1, 2, 20, 21] : List Int) (by simp)
  refine ⟨x, y, n, ?_, h1, g1⟩
  simp only [spec_DrawMeetPosts.f]
  refine Ev.bind e1 (Ev.bind e2 ?_)
  rw [e3]
  (repeat (first | with_reducible refine Ev.bindS ?_ | (with_reducible refine Ev.ifp ?_ ?_; (· exact cnd_)) | (with_reducible refine Ev.ifn ?_ ?_; (· exact cnd_))))
  exact Ev.val rfl
theorem phr_j5 (c : List Int) (hc : Code c) : Ev (fun k => laws_FnPhrases.j5 k c) true := by
  obtain ⟨x, y, n, e, hx, hy⟩ := drawMeet_ev c hc
  have him := implMeetPosts_ev x y n hx hy
  have hsp := specMeetPosts_ev x y n hx hy
  have hfit := meetRes_fit x y n hx
  (refine Ev.up ?_; simp only [laws_FnPhrases.j5, decT])
  refine Ev.bind e (Ev.bind him (Ev.bind hsp ?_))
  simp only [bne_self_eq_false]
  (repeat (first | with_reducible refine Ev.bindS ?_ | (with_reducible refine Ev.ifp ?_ ?_; (· exact cnd_)) | (with_reducible refine Ev.ifn ?_ ?_; (· exact cnd_))))
  refine Ev.bind (samePosts_ev _ hfit) ?_
  (repeat (first | with_reducible refine Ev.bindS ?_ | (with_reducible refine Ev.ifp ?_ ?_; (· exact cnd_)) | (with_reducible refine Ev.ifn ?_ ?_; (· exact cnd_))))
  refine Ev.bind (implGood_ev x hx) (Ev.bind (specGood_ev x hx) ?_)
  simp only [bne_self_eq_false]
  (refine Ev.up ?_; simp only [laws_FnPhrases.j6, decT])
  (repeat (first | with_reducible refine Ev.bindS ?_ | (with_reducible refine Ev.ifp ?_ ?_; (· exact cnd_)) | (with_reducible refine Ev.ifn ?_ ?_; (· exact cnd_))))
  cases h : (meetRes x y n).2 with
  | false =>
    (repeat (first | with_reducible refine Ev.bindS ?_ | (with_reducible refine Ev.ifp ?_ ?_; (· exact cnd_)) | (with_reducible refine Ev.ifn ?_ ?_; (· exact cnd_))))
    exact Ev.val rfl
  | true =>
    obtain ⟨b1, b2, b3⟩ := back_res n x y h
    (repeat (first | with_reducible refine Ev.bindS ?_ | (with_reducible refine Ev.ifp ?_ ?_; (· exact cnd_)) | (with_reducible refine Ev.ifn ?_ ?_; (· exact cnd_))))
    refine Ev.bind (implMeetPosts_ev y x (wrap64 (-n)) hy hx) ?_
    refine Ev.ifp b1 (Ev.ifp (by rw [b2]) ?_)
    refine Ev.bind (implGood_ev _ hfit) ?_
    exact Ev.val b3
theorem phr_j3 (c : List Int) (hc : Code c) : Ev (fun k => laws_FnPhrases.j3 k c) true := by
  obtain ⟨d, a, b, n, e, hd, ha, hb⟩ := drawNear_ev c hc
  have him := implNear_ev d hd a b ha hb n
  have hsp := specNear_ev d hd a b ha hb n
  have hlen := nearRes_len d a b n hd
  (refine Ev.up ?_; simp only [laws_FnPhrases.j3, decT])
  refine Ev.bind e (Ev.bind him (Ev.bind hsp ?_))
  simp only [bne_self_eq_false]
  (repeat (first | with_reducible refine Ev.bindS ?_ | (with_reducible refine Ev.ifp ?_ ?_; (· exact cnd_)) | (with_reducible refine Ev.ifn ?_ ?_; (· exact cnd_))))
  refine Ev.bind (sameInts_ev _ hlen) ?_
  (refine Ev.up ?_; simp only [laws_FnPhrases.j4, decT])
  rw [Bool.not_true]
  (repeat (first | with_reducible refine Ev.bindS ?_ | (with_reducible refine Ev.ifp ?_ ?_; (· exact cnd_)) | (with_reducible refine Ev.ifn ?_ ?_; (· exact cnd_))))
  cases h : (nearRes d a b n).2 with
  | false =>
    (repeat (first | with_reducible refine Ev.bindS ?_ | (with_reducible refine Ev.ifp ?_ ?_; (· exact cnd_)) | (with_reducible refine Ev.ifn ?_ ?_; (· exact cnd_))))
    exact phr_j5 c hc
  | true =>
    (repeat (first | with_reducible refine Ev.bindS ?_ | (with_reducible refine Ev.ifp ?_ ?_; (· exact cnd_)) | (with_reducible refine Ev.ifn ?_ ?_; (· exact cnd_))))
    have hback := implNear_ev d hd b a hb ha n
    rw [<- nearRes_swap d a b n hd] at hback
    refine Ev.bind hback ?_
    refine Ev.ifp h ?_
    refine Ev.bind (sameInts_ev _ hlen) ?_
    (repeat (first | with_reducible refine Ev.bindS ?_ | (with_reducible refine Ev.ifp ?_ ?_; (· exact cnd_)) | (with_reducible refine Ev.ifn ?_ ?_; (· exact cnd_))))
    exact phr_j5 c hc
theorem phr_l1 (c : List Int) (docs ws : List ByteArray) (l : List S57) (s : ByteArray) (i : Nat) (p : S57) (hp : p.f1.length <= 1048576) (hws : ws.length <= 4) (hw0 : 0 < ws.length) (hsw : (wordsOf s).length <= 2097152) (hi : i <= 9223372036854775806)
    (hst : ∀ x ∈ p.f1, ∃ m : Nat, x = (m : Int) /\ ∀ (j : Nat) (w : ByteArray), j < ws.length -> ws[j]? = some w -> (wordsOf s)[m + j]? = some w) (hr : Ev (fun k => laws_FnPhrases.l0 k c docs ws l l l.length ((i + 1 : Nat) : Int)) true) :
    ∀ (t : List Int) (j : Nat), p.f1.drop j = t -> j <= p.f1.length -> Ev (fun k => laws_FnPhrases.l1 k c docs ws l (wordsOf s) l l.length i p.f1 p.f1.length j) true := by
  intro t
  induction t with
  | nil =>
    intro j h hj
    have := drop_nil h
    (refine Ev.up ?_; simp only [laws_FnPhrases.l1, decT])
    rw [wrap_succ (i := i) hi]
    (repeat (first | with_reducible refine Ev.bindS ?_ | (with_reducible refine Ev.ifp ?_ ?_; (· exact cnd_)) | (with_reducible refine Ev.ifn ?_ ?_; (· exact cnd_))))
    exact hr
  | cons x t ih =>
    intro j h hj
    obtain ⟨p1, p2, p3⟩ := drop_cons h
    obtain ⟨m, e, hm⟩ := hst x (List.mem_of_getElem? p2)
    have hlast := hm (ws.length - 1) _ (by omega) (List.getElem?_eq_getElem (by omega))
    have hlt := (List.getElem?_eq_some_iff.1 hlast).1
    have ew : wrap64 (x + (ws.length : Int)) = ((m + ws.length : Nat) : Int) := by rw [e, wrap_ok (by omega) (by omega)]; omega
    have ecut : ((wordsOf s).take (m + ws.length)).drop m = ws := by
      apply List.ext_getElem?
      intro q
      rw [List.getElem?_drop, List.getElem?_take]
      by_cases hq : q < ws.length
      · rw [if_pos (by omega), List.getElem?_eq_getElem hq]
        exact hm q _ hq (List.getElem?_eq_getElem hq)
      · rw [if_neg (by omega), List.getElem?_eq_none (by omega)]
    (refine Ev.up ?_; simp only [laws_FnPhrases.l1, decT])
    rw [rd_at p2, ew, wrap_succ (i := j) (by omega), Int.toNat_natCast, e, Int.toNat_natCast, ecut]
    (repeat (first | with_reducible refine Ev.bindS ?_ | (with_reducible refine Ev.ifp ?_ ?_; (· exact cnd_)) | (with_reducible refine Ev.ifn ?_ ?_; (· exact cnd_))))
    refine Ev.bind (sameTexts_ev ws (by omega)) ?_
    (repeat (first | with_reducible refine Ev.bindS ?_ | (with_reducible refine Ev.ifp ?_ ?_; (· exact cnd_)) | (with_reducible refine Ev.ifn ?_ ?_; (· exact cnd_))))
    exact ih (j + 1) p3 (by omega)
theorem FnPhrases : ∀ (l0 : List Int) (l1 : List Int), (l0.length <= maxLen /\ ∀ y1 ∈ l0, (Lit.int .u8 y1).wf = true) -> (l1.length <= maxLen /\ ∀ y2 ∈ l1, (Lit.int .u8 y2).wf = true) -> ∃ k, laws_FnPhrases.f k l0 l1 = some true := by
  intro c c2 ⟨h1, h2⟩ ⟨g1, g2⟩
  have hcode : ∀ l : List Int, (∀ y ∈ l, (Lit.int .u8 y).wf = true) -> Code l := fun l h y hy => bounds_u8 (h y hy)
  have hc := hcode c h2
  have hc2 := hcode c2 g2
  refine Ev.some (g := fun k => laws_FnPhrases.f k c c2) ?_
  simp only [laws_FnPhrases.f]
  by_cases hz : wrap64 ((c.length : Int) + (c2.length : Int)) > 1048576
  · (repeat (first | with_reducible refine Ev.bindS ?_ | (with_reducible refine Ev.ifp ?_ ?_; (· exact cnd_)) | (with_reducible refine Ev.ifn ?_ ?_; (· exact cnd_)))); exact Ev.val rfl
  obtain ⟨d, ws, e, hd, hws⟩ := drawPhrase_ev c hc
  have him := implPhrase_ev d ws hd hws
  have hsp := specPhrase_ev d ws hd hws
  have hfit := phraseRes_fit d ws hd
  (repeat (first | with_reducible refine Ev.bindS ?_ | (with_reducible refine Ev.ifp ?_ ?_; (· exact cnd_)) | (with_reducible refine Ev.ifn ?_ ?_; (· exact cnd_))))
  refine Ev.bind e (Ev.bind him (Ev.bind hsp ?_))
  simp only [bne_self_eq_false]
  (repeat (first | with_reducible refine Ev.bindS ?_ | (with_reducible refine Ev.ifp ?_ ?_; (· exact cnd_)) | (with_reducible refine Ev.ifn ?_ ?_; (· exact cnd_))))
  refine Ev.bind (samePosts_ev _ hfit) ?_
  (refine Ev.up ?_; simp only [laws_FnPhrases.j0, decT])
  rw [Bool.not_true]
  (repeat (first | with_reducible refine Ev.bindS ?_ | (with_reducible refine Ev.ifp ?_ ?_; (· exact cnd_)) | (with_reducible refine Ev.ifn ?_ ?_; (· exact cnd_))))
  cases h : (phraseRes d ws).2 with
  | false =>
    (repeat (first | with_reducible refine Ev.bindS ?_ | (with_reducible refine Ev.ifp ?_ ?_; (· exact cnd_)) | (with_reducible refine Ev.ifn ?_ ?_; (· exact cnd_))))
    exact phr_j3 c2 hc2
  | true =>
    (repeat (first | with_reducible refine Ev.bindS ?_ | (with_reducible refine Ev.ifp ?_ ?_; (· exact cnd_)) | (with_reducible refine Ev.ifn ?_ ?_; (· exact cnd_))))
    cases ws with
    | nil => cases h
    | cons w t =>
      unfold phraseRes at h ⊢
      simp only at h ⊢
      split at h
      · rename_i hok
        obtain ⟨k1, k2, k3⟩ := hok
        rw [if_pos ⟨k1, k2, k3⟩]
        have hst := phrase_stands d (w :: t) hd k2 t 1 (postsFrom w d 0 []) rfl (by simp) (by omega) (stands_first d (w :: t) w rfl)
        have hlen := phraseFrom_len d t 1 (postsFrom w d 0 [])
        have hfl : Fit (phraseFrom d t 1 (postsFrom w d 0 [])) := phraseFrom_fit _ _ _ _ (posts_fit w d hd k1)
        have hone : (w :: t).length = 1 -> phraseFrom d t 1 (postsFrom w d 0 []) = postsFrom w d 0 [] := by
          intro h
          cases t with
          | nil => rfl
          | cons _ _ => simp at h
        generalize hL : phraseFrom d t 1 (postsFrom w d 0 []) = L at hst hlen hfl hone
        have hl1 := hfl.1
        have hwok : wordOk w = true := by rw [List.all_cons, Bool.and_eq_true] at k3; exact k3.1
        have hpost := implPostsOf_ev d hd w (hws.2 w List.mem_cons_self)
        have epr : postsRes d w = (postsFrom w d 0 [], true) := by rw [postsRes, if_pos ⟨k1, hwok⟩]
        rw [epr] at hpost
        have key : ∀ (tl : List S57) (i : Nat), L.drop i = tl -> i <= L.length -> Ev (fun k => laws_FnPhrases.l0 k c2 d (w :: t) L L L.length i) true := by
          intro tl
          induction tl with
          | nil =>
            intro i hi hle
            have := drop_nil hi
            (refine Ev.up ?_; simp only [laws_FnPhrases.l0, decT])
            rw [show rdOf ByteArray.empty (w :: t) 0 = w from rfl]
            have hpos : 0 < ((w :: t).length : Int) := by simp
            (repeat (first | with_reducible refine Ev.bindS ?_ | (with_reducible refine Ev.ifp ?_ ?_; (· exact cnd_)) | (with_reducible refine Ev.ifn ?_ ?_; (· exact cnd_))))
            refine Ev.bind hpost ?_
            refine Ev.ifp rfl (Ev.ifn (by show ¬ ((postsFrom w d 0 []).length : Int) < _; omega) ?_)
            by_cases h1' : ((w :: t).length : Int) = 1
            · refine Ev.ifp h1' ?_
              rw [hone (by omega)]
              refine Ev.bind (samePosts_ev _ (posts_fit w d hd k1)) ?_
              (repeat (first | with_reducible refine Ev.bindS ?_ | (with_reducible refine Ev.ifp ?_ ?_; (· exact cnd_)) | (with_reducible refine Ev.ifn ?_ ?_; (· exact cnd_))))
              exact phr_j3 c2 hc2
            · refine Ev.ifn h1' ?_
              exact phr_j3 c2 hc2
          | cons p tl ih =>
            intro i hi hle
            obtain ⟨p1, p2, p3⟩ := drop_cons hi
            obtain ⟨di, s, e1, e2, e3⟩ := hst p (List.mem_of_getElem? p2)
            have hs := hd.2 s (List.mem_of_getElem? e1)
            have hdl := (List.getElem?_eq_some_iff.1 e1).1
            have hsd : docOk s = true := by
              rw [docsOk, Bool.and_eq_true, List.all_eq_true] at k1
              exact k1.2 s (List.mem_of_getElem? e1)
            have hwr : wordsRes s = (wordsOf s, true) := by
              rcases doc_cases s with ⟨_, h3⟩ | ⟨_, _, h3⟩ | ⟨q1, q2, _⟩
              · rw [h3] at hsd; cases hsd
              · rw [h3] at hsd; cases hsd
              · rw [wordsRes, if_neg q1, if_neg q2]
            have hwo := implWordsOf_ev s hs
            rw [hwr] at hwo
            have hwl : (wordsOf s).length <= 2097152 := by
              have h1 := words_len (nm s) eS []
              have h2 := nm_length s
              simp only [List.length_nil] at h1
              rw [wordsOf]; omega
            (refine Ev.up ?_; simp only [laws_FnPhrases.l0, decT])
            rw [rd57_at p2, e2, rdOf_at e1]
            (repeat (first | with_reducible refine Ev.bindS ?_ | (with_reducible refine Ev.ifp ?_ ?_; (· exact cnd_)) | (with_reducible refine Ev.ifn ?_ ?_; (· exact cnd_))))
            refine Ev.bind hwo ?_
            (repeat (first | with_reducible refine Ev.bindS ?_ | (with_reducible refine Ev.ifp ?_ ?_; (· exact cnd_)) | (with_reducible refine Ev.ifn ?_ ?_; (· exact cnd_))))
            exact phr_l1 c2 d (w :: t) L s i p (hfl.2 p (List.mem_of_getElem? p2)) k2 (by simp) hwl (by omega) e3 (ih (i + 1) p3 (by omega)) p.f1 0 rfl (by omega)
        exact key L 0 rfl (by omega)
      · cases h
end Go.Proofs.Ytcopakljdenolaa.Pure
namespace Go.Proofs.Ytcopakljdenolaa.OpenA
open Go.RowKit Go.Deep Go.ChangeShapes Go.Joins Go.Proofs.YtcopakljdenolaaW Go.Proofs.YtcopakljdenolaaW.PrintWords
def Op (P : Program) (t : TypeId) {α : Type} (d : Kd α) (Wf : α -> Prop) : Prop :=
  ∀ {H : Type} {enc : TypeId × Value -> H} {w : World} {base : Nat} {spare : Nat -> Bool} {held : Bool} {fuel : Nat} {cs : List Value} {x : DataW H × List MemPlace},
    DataW.trod enc P w base spare held fuel t cs = some x -> ∃ a : α, d.K w a cs /\ Wf a
variable {P : Program} {t e : TypeId}
theorem op_int {k : IntKind} (hu : P.underlying t = some (.int k)) : Op P t (Kd.int k) (fun n => (Lit.int k n).wf = true) := by
  intro H enc w base spare held fuel cs x h
  obtain ⟨n, rfl, _, hw⟩ := DataW.trod_int hu h
  exact ⟨n, rfl, hw⟩
theorem cells_of {w : World} {base : Nat} {a : Addr} {n : Nat} {cs : List Value} (h : w.cells? base a n = some cs) : cs.length = n /\ ∀ j u, cs[j]? = some u -> w.cell? (a.add j) = some u := by
  unfold World.cells? at h
  split at h
  · have hl := mapM_some_length h
    refine ⟨by simpa using hl, fun j u hj => ?_⟩
    have hlt : j < n := by
      have := (List.getElem?_eq_some_iff.1 hj).1
      have : cs.length = n := by simpa using hl
      omega
    have := mapM_some_get h j j (by simp [hlt])
    rw [hj] at this
    exact this
  · simp at h
theorem op_slice {α : Type} {d : Kd α} {Wf : α -> Prop} (hu : P.underlying t = some (.slice e)) (hc : P.cellsOf e = d.sz) (h : Op P e d Wf) :
    Op P t (Kd.slice e d) (fun xs => xs.length <= maxLen /\ ∀ x ∈ xs, Wf x) := by
  intro H enc w base spare held fuel cs x hf
  rcases open_slice hu hf with ⟨rfl, _⟩ | ⟨a, len, cap, m, n, D, Pl, rfl, _, hl, hm, hmm, hxe, hall⟩
  · exact ⟨[], ⟨none, 0, rfl, Nat.le_refl _, rfl, by simp, fun h => absurd h (by simp)⟩, by simp, by simp⟩
  · have hlm : len <= m := by rw [hmm]; split <;> omega
    have hx : ∀ i, i < len -> ∃ y : α × List Value, w.cells? base (a.add (i * P.cellsOf e)) (P.cellsOf e) = some y.2 /\ d.K w y.1 y.2 /\ Wf y.1 := by
      intro i hi
      obtain ⟨cs', h1, h2⟩ := hall i (by omega)
      obtain ⟨y, h3, h4⟩ := h h2
      exact ⟨⟨y, cs'⟩, h1, h3, h4⟩
    have hx' : ∃ ys : List (α × List Value), ys.length = len /\ ∀ i y, ys[i]? = some y -> w.cells? base (a.add (i * P.cellsOf e)) (P.cellsOf e) = some y.2 /\ d.K w y.1 y.2 /\ Wf y.1 := by
      clear hall hf hmm hlm hl hm hxe
      induction len with
      | zero => exact ⟨[], rfl, by simp⟩
      | succ len ih =>
        obtain ⟨ys, h1, h2⟩ := ih (fun i hi => hx i (by omega))
        obtain ⟨y, hy⟩ := hx len (by omega)
        refine ⟨ys ++ [y], by simp [h1], fun i z hz => ?_⟩
        rcases Nat.lt_or_ge i ys.length with hi | hi
        · rw [List.getElem?_append_left hi] at hz
          exact h2 i z hz
        · rw [List.getElem?_append_right hi] at hz
          have h0 : i - ys.length = 0 := by
            rcases Nat.eq_zero_or_pos (i - ys.length) with h0 | h0
            · exact h0
            · rw [List.getElem?_eq_none (by simp; omega)] at hz
              cases hz
          rw [h0] at hz
          have hz' : y = z := by simpa using hz
          have : i = len := by omega
          subst this
          subst hz'
          exact hy
    obtain ⟨ys, hl2, hys⟩ := hx'
    have hlen : (ys.map (·.1)).length = len := by simp [hl2]
    refine ⟨ys.map (·.1), ⟨some a, cap, by rw [hlen], by omega, ?_⟩, by simp only [maxLen] at *; omega, ?_⟩
    · refine ⟨rfl, by rw [hlen]; simp only [maxLen] at hm; omega, fun _ => ⟨a, rfl, fun j p hj => ?_⟩⟩
      rw [List.getElem?_map] at hj
      obtain ⟨y, hy, rfl⟩ := Option.map_eq_some_iff.1 hj
      obtain ⟨h1, h2, _⟩ := hys j y hy
      obtain ⟨h3, h4⟩ := cells_of h1
      refine ⟨y.2, by rw [h3, hc], h2, fun i u hu => ?_⟩
      have := h4 i u hu
      rw [PrintWords.add_add, hc] at this
      exact this
    · intro x hx
      obtain ⟨y, hy, rfl⟩ := List.mem_map.1 hx
      obtain ⟨i, hi⟩ := List.mem_iff_getElem?.1 hy
      exact (hys i y hi).2.2
theorem len1 {l : List Value} (h : l.length = 1) : ∃ a, l = [a] := by
  match l, h with
  | [a], _ => exact ⟨a, rfl⟩
end Go.Proofs.Ytcopakljdenolaa.OpenA
namespace Go.Proofs.Ytcopakljdenolaa.fnPhrases
open Go.ChangeShapes Go.WideShapes Go.ChangeAt Go.RowKit Go.Proofs.Ytcopakljdenolaa.Fn Go.Proofs.YtcopakljdenolaaW.PrintWords Go.Proofs.Ytcopakljdenolaa.OpenA
open Go.ChangeMaps (open_string shut_string)
theorem own : ownKnob Try.prog.godebug = none := by kernel_rfl
theorem laidOut : laidOutB Try.prog = true := by kernel_rfl
theorem lifted (os : Os) (started : os.Started) (H : Type) (enc : TypeId × Value -> H) :
    ReturnsInHanded {} Try.checked os 12 .any (Rows.fnPhrasesSpec.pre6 enc Try.prog Try.f12 Rows.fnPhrasesRow.domain false) (Rows.fnPhrasesSpec.post enc Try.prog Try.f12 false true false false) := by
  refine returnsInHanded_of_change_sized (C := Try.checked) own started (by kernel_rfl) Try.func12
    (ChangeSpec.witness6 (enc := enc) (C := Try.checked) false ⟨#[], #[.slice none 0 0, .slice none 0 0], []⟩ 8 (by kernel_rfl) (by kernel_rfl) (by kernel_rfl) (by kernel_rfl)) ?_
  intro W base args ds gs before hval0 hW hcnd hsz0 _
  have hsz : (DataW.weightsEach Try.prog (Try.f12.params.toList ++ Rows.fnPhrasesSpec.plain.varTypes Try.prog) (ds ++ gs)).all (· <= reachBytes) = true := hsz0
  have hval : ∀ (j : Nat) t v, Try.f12.params[j]? = some t -> args[j]? = some v -> Value.okWide Try.prog W .any base t v := hval0
  have hW' := hW
  obtain ⟨p, q, hA0, hV, rfl, hfz, hnd⟩ := hW
  have hA : DataW.TrodAll enc Try.prog W 0 (fun _ => true) true Try.f12.params.toList args.toList ds p := hA0
  rw [Try.params12] at hA hval hsz
  obtain ⟨v0, vs0, d0, ds0, p0, q0, hargs, rfl, rfl, h0, r0⟩ := trodAll_cons hA
  obtain ⟨v1, vs1, d1, ds1, p1, q1, rfl, rfl, rfl, h1, r1⟩ := trodAll_cons r0
  obtain ⟨rfl, rfl, rfl⟩ := trodAll_nil r1
  obtain rfl : args = #[v0, v1] := by cases args; simp_all
  obtain ⟨rfl, rfl⟩ := trodVars_none hV
  obtain ⟨a0, len0, cap0, rfl⟩ := okWide_slice Try.underlying53 (hval 0 53 v0 rfl rfl)
  have k0 := h0
  have lt0 : ∀ x ∈ p0, x.block < W.heap.size := by obtain ⟨m, hm⟩ := k0; exact DataW.trod_lt m _ _ _ hm
  obtain ⟨fuel0, hf0⟩ := h0
  obtain ⟨l0, hK0, hw0⟩ := (op_slice Try.underlying53 (by kernel_rfl) (op_int Try.underlying5)) hf0
  obtain ⟨A0, c0, e0, hc0, hr0⟩ := hK0
  simp [Value.cells] at e0
  obtain ⟨rfl, rfl, rfl⟩ := e0
  obtain ⟨a1, len1, cap1, rfl⟩ := okWide_slice Try.underlying53 (hval 1 53 v1 rfl rfl)
  have k1 := h1
  have lt1 : ∀ x ∈ p1, x.block < W.heap.size := by obtain ⟨m, hm⟩ := k1; exact DataW.trod_lt m _ _ _ hm
  obtain ⟨fuel1, hf1⟩ := h1
  obtain ⟨l1, hK1, hw1⟩ := (op_slice Try.underlying53 (by kernel_rfl) (op_int Try.underlying5)) hf1
  obtain ⟨A1, c1, e1, hc1, hr1⟩ := hK1
  simp [Value.cells] at e1
  obtain ⟨rfl, rfl, rfl⟩ := e1
  clear hA0 hval0 hsz0 hsz
  obtain ⟨k, h⟩ := Pure.FnPhrases l0 l1 hw0 hw1
  refine (laws_FnPhrases.calls k _ _ l0 _ _ l1 true W hr0 hc0 hr1 hc1 h rfl).mono fun e W' ⟨he, bel0⟩ => ?_
  have bel : Below W.heap.size W W' := bel0
  subst he
  exact ⟨_, rfl, _, _, _, [], _, [], hW', trodAll_mk1 (shut_bool Try.underlying4 _), (trodAll_cons_mk (Below.trod laidOut (by kernel_rfl) (of_decide_eq_true (by kernel_rfl)) k0 bel lt0) (trodAll_cons_mk (Below.trod laidOut (by kernel_rfl) (of_decide_eq_true (by kernel_rfl)) k1 bel lt1) trodAll_mk0)), rfl, bel.frame _, fun h => by cases h⟩
theorem over : Rows.fnPhrasesRow.holds Try.pinned (OpenSpec.ofChange Rows.fnPhrasesSpec) :=
  OpenClaim.holds_of_wide 12 Try.f12 rfl rfl rfl rfl rfl rfl rfl ⟨rfl, rfl, rfl, rfl, rfl⟩ rfl rfl rfl rfl rfl (by kernel_rfl) Try.func12 (by kernel_rfl)
    (of_decide_eq_true (by kernel_rfl)) (by unfold Func.isWrapper; first | (rw [if_pos (by decide +kernel)]; kernel_rfl) | (rw [if_neg (by decide +kernel)]; exact ⟨rfl, rfl⟩))
    (fun os started H enc _ => lifted os started H enc)
theorem proved : Rows.FnPhrasesSaid := over
#print axioms proved
end Go.Proofs.Ytcopakljdenolaa.fnPhrases
namespace Go.Proofs.Ytcopakljdenolaa
/-- The row, under a short name, for the claim. -/
theorem fnPhrases_holds : Rows.FnPhrasesSaid := fnPhrases.proved
end Go.Proofs.Ytcopakljdenolaa
