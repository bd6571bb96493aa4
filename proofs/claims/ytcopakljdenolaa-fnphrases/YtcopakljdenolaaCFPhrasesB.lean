/- The law FnPhrases holds of the given program: at every input it answers true and leaves its arguments as they were; no condition. This text: part 2 of what its proof reaches. -/
import Derived.Test.YtcopakljdenolaaQWWords
import Derived.Test.YtcopakljdenolaaQWMore
import Derived.OpenShut
import Derived.WideShapes
import Derived.Lib.Strings
import Derived.Test.YtcopakljdenolaaCFPhrasesA
set_option maxHeartbeats 8000000
set_option maxRecDepth 100000
set_option linter.unusedVariables false
set_option linter.unusedSimpArgs false
open Go.RowKit Go.Proofs.YtcopakljdenolaaW.PrintWords Go.Proofs.YtcopakljdenolaaW.PrintLast Go.Proofs.YtcopakljdenolaaW.PrintMore
open Go.Proofs.Ytcopakljdenolaa.Gen   -- compacted234
attribute [local go_sem] max2_int min2_int max_two min_two max_three min_three max_four min_four   -- for this text's walks alone
namespace Go.Proofs.Ytcopakljdenolaa.Fn
mutual
def spec_l9Meet.l0 : Nat -> List (S57) -> Int -> List (S57) -> List (S57) -> Int -> Int -> Option ((List (S57)))
 | 0, _, _, _, _, _, _ => none
 | k + 1, x1, x2, x7, x15, x16, x17 => if x17 < x16 then (if 0 <= x17 then (if x17 < (x15.length : Int) then (spec_l9Meet.l1 k x1 x2 x7 x15 x16 x17 x1 (x1.length : Int) 0 ((rd_T57 x15 x17).f0) ((rd_T57 x15 x17).f1)) else (none)) else (none)) else (some x7)
def spec_l9Meet.l1 : Nat -> List (S57) -> Int -> List (S57) -> List (S57) -> Int -> Int -> List (S57) -> Int -> Int -> Int -> List Int -> Option ((List (S57)))
 | 0, _, _, _, _, _, _, _, _, _, _, _ => none
 | k + 1, x1, x2, x7, x15, x16, x17, x21, x22, x23, x280000, x280001 => if x23 < x22 then (if 0 <= x23 then (if x23 < (x21.length : Int) then (if x280000 = ((rd_T57 x21 x23).f0) then (spec_l9Meet.l2 k x1 x2 x7 x15 x16 x17 x21 x22 x23 x280001 (x280001.length : Int) 0 x280000 x280001 ((rd_T57 x21 x23).f0) ((rd_T57 x21 x23).f1) x280000 ([] : List Int)) else (spec_l9Meet.l1 k x1 x2 x7 x15 x16 x17 x21 x22 (wrap64 (x23 + 1)) x280000 x280001)) else (none)) else (none)) else (spec_l9Meet.l0 k x1 x2 x7 x15 x16 (wrap64 (x17 + 1)))
def spec_l9Meet.l2 : Nat -> List (S57) -> Int -> List (S57) -> List (S57) -> Int -> Int -> List (S57) -> Int -> Int -> List Int -> Int -> Int -> Int -> List Int -> Int -> List Int -> Int -> List Int -> Option ((List (S57)))
 | 0, _, _, _, _, _, _, _, _, _, _, _, _, _, _, _, _, _, _ => none
 | k + 1, x1, x2, x7, x15, x16, x17, x21, x22, x23, x36, x37, x38, x280000, x280001, x282000, x282001, x283000, x283001 => if x38 < x37 then (if 0 <= x38 then (if x38 < (x36.length : Int) then ((spec_l1Has.f k x282001 (wrap64 ((rd x36 x38) + x2))).bind fun t284 => (if t284 = true then (if x283001.length < 17592186044416 then (spec_l9Meet.l2 k x1 x2 x7 x15 x16 x17 x21 x22 x23 x36 x37 (wrap64 (x38 + 1)) x280000 x280001 x282000 x282001 x283000 (x283001 ++ [rd x36 x38])) else (none)) else (spec_l9Meet.l2 k x1 x2 x7 x15 x16 x17 x21 x22 x23 x36 x37 (wrap64 (x38 + 1)) x280000 x280001 x282000 x282001 x283000 x283001))) else (none)) else (none)) else (if (x283001.length : Int) > 0 then (if x7.length < 4398046511104 then (spec_l9Meet.l1 k x1 x2 (x7 ++ [(⟨x283000, x283001⟩ : S57)]) x15 x16 x17 x21 x22 (wrap64 (x23 + 1)) x280000 x280001) else (none)) else (spec_l9Meet.l1 k x1 x2 x7 x15 x16 x17 x21 x22 (wrap64 (x23 + 1)) x280000 x280001))
end
def spec_l9Meet.f (k : Nat) (l0 : List (S57)) (l1 : List (S57)) (a2 : Int) : Option ((List (S57))) := spec_l9Meet.l0 k l1 a2 ([] : List (S57)) l0 (l0.length : Int) 0
theorem spec_l9Meet.mono_l : ∀ k, (∀ y0 y1 y2 y3 y4 y5, LeO (spec_l9Meet.l0 k y0 y1 y2 y3 y4 y5) (spec_l9Meet.l0 (k + 1) y0 y1 y2 y3 y4 y5)) /\ (∀ y0 y1 y2 y3 y4 y5 y6 y7 y8 y9 y10, LeO (spec_l9Meet.l1 k y0 y1 y2 y3 y4 y5 y6 y7 y8 y9 y10) (spec_l9Meet.l1 (k + 1) y0 y1 y2 y3 y4 y5 y6 y7 y8 y9 y10)) /\ (∀ y0 y1 y2 y3 y4 y5 y6 y7 y8 y9 y10 y11 y12 y13 y14 y15 y16 y17, LeO (spec_l9Meet.l2 k y0 y1 y2 y3 y4 y5 y6 y7 y8 y9 y10 y11 y12 y13 y14 y15 y16 y17) (spec_l9Meet.l2 (k + 1) y0 y1 y2 y3 y4 y5 y6 y7 y8 y9 y10 y11 y12 y13 y14 y15 y16 y17))
 | 0 => ⟨fun _ _ _ _ _ _ r h => by simp [spec_l9Meet.l0] at h, fun _ _ _ _ _ _ _ _ _ _ _ r h => by simp [spec_l9Meet.l1] at h, fun _ _ _ _ _ _ _ _ _ _ _ _ _ _ _ _ _ _ r h => by simp [spec_l9Meet.l2] at h⟩
 | k + 1 => by
  obtain ⟨ih0, ih1, ih2⟩ := spec_l9Meet.mono_l k
  refine ⟨?_, ?_, ?_⟩
  ·intro y0 y1 y2 y3 y4 y5
   unfold spec_l9Meet.l0
   repeat' (with_reducible first | exact ih0 _ _ _ _ _ _ | exact ih1 _ _ _ _ _ _ _ _ _ _ _ | exact ih2 _ _ _ _ _ _ _ _ _ _ _ _ _ _ _ _ _ _ | exact spec_l1Has.mono _ _ _ | exact LeO.refl _ | exact LeO.none _ | refine LeO.ite ?_ ?_ | refine LeO.bind ?_ (fun _ => ?_))
  ·intro y0 y1 y2 y3 y4 y5 y6 y7 y8 y9 y10
   unfold spec_l9Meet.l1
   repeat' (with_reducible first | exact ih0 _ _ _ _ _ _ | exact ih1 _ _ _ _ _ _ _ _ _ _ _ | exact ih2 _ _ _ _ _ _ _ _ _ _ _ _ _ _ _ _ _ _ | exact spec_l1Has.mono _ _ _ | exact LeO.refl _ | exact LeO.none _ | refine LeO.ite ?_ ?_ | refine LeO.bind ?_ (fun _ => ?_))
  ·intro y0 y1 y2 y3 y4 y5 y6 y7 y8 y9 y10 y11 y12 y13 y14 y15 y16 y17
   unfold spec_l9Meet.l2
   repeat' (with_reducible first | exact ih0 _ _ _ _ _ _ | exact ih1 _ _ _ _ _ _ _ _ _ _ _ | exact ih2 _ _ _ _ _ _ _ _ _ _ _ _ _ _ _ _ _ _ | exact spec_l1Has.mono _ _ _ | exact LeO.refl _ | exact LeO.none _ | refine LeO.ite ?_ ?_ | refine LeO.bind ?_ (fun _ => ?_))
theorem spec_l9Meet.mono : ∀ a0 a1 a2 k, LeO (spec_l9Meet.f k a0 a1 a2) (spec_l9Meet.f (k + 1) a0 a1 a2) := by
 intro a0 a1 a2 k
 obtain ⟨ih0, ih1, ih2⟩ := spec_l9Meet.mono_l k
 unfold spec_l9Meet.f
 repeat' (with_reducible first | exact ih0 _ _ _ _ _ _ | exact ih1 _ _ _ _ _ _ _ _ _ _ _ | exact ih2 _ _ _ _ _ _ _ _ _ _ _ _ _ _ _ _ _ _ | exact spec_l1Has.mono _ _ _ | exact LeO.refl _ | exact LeO.none _ | refine LeO.ite ?_ ?_ | refine LeO.bind ?_ (fun _ => ?_))
theorem spec_l9Meet.calls (k : Nat) (A0 : Option Addr) (c0 : Nat) (l0 : List (S57)) (A1 : Option Addr) (c1 : Nat) (l1 : List (S57)) (a2 : Int) (r : List (S57)) (w : World) (hr0 : Kd.C k57 w A0 l0.length l0) (hc0 : l0.length <= c0) (hr1 : Kd.C k57 w A1 l1.length l1) (hc1 : l1.length <= c1) (h : spec_l9Meet.f k l0 l1 a2 = some r) :
  Calls Try.prog 71 #[.slice A0 l0.length c0, .slice A1 l1.length c1, .int .i64 a2] w fun e w' => ∃ v0_ : Value, e = .returned (v0_) /\ Kd.S k57 57 w' w.heap.size (fun _ => True) v0_ r /\ Below w.heap.size w w' := by
 have hu57 := Try.underlying57
 have HR0 := Aside0.mk hr0
 have HC0 := Aside0.mk hc0
 clear hr0 hc0
 have HR1 := Aside0.mk hr1
 have HC1 := Aside0.mk hc1
 clear hr1 hc1
 have HB := Aside0.mk (Below.refl w.heap.size w)
 have H : (spec_l9Meet.l0 k l1 a2 ([] : List (S57)) l0 (l0.length : Int) 0) = some r := h
 clear h
 have H' := Aside0.mk H
 clear H
 go_enter Try.func71, Try.ntmps71
 go_wp2
 go_loopg [7, 17] k (fun kq v7 v17 w' => ∃ (x7_1 : List (S57)) (x17_1 : Int), v17 = .int .i64 x17_1 /\ Aside0 (spec_l9Meet.l0 kq l1 a2 x7_1 l0 (l0.length : Int) x17_1 = some r) /\ Aside0 (kq <= k) /\ Aside0 (Kd.S k57 57 w' w.heap.size (fun _ => True) v7 x7_1) /\ Aside0 (Below w.heap.size w w'))
 case atStart => exact ⟨(([] : List (S57))), (0), (by first | rfl | (simp; done) | (simp [*]; done)), H', ⟨Nat.le_refl _⟩, ⟨by first | exact Kd.S_nil _ _ _ _ _ | exact Kd.N_nil _ _ _ _ _ | exact Kd.V_nil _ _ _ _ _ | exact Kd.Q_nil _ _ _ _ _ | exact Kd.R_nil _ _ _ _ _⟩, ⟨be_ HB.out⟩⟩
 case round =>
  clear H'
  (try clear c1); (try clear p2)
  obtain ⟨x7_1, x17_1, rfl, HA, HK1, HO_7, HB⟩ := hrel
  cases gk with
  | zero => exact absurd HA.out (by simp [spec_l9Meet.l0])
  | succ k1 =>
   have H := HA.out
   clear HA
   simp only [spec_l9Meet.l0] at H
   by_cases c4 : x17_1 < (l0.length : Int)
   ·rw [if_pos c4] at H
    have c4b0 : decide (x17_1 < (l0.length : Int)) = true := decide_eq_true c4
    clear c4
    by_cases c5 : 0 <= x17_1
    ·rw [if_pos c5] at H
     have c5b0 : decide (0 <= x17_1) = true := decide_eq_true c5
     clear c5
     by_cases c6 : x17_1 < (l0.length : Int)
     ·rw [if_pos c6] at H
      have c6b0 : decide (x17_1 < (l0.length : Int)) = true := decide_eq_true c6
      clear c6
      have H' := Aside0.mk H
      clear H
      have p278 : 0 <= (x17_1 : Int) := of_decide_eq_true as_
      have q278 : x17_1 < (l0.length : Int) := of_decide_eq_true as_
      obtain ⟨ad278, A278_1, c278_1, e278, hx278_0, hx278_1, hl278_1, hi278_1⟩ := at_T57 HR0.out x17_1 p278 q278
      cases e278
      replace hx278_0 := (HB.out.cell (World.block_lt_of_cell? w _ hx278_0)).trans hx278_0
      replace hx278_1 := (HB.out.cell (World.block_lt_of_cell? w _ hx278_1)).trans hx278_1
      have HR278_1 := Aside0.mk hi278_1
      have HC278_1 := Aside0.mk hl278_1
      clear hi278_1 hl278_1
      replace p278 := eq_true p278
      replace q278 := eq_true q278
      go_wp2_with (first | ((with_reducible refine gate_dst (N := 9) rfl ?_); refine box_event ?hg (N := 9) ?hd (cs := #[.int .i64 0, .slice none 0 0]) (t := 57) ?hr ?_; (case hd => rfl); (case hg => rfl); (case hr => first | (go_simp; done) | (go_simp; rfl)); intro gb279 hg w7 hbox hb; have n0_ := Aside0.mk (Kd.S_below (Kd.S_elderB (sk_ HO_7.out) gb279 (Nat.le_of_eq hg.symm)) hb); have n1_ := Aside0.mk (bs_ HB.out hb); have n2_ := Aside0.mk (hbox); have n3_ := Aside0.mk ((by rw [hg]; exact (bw_ HB.out) : w.heap.size <= gb279)); have n4_ := Aside0.mk ((by rw [hg]; exact (bw_ HB.out) : w.heap.size <= gb279)); clear HO_7; clear HB; have HO_7 := n0_; have HB := n1_; have BK279 := n2_; have GW279 := n3_; have GE279 := n4_; clear n0_ n1_ n2_ n3_ n4_; clear hb hbox hg; have hcz8_0 : w7.cell? ⟨gb279, 0, none⟩ = some (.int .i64 0) := (blk_cell BK279.out 0).trans rfl; have hcz8_1 : w7.cell? ⟨gb279, 1, none⟩ = some (.slice none 0 0) := (blk_cell BK279.out 1).trans rfl; have hfz8_0 := blk_frozen BK279.out 0; have hfz8_1 := blk_frozen BK279.out 1))
      go_loopg [7, 23] k1 (fun kq v7 v23 w' => ∃ (x7_2 : List (S57)) (x23_2 : Int), v23 = .int .i64 x23_2 /\ Aside0 (spec_l9Meet.l1 kq l1 a2 x7_2 l0 (l0.length : Int) x17_1 l1 (l1.length : Int) x23_2 ((rd_T57 l0 x17_1).f0) ((rd_T57 l0 x17_1).f1) = some r) /\ Aside0 (kq <= k1) /\ Aside0 (Kd.S k57 57 w' w.heap.size (fun k_ => k_ ≠ gb279) v7 x7_2) /\ Aside0 (w'.heap[gb279]? = some (.cells #[.int .i64 ((rd_T57 l0 x17_1).f0), (.slice A278_1 ((rd_T57 l0 x17_1).f1).length c278_1)] 57 (0, 0))) /\ Aside0 (Below w.heap.size w w'))
      case atStart => exact ⟨(x7_1), (0), (by first | rfl | (simp; done) | (simp [*]; done)), H', ⟨Nat.le_refl _⟩, ⟨by (with_reducible repeat (first | apply Kd.S_alloc | apply Kd.S_drewN | apply Kd.S_drew)); exact Kd.S_mono (Kd.S_far (p := ⟨gb279, 1, none⟩) (Kd.S_far (p := ⟨gb279, 0, none⟩) (Kd.S_mono HO_7.out (fun k_ hk => (⟨hk, hk.2⟩ : _ /\ k_ ≠ gb279))) (fun _ hk => hk.2) (.int .i64 ((rd_T57 l0 x17_1).f0))) (fun _ hk => hk.2) (.slice A278_1 ((rd_T57 l0 x17_1).f1).length c278_1)) (fun _ hk => hk.1.2)⟩, ⟨by (with_reducible repeat (first | refine blk_drewN ?_ _ | refine blk_drew ?_ | refine blk_alloc ?_ _)); refine blk_put (cs := #[.int .i64 ((rd_T57 l0 x17_1).f0), .slice none 0 0]) ?_ 1 _ rfl; (with_reducible repeat (first | refine blk_drewN ?_ _ | refine blk_drew ?_ | refine blk_alloc ?_ _)); refine blk_put (cs := #[.int .i64 0, .slice none 0 0]) ?_ 0 _ rfl; (with_reducible repeat (first | refine blk_drewN ?_ _ | refine blk_drew ?_ | refine blk_alloc ?_ _)); exact BK279.out⟩, ⟨be_ HB.out⟩⟩
      case round =>
       clear H'
       (try clear c1); (try clear c2); (try clear p2); (try clear q2); (try clear hx2); (try clear c4); (try clear c4b0); (try clear c5); (try clear c5b0); (try clear c6); (try clear c6b0); (try clear c7); (try clear hcz8_0); (try clear hcz8_1); (try clear hfz8_0); (try clear hfz8_1); (try clear hx278_0); (try clear hx278_1); (try clear p2); (try clear p278); (try clear q278)
       obtain ⟨x7_2, x23_2, rfl, HA, HK2, HO_7, BK279, HB⟩ := hrel
       cases gk with
       | zero => exact absurd HA.out (by simp [spec_l9Meet.l1])
       | succ k2 =>
        have H := HA.out
        clear HA
        simp only [spec_l9Meet.l1] at H
        by_cases c9 : x23_2 < (l1.length : Int)
        ·rw [if_pos c9] at H
         have c9b0 : decide (x23_2 < (l1.length : Int)) = true := decide_eq_true c9
         clear c9
         by_cases c10 : 0 <= x23_2
         ·rw [if_pos c10] at H
          have c10b0 : decide (0 <= x23_2) = true := decide_eq_true c10
          clear c10
          by_cases c11 : x23_2 < (l1.length : Int)
          ·rw [if_pos c11] at H
           have c11b0 : decide (x23_2 < (l1.length : Int)) = true := decide_eq_true c11
           clear c11
           by_cases c12 : ((rd_T57 l0 x17_1).f0) = ((rd_T57 l1 x23_2).f0)
           ·rw [if_pos c12] at H
            have c12b0 : (((rd_T57 l0 x17_1).f0) == ((rd_T57 l1 x23_2).f0)) = true := beq_iff_eq.mpr c12
            have c12b1 : (((rd_T57 l0 x17_1).f0) != ((rd_T57 l1 x23_2).f0)) = false := bne_eq_false_iff_eq.mpr c12
            clear c12
            have H' := Aside0.mk H
            clear H
            have p280 : 0 <= (x23_2 : Int) := of_decide_eq_true as_
            have q280 : x23_2 < (l1.length : Int) := of_decide_eq_true as_
            obtain ⟨ad280, A280_1, c280_1, e280, hx280_0, hx280_1, hl280_1, hi280_1⟩ := at_T57 HR1.out x23_2 p280 q280
            cases e280
            replace hx280_0 := (HB.out.cell (World.block_lt_of_cell? w _ hx280_0)).trans hx280_0
            replace hx280_1 := (HB.out.cell (World.block_lt_of_cell? w _ hx280_1)).trans hx280_1
            have HR280_1 := Aside0.mk hi280_1
            have HC280_1 := Aside0.mk hl280_1
            clear hi280_1 hl280_1
            replace p280 := eq_true p280
            replace q280 := eq_true q280
            go_wp2_with (first | ((with_reducible refine gate_dst (N := 11) rfl ?_); refine box_event ?hg (N := 11) ?hd (cs := #[.int .i64 0, .slice none 0 0]) (t := 57) ?hr ?_; (case hd => rfl); (case hg => rfl); (case hr => first | (go_simp; done) | (go_simp; rfl)); intro gb281 hg w13 hbox hb; have n0_ := Aside0.mk (Kd.S_below (Kd.S_elderB (sk_ HO_7.out) gb281 (Nat.le_of_eq hg.symm)) hb); have n1_ := Aside0.mk (blk_below (g := gb279) (o := .cells #[.int .i64 ((rd_T57 l0 x17_1).f0), .slice A278_1 ((rd_T57 l0 x17_1).f1).length c278_1] 57 (0, 0)) (pk_ BK279.out) hb); have n2_ := Aside0.mk (bs_ HB.out hb); have n3_ := Aside0.mk (hbox); have n4_ := Aside0.mk ((by rw [hg]; exact (bw_ HB.out) : w.heap.size <= gb281)); have n5_ := Aside0.mk ((by rw [hg]; exact (bw_ HB.out) : w.heap.size <= gb281)); have n6_ := Aside0.mk ((by rw [hg]; exact Nat.ne_of_lt (blk_lt (g := gb279) (o := .cells #[.int .i64 ((rd_T57 l0 x17_1).f0), .slice A278_1 ((rd_T57 l0 x17_1).f1).length c278_1] 57 (0, 0)) (pk_ BK279.out)) : gb279 ≠ gb281)); have n7_ := Aside0.mk ((by rw [hg]; exact Nat.ne_of_gt (blk_lt (g := gb279) (o := .cells #[.int .i64 ((rd_T57 l0 x17_1).f0), .slice A278_1 ((rd_T57 l0 x17_1).f1).length c278_1] 57 (0, 0)) (pk_ BK279.out)) : gb281 ≠ gb279)); clear HO_7; clear BK279; clear HB; have HO_7 := n0_; have BK279 := n1_; have HB := n2_; have BK281 := n3_; have GW281 := n4_; have GE281 := n5_; have NB279_281 := n6_; have NB281_279 := n7_; clear n0_ n1_ n2_ n3_ n4_ n5_ n6_ n7_; clear hb hbox hg; have hnb14 := NB281_279.out; have hnc14 := NB279_281.out; have hcz15_0 : w13.cell? ⟨gb281, 0, none⟩ = some (.int .i64 0) := (blk_cell BK281.out 0).trans rfl; have hcz15_1 : w13.cell? ⟨gb281, 1, none⟩ = some (.slice none 0 0) := (blk_cell BK281.out 1).trans rfl; have hfz15_0 := blk_frozen BK281.out 0; have hfz15_1 := blk_frozen BK281.out 1; have hcz16_0 : w13.cell? ⟨gb279, 0, none⟩ = some (.int .i64 ((rd_T57 l0 x17_1).f0)) := (blk_cell BK279.out 0).trans rfl; have hcz16_1 : w13.cell? ⟨gb279, 1, none⟩ = some (.slice A278_1 ((rd_T57 l0 x17_1).f1).length c278_1) := (blk_cell BK279.out 1).trans rfl; have hfz16_0 := blk_frozen BK279.out 0; have hfz16_1 := blk_frozen BK279.out 1) | ((with_reducible refine gate_dst (N := 12) rfl ?_); refine box_event ?hg (N := 12) ?hd (cs := #[.int .i64 0, .slice none 0 0]) (t := 57) ?hr ?_; (case hd => rfl); (case hg => rfl); (case hr => first | (go_simp; done) | (go_simp; rfl)); intro gb282 hg w17 hbox hb; have n0_ := Aside0.mk (Kd.S_below (Kd.S_elderB (by (with_reducible repeat (first | apply Kd.S_alloc | apply Kd.S_drewN | apply Kd.S_drew)); exact (Kd.S_mono (Kd.S_far (p := ⟨gb281, 1, none⟩) (Kd.S_far (p := ⟨gb281, 0, none⟩) (Kd.S_mono HO_7.out (fun k_ hk => (⟨hk, hk.2⟩ : _ /\ k_ ≠ gb281))) (fun _ hk => hk.2) (.int .i64 ((rd_T57 l1 x23_2).f0))) (fun _ hk => hk.2) (.slice A280_1 ((rd_T57 l1 x23_2).f1).length c280_1)) (fun _ h_ => h_.1))) gb282 (Nat.le_of_eq hg.symm)) hb); have n1_ := Aside0.mk (blk_below (g := gb279) (o := .cells #[.int .i64 ((rd_T57 l0 x17_1).f0), .slice A278_1 ((rd_T57 l0 x17_1).f1).length c278_1] 57 (0, 0)) (by refine pk_ ?_; refine blk_far ?_ NB279_281.out _; (with_reducible repeat (first | refine blk_drewN ?_ _ | refine blk_drew ?_ | refine blk_alloc ?_ _)); refine blk_far ?_ NB279_281.out _; (with_reducible repeat (first | refine blk_drewN ?_ _ | refine blk_drew ?_ | refine blk_alloc ?_ _)); exact BK279.out) hb); have n2_ := Aside0.mk (blk_below (g := gb281) (o := .cells #[.int .i64 ((rd_T57 l1 x23_2).f0), .slice A280_1 ((rd_T57 l1 x23_2).f1).length c280_1] 57 (0, 0)) (by refine pk_ ?_; refine blk_put (cs := #[.int .i64 ((rd_T57 l1 x23_2).f0), .slice none 0 0]) ?_ 1 _ rfl; (with_reducible repeat (first | refine blk_drewN ?_ _ | refine blk_drew ?_ | refine blk_alloc ?_ _)); refine blk_put (cs := #[.int .i64 0, .slice none 0 0]) ?_ 0 _ rfl; (with_reducible repeat (first | refine blk_drewN ?_ _ | refine blk_drew ?_ | refine blk_alloc ?_ _)); exact BK281.out) hb); have n3_ := Aside0.mk (bs_ HB.out hb); have n4_ := Aside0.mk (hbox); have n5_ := Aside0.mk ((by rw [hg]; exact (bw_ HB.out) : w.heap.size <= gb282)); have n6_ := Aside0.mk ((by rw [hg]; exact (bw_ HB.out) : w.heap.size <= gb282)); have n7_ := Aside0.mk ((by rw [hg]; exact Nat.ne_of_lt (blk_lt (g := gb279) (o := .cells #[.int .i64 ((rd_T57 l0 x17_1).f0), .slice A278_1 ((rd_T57 l0 x17_1).f1).length c278_1] 57 (0, 0)) (by (with_reducible repeat (first | refine blk_drewN ?_ _ | refine blk_drew ?_ | refine blk_alloc ?_ _)); refine blk_far ?_ NB279_281.out _; (with_reducible repeat (first | refine blk_drewN ?_ _ | refine blk_drew ?_ | refine blk_alloc ?_ _)); refine blk_far ?_ NB279_281.out _; (with_reducible repeat (first | refine blk_drewN ?_ _ | refine blk_drew ?_ | refine blk_alloc ?_ _)); exact BK279.out)) : gb279 ≠ gb282)); have n8_ := Aside0.mk ((by rw [hg]; exact Nat.ne_of_gt (blk_lt (g := gb279) (o := .cells #[.int .i64 ((rd_T57 l0 x17_1).f0), .slice A278_1 ((rd_T57 l0 x17_1).f1).length c278_1] 57 (0, 0)) (by (with_reducible repeat (first | refine blk_drewN ?_ _ | refine blk_drew ?_ | refine blk_alloc ?_ _)); refine blk_far ?_ NB279_281.out _; (with_reducible repeat (first | refine blk_drewN ?_ _ | refine blk_drew ?_ | refine blk_alloc ?_ _)); refine blk_far ?_ NB279_281.out _; (with_reducible repeat (first | refine blk_drewN ?_ _ | refine blk_drew ?_ | refine blk_alloc ?_ _)); exact BK279.out)) : gb282 ≠ gb279)); have n9_ := Aside0.mk ((by rw [hg]; exact Nat.ne_of_lt (blk_lt (g := gb281) (o := .cells #[.int .i64 ((rd_T57 l1 x23_2).f0), .slice A280_1 ((rd_T57 l1 x23_2).f1).length c280_1] 57 (0, 0)) (by (with_reducible repeat (first | refine blk_drewN ?_ _ | refine blk_drew ?_ | refine blk_alloc ?_ _)); refine blk_put (cs := #[.int .i64 ((rd_T57 l1 x23_2).f0), .slice none 0 0]) ?_ 1 _ rfl; (with_reducible repeat (first | refine blk_drewN ?_ _ | refine blk_drew ?_ | refine blk_alloc ?_ _)); refine blk_put (cs := #[.int .i64 0, .slice none 0 0]) ?_ 0 _ rfl; (with_reducible repeat (first | refine blk_drewN ?_ _ | refine blk_drew ?_ | refine blk_alloc ?_ _)); exact BK281.out)) : gb281 ≠ gb282)); have n10_ := Aside0.mk ((by rw [hg]; exact Nat.ne_of_gt (blk_lt (g := gb281) (o := .cells #[.int .i64 ((rd_T57 l1 x23_2).f0), .slice A280_1 ((rd_T57 l1 x23_2).f1).length c280_1] 57 (0, 0)) (by (with_reducible repeat (first | refine blk_drewN ?_ _ | refine blk_drew ?_ | refine blk_alloc ?_ _)); refine blk_put (cs := #[.int .i64 ((rd_T57 l1 x23_2).f0), .slice none 0 0]) ?_ 1 _ rfl; (with_reducible repeat (first | refine blk_drewN ?_ _ | refine blk_drew ?_ | refine blk_alloc ?_ _)); refine blk_put (cs := #[.int .i64 0, .slice none 0 0]) ?_ 0 _ rfl; (with_reducible repeat (first | refine blk_drewN ?_ _ | refine blk_drew ?_ | refine blk_alloc ?_ _)); exact BK281.out)) : gb282 ≠ gb281)); clear HO_7; clear BK279; clear BK281; clear HB; have HO_7 := n0_; have BK279 := n1_; have BK281 := n2_; have HB := n3_; have BK282 := n4_; have GW282 := n5_; have GE282 := n6_; have NB279_282 := n7_; have NB282_279 := n8_; have NB281_282 := n9_; have NB282_281 := n10_; clear n0_ n1_ n2_ n3_ n4_ n5_ n6_ n7_ n8_ n9_ n10_; clear hb hbox hg; have hnb18 := NB282_279.out; have hnc18 := NB279_282.out; have hnb19 := NB282_281.out; have hnc19 := NB281_282.out; have hcz20_0 : w17.cell? ⟨gb282, 0, none⟩ = some (.int .i64 0) := (blk_cell BK282.out 0).trans rfl; have hcz20_1 : w17.cell? ⟨gb282, 1, none⟩ = some (.slice none 0 0) := (blk_cell BK282.out 1).trans rfl; have hfz20_0 := blk_frozen BK282.out 0; have hfz20_1 := blk_frozen BK282.out 1; have hcz21_0 : w17.cell? ⟨gb279, 0, none⟩ = some (.int .i64 ((rd_T57 l0 x17_1).f0)) := (blk_cell BK279.out 0).trans rfl; have hcz21_1 : w17.cell? ⟨gb279, 1, none⟩ = some (.slice A278_1 ((rd_T57 l0 x17_1).f1).length c278_1) := (blk_cell BK279.out 1).trans rfl; have hfz21_0 := blk_frozen BK279.out 0; have hfz21_1 := blk_frozen BK279.out 1))
            go_loopg [38] k2 (fun kq v38 w' => ∃ (x38_3 : Int) (x283001_3 : List Int) (u283001 : Value), v38 = .int .i64 x38_3 /\ Aside0 (spec_l9Meet.l2 kq l1 a2 x7_2 l0 (l0.length : Int) x17_1 l1 (l1.length : Int) x23_2 ((rd_T57 l0 x17_1).f1) (((rd_T57 l0 x17_1).f1).length : Int) x38_3 ((rd_T57 l0 x17_1).f0) ((rd_T57 l0 x17_1).f1) ((rd_T57 l1 x23_2).f0) ((rd_T57 l1 x23_2).f1) ((rd_T57 l0 x17_1).f0) x283001_3 = some r) /\ Aside0 (kq <= k2) /\ Aside0 (Kd.S k57 57 w' w.heap.size (fun k_ => some k_ ≠ (u283001 : Value).ownBlock /\ k_ ≠ gb279 /\ k_ ≠ gb281 /\ k_ ≠ gb282) u7 x7_2) /\ Aside0 (Kd.R (Kd.int .i64) 3 w' w.heap.size (fun _ => True) u283001 x283001_3) /\ Aside0 (w'.heap[gb279]? = some (.cells #[.int .i64 ((rd_T57 l0 x17_1).f0), (.slice A278_1 ((rd_T57 l0 x17_1).f1).length c278_1)] 57 (0, 0))) /\ Aside0 (w'.heap[gb281]? = some (.cells #[.int .i64 ((rd_T57 l1 x23_2).f0), (.slice A280_1 ((rd_T57 l1 x23_2).f1).length c280_1)] 57 (0, 0))) /\ Aside0 (w'.heap[gb282]? = some (.cells #[.int .i64 ((rd_T57 l0 x17_1).f0), u283001] 57 (0, 0))) /\ Aside0 (Below w.heap.size w w'))
            case atStart => exact ⟨(0), (([] : List Int)), (.slice none 0 0), (by first | rfl | (simp; done) | (simp [*]; done)), H', ⟨Nat.le_refl _⟩, ⟨by (with_reducible repeat (first | apply Kd.S_alloc | apply Kd.S_drewN | apply Kd.S_drew)); exact Kd.S_mono (Kd.S_far (p := ⟨gb282, 1, none⟩) (Kd.S_far (p := ⟨gb282, 0, none⟩) (Kd.S_mono HO_7.out (fun k_ hk => (⟨hk, hk.2⟩ : _ /\ k_ ≠ gb282))) (fun _ hk => hk.2) (.int .i64 ((rd_T57 l0 x17_1).f0))) (fun _ hk => hk.2) (.slice none 0 0)) (fun _ hk => ⟨(by simp [Value.ownBlock]), ⟨hk.1.1.1, ⟨hk.1.1.2, hk.1.2⟩⟩⟩)⟩, ⟨by first | exact Kd.R_nil _ _ _ _ _ | exact Kd.N_nil _ _ _ _ _ | exact Kd.V_nil _ _ _ _ _ | exact Kd.Q_nil _ _ _ _ _ | exact Kd.S_nil _ _ _ _ _⟩, ⟨by (with_reducible repeat (first | refine blk_drewN ?_ _ | refine blk_drew ?_ | refine blk_alloc ?_ _)); refine blk_far ?_ NB279_282.out _; (with_reducible repeat (first | refine blk_drewN ?_ _ | refine blk_drew ?_ | refine blk_alloc ?_ _)); refine blk_far ?_ NB279_282.out _; (with_reducible repeat (first | refine blk_drewN ?_ _ | refine blk_drew ?_ | refine blk_alloc ?_ _)); exact BK279.out⟩, ⟨by (with_reducible repeat (first | refine blk_drewN ?_ _ | refine blk_drew ?_ | refine blk_alloc ?_ _)); refine blk_far ?_ NB281_282.out _; (with_reducible repeat (first | refine blk_drewN ?_ _ | refine blk_drew ?_ | refine blk_alloc ?_ _)); refine blk_far ?_ NB281_282.out _; (with_reducible repeat (first | refine blk_drewN ?_ _ | refine blk_drew ?_ | refine blk_alloc ?_ _)); exact BK281.out⟩, ⟨by (with_reducible repeat (first | refine blk_drewN ?_ _ | refine blk_drew ?_ | refine blk_alloc ?_ _)); refine blk_put (cs := #[.int .i64 ((rd_T57 l0 x17_1).f0), .slice none 0 0]) ?_ 1 _ rfl; (with_reducible repeat (first | refine blk_drewN ?_ _ | refine blk_drew ?_ | refine blk_alloc ?_ _)); refine blk_put (cs := #[.int .i64 0, .slice none 0 0]) ?_ 0 _ rfl; (with_reducible repeat (first | refine blk_drewN ?_ _ | refine blk_drew ?_ | refine blk_alloc ?_ _)); exact BK282.out⟩, ⟨be_ HB.out⟩⟩
            case round =>
             clear H'
             (try clear c1); (try clear c2); (try clear p2); (try clear q2); (try clear hx2); (try clear c4); (try clear c4b0); (try clear c5); (try clear c5b0); (try clear c6); (try clear c6b0); (try clear c7); (try clear c9); (try clear c9b0); (try clear c10); (try clear c10b0); (try clear c11); (try clear c11b0); (try clear c12); (try clear c12b0); (try clear c12b1); (try clear c14); (try clear c18); (try clear c19); (try clear hcz15_0); (try clear hcz15_1); (try clear hcz16_0); (try clear hcz16_1); (try clear hcz20_0); (try clear hcz20_1); (try clear hcz21_0); (try clear hcz21_1); (try clear hcz8_0); (try clear hcz8_1); (try clear hfz15_0); (try clear hfz15_1); (try clear hfz16_0); (try clear hfz16_1); (try clear hfz20_0); (try clear hfz20_1); (try clear hfz21_0); (try clear hfz21_1); (try clear hfz8_0); (try clear hfz8_1); (try clear hx278_0); (try clear hx278_1); (try clear hx280_0); (try clear hx280_1); (try clear p2); (try clear p278); (try clear p280); (try clear q2); (try clear q278); (try clear q280)
             obtain ⟨x38_3, x283001_3, u283001, rfl, HA, HK3, HO_7, HO_283001, BK279, BK281, BK282, HB⟩ := hrel
             cases gk with
             | zero => exact absurd HA.out (by simp [spec_l9Meet.l2])
             | succ k3 =>
              have H := HA.out
              clear HA
              simp only [spec_l9Meet.l2] at H
              by_cases c22 : x38_3 < (((rd_T57 l0 x17_1).f1).length : Int)
              ·rw [if_pos c22] at H
               have c22b0 : decide (x38_3 < (((rd_T57 l0 x17_1).f1).length : Int)) = true := decide_eq_true c22
               clear c22
               by_cases c23 : 0 <= x38_3
               ·rw [if_pos c23] at H
                have c23b0 : decide (0 <= x38_3) = true := decide_eq_true c23
                clear c23
                by_cases c24 : x38_3 < (((rd_T57 l0 x17_1).f1).length : Int)
                ·rw [if_pos c24] at H
                 have c24b0 : decide (x38_3 < (((rd_T57 l0 x17_1).f1).length : Int)) = true := decide_eq_true c24
                 clear c24
                 replace H := Option.bind_eq_some_iff.mp H
                 obtain ⟨t284, A250, H⟩ := H
                 replace H : (if t284 = true then (if x283001_3.length < 17592186044416 then (spec_l9Meet.l2 k3 l1 a2 x7_2 l0 (l0.length : Int) x17_1 l1 (l1.length : Int) x23_2 ((rd_T57 l0 x17_1).f1) (((rd_T57 l0 x17_1).f1).length : Int) (wrap64 (x38_3 + 1)) ((rd_T57 l0 x17_1).f0) ((rd_T57 l0 x17_1).f1) ((rd_T57 l1 x23_2).f0) ((rd_T57 l1 x23_2).f1) ((rd_T57 l0 x17_1).f0) (x283001_3 ++ [rd ((rd_T57 l0 x17_1).f1) x38_3])) else (none)) else (spec_l9Meet.l2 k3 l1 a2 x7_2 l0 (l0.length : Int) x17_1 l1 (l1.length : Int) x23_2 ((rd_T57 l0 x17_1).f1) (((rd_T57 l0 x17_1).f1).length : Int) (wrap64 (x38_3 + 1)) ((rd_T57 l0 x17_1).f0) ((rd_T57 l0 x17_1).f1) ((rd_T57 l1 x23_2).f0) ((rd_T57 l1 x23_2).f1) ((rd_T57 l0 x17_1).f0) x283001_3)) = some r := H
                 have A25 := Aside0.mk A250
                 clear A250
                 by_cases c26 : t284 = true
                 ·subst c26
                  have H1 : (if x283001_3.length < 17592186044416 then (spec_l9Meet.l2 k3 l1 a2 x7_2 l0 (l0.length : Int) x17_1 l1 (l1.length : Int) x23_2 ((rd_T57 l0 x17_1).f1) (((rd_T57 l0 x17_1).f1).length : Int) (wrap64 (x38_3 + 1)) ((rd_T57 l0 x17_1).f0) ((rd_T57 l0 x17_1).f1) ((rd_T57 l1 x23_2).f0) ((rd_T57 l1 x23_2).f1) ((rd_T57 l0 x17_1).f0) (x283001_3 ++ [rd ((rd_T57 l0 x17_1).f1) x38_3])) else (none)) = some r := by rw [if_pos rfl] at H; exact H
                  clear H
                  have H := H1
                  clear H1
                  by_cases c27 : x283001_3.length < 17592186044416
                  ·rw [if_pos c27] at H
                   have LMc27 := Aside0.mk c27
                   clear c27
                   obtain ⟨y285, hy285⟩ : ∃ y_ : List Int, y_ = (x283001_3 ++ [rd ((rd_T57 l0 x17_1).f1) x38_3]) := ⟨_, rfl⟩
                   replace H : (spec_l9Meet.l2 k3 l1 a2 x7_2 l0 (l0.length : Int) x17_1 l1 (l1.length : Int) x23_2 ((rd_T57 l0 x17_1).f1) (((rd_T57 l0 x17_1).f1).length : Int) (wrap64 (x38_3 + 1)) ((rd_T57 l0 x17_1).f0) ((rd_T57 l0 x17_1).f1) ((rd_T57 l1 x23_2).f0) ((rd_T57 l1 x23_2).f1) ((rd_T57 l0 x17_1).f0) y285) = some r := by first | (rw [hy285]; with_reducible exact H) | (have H2_ := (Option.bind_some _ _).symm.trans H; rw [hy285]; with_reducible exact H2_) | (have H2_ := (Option.bind_some _ _).symm.trans H; with_reducible exact H2_) | with_reducible exact H | (rw [hy285]; exact H) | exact H
                   have Ny285 := Aside0.mk hy285
                   clear hy285
                   have H' := Aside0.mk H
                   clear H
                   have p283 : 0 <= (x38_3 : Int) := of_decide_eq_true as_
                   have q283 : x38_3 < (((rd_T57 l0 x17_1).f1).length : Int) := of_decide_eq_true as_
                   obtain ⟨ad283, e283, hx283_0⟩ := Kd.at_int HR278_1.out x38_3 p283 q283
                   cases e283
                   replace hx283_0 := (HB.out.cell (World.block_lt_of_cell? w _ hx283_0)).trans hx283_0
                   replace p283 := eq_true p283
                   replace q283 := eq_true q283
                   have hnb28 := NB281_279.out
                   have hnc28 := NB279_281.out
                   have hnb29 := NB281_282.out
                   have hnc29 := NB282_281.out
                   have hcz30_0 : wr.cell? ⟨gb281, 0, none⟩ = some (.int .i64 ((rd_T57 l1 x23_2).f0)) := (blk_cell BK281.out 0).trans rfl
                   have hcz30_1 : wr.cell? ⟨gb281, 1, none⟩ = some (.slice A280_1 ((rd_T57 l1 x23_2).f1).length c280_1) := (blk_cell BK281.out 1).trans rfl
                   have hfz30_0 := blk_frozen BK281.out 0
                   have hfz30_1 := blk_frozen BK281.out 1
                   go_wp2_with (first | ((with_reducible refine gate_callee (f := 99) rfl ?_); refine goesL_ (some 47) rfl rfl Try.func99 (by kernel_rfl) rfl #[.slice A280_1 ((rd_T57 l1 x23_2).f1).length c280_1, .int .i64 (wrap64 ((rd ((rd_T57 l0 x17_1).f1) x38_3) + a2))] rfl (ag_) ?_; (with_reducible refine (spec_l1Has.calls k3 _ _ ((rd_T57 l1 x23_2).f1) (wrap64 ((rd ((rd_T57 l0 x17_1).f1) x38_3) + a2)) true _ ?side1 ?side2 A25.out).mono ?_); (case side1 => refine cd_ ?_; exact (Kd.C_below HR280_1.out HB.out)); (case side2 => exact HC280_1.out); rintro e w' ⟨rfl, ⟨nd, rfl⟩⟩; refine ⟨_, rfl, ?_⟩; (try (rw [drewN_self wr]; generalize hq_ : World.drewN wr _ = wr; have n0_ : Aside0 (Kd.R (Kd.int .i64) 3 wr w.heap.size (fun _ => True) u283001 x283001_3) := ⟨by rw [<- hq_]; exact (rk_ HO_283001.out)⟩; have n1_ : Aside0 (Kd.S k57 57 wr w.heap.size (fun k_ => some k_ ≠ (u283001 : Value).ownBlock /\ k_ ≠ gb279 /\ k_ ≠ gb281 /\ k_ ≠ gb282) u7 x7_2) := ⟨by rw [<- hq_]; exact (sk_ HO_7.out)⟩; have n2_ : Aside0 (wr.heap[gb279]? = some (.cells #[.int .i64 ((rd_T57 l0 x17_1).f0), .slice (some ad283) ((rd_T57 l0 x17_1).f1).length c278_1] 57 (0, 0))) := ⟨by rw [<- hq_]; exact (pk_ BK279.out)⟩; have n3_ : Aside0 (wr.heap[gb281]? = some (.cells #[.int .i64 ((rd_T57 l1 x23_2).f0), .slice A280_1 ((rd_T57 l1 x23_2).f1).length c280_1] 57 (0, 0))) := ⟨by rw [<- hq_]; exact (pk_ BK281.out)⟩; have n4_ : Aside0 (wr.heap[gb282]? = some (.cells #[.int .i64 ((rd_T57 l0 x17_1).f0), u283001] 57 (0, 0))) := ⟨by rw [<- hq_]; exact (pk_ BK282.out)⟩; have n5_ : Aside0 (Below w.heap.size w wr) := ⟨by rw [<- hq_]; exact (be_ HB.out)⟩; clear HO_283001 HO_7 BK279 BK281 BK282 HB hq_; have HO_283001 := n0_; have HO_7 := n1_; have BK279 := n2_; have BK281 := n3_; have BK282 := n4_; have HB := n5_; clear n0_ n1_ n2_ n3_ n4_ n5_)); have hnb31 := NB282_279.out; have hnc31 := NB279_282.out; have hcz32_0 : wr.cell? ⟨gb282, 0, none⟩ = some (.int .i64 ((rd_T57 l0 x17_1).f0)) := (blk_cell BK282.out 0).trans rfl; have hcz32_1 : wr.cell? ⟨gb282, 1, none⟩ = some (u283001) := (blk_cell BK282.out 1).trans rfl; have hfz32_0 := blk_frozen BK282.out 0; have hfz32_1 := blk_frozen BK282.out 1) | ((with_reducible refine gate_builtin (b := .append) (xs := #[.tmp 49, .tmp 51]) rfl ?_); at_builtin; refine Kd.R_append (Kd.int .i64) (w0 := w) w.heap.size rfl (.tmp 49) (.tmp 51) 47 3 (.int .i64 0) 8 rfl Try.underlying47 info3 rfl (by decide) (by omega) u283001 x283001_3 (rd ((rd_T57 l0 x17_1).f1) x38_3) [.int .i64 (rd ((rd_T57 l0 x17_1).f1) x38_3)] (fun _ => True) (fun _ => False) rfl rfl ?aP (fun _ hk => hk.elim) ?aF ?aO ?aB ?aS ?aL ?_; (case aP => exact rfl); (case aB => exact (be_ HB.out)); (case aF => exact (fun _ _ => trivial)); (case aO => exact (rk_ HO_283001.out)); (case aS => exact (bw_ HB.out)); (case aL => have := LMc27.out; omega); intro v286 w33 ho hb hg hat; rw [<- Ny285.out] at ho; have n0_ := Aside0.mk (Kd.S_after (ok := (fun k_ => k_ ≠ gb279 /\ k_ ≠ gb281 /\ k_ ≠ gb282)) (by (with_reducible repeat (first | apply Kd.S_alloc | apply Kd.S_drewN | apply Kd.S_drew)); exact Kd.S_mono HO_7.out (fun _ hk => ⟨⟨hk.2.1, ⟨hk.2.2.1, hk.2.2.2⟩⟩, hk.1⟩)) hg hat); have n1_ := Aside0.mk (blk_grown (g := gb279) (o := .cells #[.int .i64 ((rd_T57 l0 x17_1).f0), .slice (some ad283) ((rd_T57 l0 x17_1).f1).length c278_1] 57 (0, 0)) (pk_ BK279.out) hg (Kd.R_ne HO_283001.out BK279.out (by decide))); have n2_ := Aside0.mk (blk_grown (g := gb281) (o := .cells #[.int .i64 ((rd_T57 l1 x23_2).f0), .slice A280_1 ((rd_T57 l1 x23_2).f1).length c280_1] 57 (0, 0)) (pk_ BK281.out) hg (Kd.R_ne HO_283001.out BK281.out (by decide))); have n3_ := Aside0.mk (blk_grown (g := gb282) (o := .cells #[.int .i64 ((rd_T57 l0 x17_1).f0), u283001] 57 (0, 0)) (pk_ BK282.out) hg (Kd.R_ne HO_283001.out BK282.out (by decide))); have n4_ := Aside0.mk (hb); have n5_ := Aside0.mk (ho); clear HO_7; clear BK279; clear BK281; clear BK282; clear HB; clear HO_283001; have HO_7 := n0_; have BK279 := n1_; have BK281 := n2_; have BK282 := n3_; have HB := n4_; have HO287 := n5_; clear n0_ n1_ n2_ n3_ n4_ n5_; clear ho hb hg hat; obtain ⟨Ao34, co34, eo34⟩ := Kd.R_slice HO287.out; subst eo34; have hcz35_0 : w33.cell? ⟨gb282, 0, none⟩ = some (.int .i64 ((rd_T57 l0 x17_1).f0)) := (blk_cell BK282.out 0).trans rfl; have hcz35_1 : w33.cell? ⟨gb282, 1, none⟩ = some (u283001) := (blk_cell BK282.out 1).trans rfl; have hfz35_0 := blk_frozen BK282.out 0; have hfz35_1 := blk_frozen BK282.out 1))
                   go_roundg k3
                   case measure => have := HK1.out; have := HK2.out; have := HK3.out; omega
                   case rel => exact ⟨(wrap64 (x38_3 + 1)), (y285), (.slice Ao34 y285.length co34), (by first | rfl | (simp; done) | (simp [*]; done)), H', ⟨by have := HK1.out; have := HK2.out; have := HK3.out; omega⟩, ⟨by (with_reducible repeat (first | apply Kd.S_alloc | apply Kd.S_drewN | apply Kd.S_drew)); exact Kd.S_mono (Kd.S_far (p := ⟨gb282, 1, none⟩) (Kd.S_mono HO_7.out (fun k_ hk => (⟨hk, hk.1.2.2⟩ : _ /\ k_ ≠ gb282))) (fun _ hk => hk.2) (.slice Ao34 y285.length co34)) (fun _ hk => ⟨hk.1.2, ⟨hk.1.1.1, ⟨hk.1.1.2.1, hk.1.1.2.2⟩⟩⟩)⟩, ⟨by (with_reducible repeat (first | apply Kd.R_alloc | apply Kd.R_drewN | apply Kd.R_drew)); exact Kd.R_mono (Kd.R_far (p := ⟨gb282, 1, none⟩) (Kd.R_types HO287.out BK282.out (by decide)) (fun _ hk => hk.2) (.slice Ao34 y285.length co34)) (fun _ hk => trivial)⟩, ⟨by (with_reducible repeat (first | refine blk_drewN ?_ _ | refine blk_drew ?_ | refine blk_alloc ?_ _)); refine blk_far ?_ NB279_282.out _; (with_reducible repeat (first | refine blk_drewN ?_ _ | refine blk_drew ?_ | refine blk_alloc ?_ _)); exact BK279.out⟩, ⟨by (with_reducible repeat (first | refine blk_drewN ?_ _ | refine blk_drew ?_ | refine blk_alloc ?_ _)); refine blk_far ?_ NB281_282.out _; (with_reducible repeat (first | refine blk_drewN ?_ _ | refine blk_drew ?_ | refine blk_alloc ?_ _)); exact BK281.out⟩, ⟨by (with_reducible repeat (first | refine blk_drewN ?_ _ | refine blk_drew ?_ | refine blk_alloc ?_ _)); refine blk_put (cs := #[.int .i64 ((rd_T57 l0 x17_1).f0), u283001]) ?_ 1 _ rfl; (with_reducible repeat (first | refine blk_drewN ?_ _ | refine blk_drew ?_ | refine blk_alloc ?_ _)); exact BK282.out⟩, ⟨be_ HB.out⟩⟩
                  ·rw [if_neg c27] at H
                   exact absurd H (by simp)
                 ·replace c26 := Bool.eq_false_iff.mpr c26
                  subst c26
                  have H1 : (spec_l9Meet.l2 k3 l1 a2 x7_2 l0 (l0.length : Int) x17_1 l1 (l1.length : Int) x23_2 ((rd_T57 l0 x17_1).f1) (((rd_T57 l0 x17_1).f1).length : Int) (wrap64 (x38_3 + 1)) ((rd_T57 l0 x17_1).f0) ((rd_T57 l0 x17_1).f1) ((rd_T57 l1 x23_2).f0) ((rd_T57 l1 x23_2).f1) ((rd_T57 l0 x17_1).f0) x283001_3) = some r := by rw [if_neg (show ¬ (false = true) by decide)] at H; exact H
                  clear H
                  have H := H1
                  clear H1
                  have H' := Aside0.mk H
                  clear H
                  have p283 : 0 <= (x38_3 : Int) := of_decide_eq_true as_
                  have q283 : x38_3 < (((rd_T57 l0 x17_1).f1).length : Int) := of_decide_eq_true as_
                  obtain ⟨ad283, e283, hx283_0⟩ := Kd.at_int HR278_1.out x38_3 p283 q283
                  cases e283
                  replace hx283_0 := (HB.out.cell (World.block_lt_of_cell? w _ hx283_0)).trans hx283_0
                  replace p283 := eq_true p283
                  replace q283 := eq_true q283
                  have hnb36 := NB281_279.out
                  have hnc36 := NB279_281.out
                  have hnb37 := NB281_282.out
                  have hnc37 := NB282_281.out
                  have hcz38_0 : wr.cell? ⟨gb281, 0, none⟩ = some (.int .i64 ((rd_T57 l1 x23_2).f0)) := (blk_cell BK281.out 0).trans rfl
                  have hcz38_1 : wr.cell? ⟨gb281, 1, none⟩ = some (.slice A280_1 ((rd_T57 l1 x23_2).f1).length c280_1) := (blk_cell BK281.out 1).trans rfl
                  have hfz38_0 := blk_frozen BK281.out 0
                  have hfz38_1 := blk_frozen BK281.out 1
                  go_wp2_with (first | ((with_reducible refine gate_callee (f := 99) rfl ?_); refine goesL_ (some 47) rfl rfl Try.func99 (by kernel_rfl) rfl #[.slice A280_1 ((rd_T57 l1 x23_2).f1).length c280_1, .int .i64 (wrap64 ((rd ((rd_T57 l0 x17_1).f1) x38_3) + a2))] rfl (ag_) ?_; (with_reducible refine (spec_l1Has.calls k3 _ _ ((rd_T57 l1 x23_2).f1) (wrap64 ((rd ((rd_T57 l0 x17_1).f1) x38_3) + a2)) false _ ?side1 ?side2 A25.out).mono ?_); (case side1 => refine cd_ ?_; exact (Kd.C_below HR280_1.out HB.out)); (case side2 => exact HC280_1.out); rintro e w' ⟨rfl, ⟨nd, rfl⟩⟩; refine ⟨_, rfl, ?_⟩))
                  go_roundg k3
                  case measure => have := HK1.out; have := HK2.out; have := HK3.out; omega
                  case rel => exact ⟨(wrap64 (x38_3 + 1)), (x283001_3), (u283001), (by first | rfl | (simp; done) | (simp [*]; done)), H', ⟨by have := HK1.out; have := HK2.out; have := HK3.out; omega⟩, ⟨sk_ HO_7.out⟩, ⟨rk_ HO_283001.out⟩, ⟨pk_ BK279.out⟩, ⟨pk_ BK281.out⟩, ⟨pk_ BK282.out⟩, ⟨be_ HB.out⟩⟩
                ·rw [if_neg c24] at H
                 exact absurd H (by simp)
               ·rw [if_neg c23] at H
                exact absurd H (by simp)
              ·rw [if_neg c22] at H
               have c22b0 : decide (x38_3 < (((rd_T57 l0 x17_1).f1).length : Int)) = false := decide_eq_false c22
               clear c22
               by_cases c39 : (x283001_3.length : Int) > 0
               ·rw [if_pos c39] at H
                have c39b0 : decide (0 < (x283001_3.length : Int)) = true := decide_eq_true c39
                have c39b1 : decide (0 < x283001_3.length) = true := decide_eq_true (by omega)
                clear c39
                by_cases c40 : x7_2.length < 4398046511104
                ·rw [if_pos c40] at H
                 have LMc40 := Aside0.mk c40
                 clear c40
                 obtain ⟨y288, hy288⟩ : ∃ y_ : List (S57), y_ = (x7_2 ++ [(⟨((rd_T57 l0 x17_1).f0), x283001_3⟩ : S57)]) := ⟨_, rfl⟩
                 replace H : (spec_l9Meet.l1 k3 l1 a2 y288 l0 (l0.length : Int) x17_1 l1 (l1.length : Int) (wrap64 (x23_2 + 1)) ((rd_T57 l0 x17_1).f0) ((rd_T57 l0 x17_1).f1)) = some r := by first | (rw [hy288]; with_reducible exact H) | (have H2_ := (Option.bind_some _ _).symm.trans H; rw [hy288]; with_reducible exact H2_) | (have H2_ := (Option.bind_some _ _).symm.trans H; with_reducible exact H2_) | with_reducible exact H | (rw [hy288]; exact H) | exact H
                 have Ny288 := Aside0.mk hy288
                 clear hy288
                 have H' := Aside0.mk H
                 clear H
                 have hnb41 := NB282_279.out
                 have hnc41 := NB279_282.out
                 have hnb42 := NB282_281.out
                 have hnc42 := NB281_282.out
                 have hcz43_0 : wr.cell? ⟨gb282, 0, none⟩ = some (.int .i64 ((rd_T57 l0 x17_1).f0)) := (blk_cell BK282.out 0).trans rfl
                 have hcz43_1 : wr.cell? ⟨gb282, 1, none⟩ = some (u283001) := (blk_cell BK282.out 1).trans rfl
                 have hfz43_0 := blk_frozen BK282.out 0
                 have hfz43_1 := blk_frozen BK282.out 1
                 obtain ⟨Ao44, co44, eo44⟩ := Kd.R_slice HO_283001.out
                 subst eo44
                 go_wp2_with (first | ((with_reducible refine gate_builtin (b := .append) (xs := #[.tmp 59, .tmp 61]) rfl ?_); at_builtin; refine Kd.S_append k57 (w0 := w) w.heap.size rfl (.tmp 59) (.tmp 61) 28 57 (.agg #[(.int .i64 0), (.slice none 0 0)]) 32 rfl Try.underlying28 info57 rfl (by decide) (by omega) u7 x7_2 (⟨((rd_T57 l0 x17_1).f0), x283001_3⟩ : S57) [.int .i64 ((rd_T57 l0 x17_1).f0), .slice Ao44 x283001_3.length co44] (fun k_ => k_ ≠ gb279 /\ k_ ≠ gb281 /\ k_ ≠ gb282) (fun k_ => some k_ = (.slice Ao44 x283001_3.length co44 : Value).ownBlock) rfl rfl ?aP (fun k_ hk_ => ((Kd.R_mono (ok' := fun k_ => ((fun k_ => k_ ≠ gb279 /\ k_ ≠ gb281 /\ k_ ≠ gb282)) k_ /\ some k_ ≠ (u7 : Value).ownBlock) (Kd.R_types (Kd.R_types (Kd.R_types (Kd.R_apart' (HO_283001.out) (Kd.S_typed HO_7.out) (by decide)) BK279.out (by decide)) BK281.out (by decide)) BK282.out (by decide)) (fun k_ hk => ⟨⟨hk.1.1.2, ⟨hk.1.2, hk.2⟩⟩, hk.1.1.1.2⟩))).1 k_ hk_.symm) ?aF ?aO ?aB ?aS ?aL ?_; (case aP => exact k57_mkM _ _ _ (⟨((rd_T57 l0 x17_1).f0), x283001_3⟩ : S57) (Kd.R_mono (Kd.R_tight rfl (Kd.R_mono (ok' := fun k_ => ((fun k_ => k_ ≠ gb279 /\ k_ ≠ gb281 /\ k_ ≠ gb282)) k_ /\ some k_ ≠ (u7 : Value).ownBlock) (Kd.R_types (Kd.R_types (Kd.R_types (Kd.R_apart' (HO_283001.out) (Kd.S_typed HO_7.out) (by decide)) BK279.out (by decide)) BK281.out (by decide)) BK282.out (by decide)) (fun k_ hk => ⟨⟨hk.1.1.2, ⟨hk.1.2, hk.2⟩⟩, hk.1.1.1.2⟩))) (fun _ h_ => h_))); (case aB => exact (be_ HB.out)); (case aF => exact (fun k_ hk => ⟨Kd.freshB (g := gb279) (o := .cells #[.int .i64 ((rd_T57 l0 x17_1).f0), .slice A278_1 ((rd_T57 l0 x17_1).f1).length c278_1] 57 (0, 0)) (pk_ BK279.out) k_ hk, Kd.freshB (g := gb281) (o := .cells #[.int .i64 ((rd_T57 l1 x23_2).f0), .slice A280_1 ((rd_T57 l1 x23_2).f1).length c280_1] 57 (0, 0)) (pk_ BK281.out) k_ hk, Kd.freshB (g := gb282) (o := .cells #[.int .i64 ((rd_T57 l0 x17_1).f0), .slice Ao44 x283001_3.length co44] 57 (0, 0)) (pk_ BK282.out) k_ hk⟩)); (case aO => exact (by (with_reducible repeat (first | apply Kd.S_alloc | apply Kd.S_drewN | apply Kd.S_drew)); exact Kd.S_mono HO_7.out (fun k_ hk => ⟨⟨hk.2.1, ⟨hk.2.2.1, hk.2.2.2⟩⟩, fun e_ => hk.1 e_⟩))); (case aS => exact (bw_ HB.out)); (case aL => have := LMc40.out; omega); intro v289 w45 ho hb hg hat; rw [<- Ny288.out] at ho; have n0_ := Aside0.mk (blk_grown (g := gb279) (o := .cells #[.int .i64 ((rd_T57 l0 x17_1).f0), .slice A278_1 ((rd_T57 l0 x17_1).f1).length c278_1] 57 (0, 0)) (pk_ BK279.out) hg (Kd.S_away HO_7.out (fun _ hk => hk.2.1))); have n1_ := Aside0.mk (blk_grown (g := gb281) (o := .cells #[.int .i64 ((rd_T57 l1 x23_2).f0), .slice A280_1 ((rd_T57 l1 x23_2).f1).length c280_1] 57 (0, 0)) (pk_ BK281.out) hg (Kd.S_away HO_7.out (fun _ hk => hk.2.2.1))); have n2_ := Aside0.mk (blk_grown (g := gb282) (o := .cells #[.int .i64 ((rd_T57 l0 x17_1).f0), .slice Ao44 x283001_3.length co44] 57 (0, 0)) (pk_ BK282.out) hg (Kd.S_away HO_7.out (fun _ hk => hk.2.2.2))); have n3_ := Aside0.mk (hb); have n4_ := Aside0.mk (ho); clear BK279; clear BK281; clear BK282; clear HB; clear HO_7; clear HO_283001; have BK279 := n0_; have BK281 := n1_; have BK282 := n2_; have HB := n3_; have HO290 := n4_; clear n0_ n1_ n2_ n3_ n4_; clear ho hb hg hat))
                 go_roundg k3
                 case measure => have := HK1.out; have := HK2.out; have := HK3.out; omega
                 case rel => exact ⟨(y288), (wrap64 (x23_2 + 1)), (by first | rfl | (simp; done) | (simp [*]; done)), H', ⟨by have := HK1.out; have := HK2.out; have := HK3.out; omega⟩, ⟨by (with_reducible repeat (first | apply Kd.S_alloc | apply Kd.S_drewN | apply Kd.S_drew)); exact Kd.S_mono HO290.out (fun _ hk => hk.1)⟩, ⟨pk_ BK279.out⟩, ⟨be_ HB.out⟩⟩
                ·rw [if_neg c40] at H
                 exact absurd H (by simp)
               ·rw [if_neg c39] at H
                have c39b0 : decide (0 < (x283001_3.length : Int)) = false := decide_eq_false c39
                have c39b1 : decide (0 < x283001_3.length) = false := decide_eq_false (by omega)
                clear c39
                have H' := Aside0.mk H
                clear H
                have hnb46 := NB282_279.out
                have hnc46 := NB279_282.out
                have hnb47 := NB282_281.out
                have hnc47 := NB281_282.out
                have hcz48_0 : wr.cell? ⟨gb282, 0, none⟩ = some (.int .i64 ((rd_T57 l0 x17_1).f0)) := (blk_cell BK282.out 0).trans rfl
                have hcz48_1 : wr.cell? ⟨gb282, 1, none⟩ = some (u283001) := (blk_cell BK282.out 1).trans rfl
                have hfz48_0 := blk_frozen BK282.out 0
                have hfz48_1 := blk_frozen BK282.out 1
                obtain ⟨Ao49, co49, eo49⟩ := Kd.R_slice HO_283001.out
                subst eo49
                go_wp2
                go_roundg k3
                case measure => have := HK1.out; have := HK2.out; have := HK3.out; omega
                case rel => exact ⟨(x7_2), (wrap64 (x23_2 + 1)), (by first | rfl | (simp; done) | (simp [*]; done)), H', ⟨by have := HK1.out; have := HK2.out; have := HK3.out; omega⟩, ⟨by (with_reducible repeat (first | apply Kd.S_alloc | apply Kd.S_drewN | apply Kd.S_drew)); exact Kd.S_mono HO_7.out (fun _ hk => hk.2.1)⟩, ⟨pk_ BK279.out⟩, ⟨be_ HB.out⟩⟩
           ·rw [if_neg c12] at H
            have c12b0 : (((rd_T57 l0 x17_1).f0) == ((rd_T57 l1 x23_2).f0)) = false := beq_eq_false_iff_ne.mpr c12
            have c12b1 : (((rd_T57 l0 x17_1).f0) != ((rd_T57 l1 x23_2).f0)) = true := bne_iff_ne.mpr c12
            have H' := Aside0.mk H
            clear H
            have p280 : 0 <= (x23_2 : Int) := of_decide_eq_true as_
            have q280 : x23_2 < (l1.length : Int) := of_decide_eq_true as_
            obtain ⟨ad280, A280_1, c280_1, e280, hx280_0, hx280_1, hl280_1, hi280_1⟩ := at_T57 HR1.out x23_2 p280 q280
            cases e280
            replace hx280_0 := (HB.out.cell (World.block_lt_of_cell? w _ hx280_0)).trans hx280_0
            replace hx280_1 := (HB.out.cell (World.block_lt_of_cell? w _ hx280_1)).trans hx280_1
            have HR280_1 := Aside0.mk hi280_1
            have HC280_1 := Aside0.mk hl280_1
            clear hi280_1 hl280_1
            replace p280 := eq_true p280
            replace q280 := eq_true q280
            go_wp2_with (first | ((with_reducible refine gate_dst (N := 11) rfl ?_); refine box_event ?hg (N := 11) ?hd (cs := #[.int .i64 0, .slice none 0 0]) (t := 57) ?hr ?_; (case hd => rfl); (case hg => rfl); (case hr => first | (go_simp; done) | (go_simp; rfl)); intro gb281 hg w50 hbox hb; have n0_ := Aside0.mk (Kd.S_below (Kd.S_elderB (sk_ HO_7.out) gb281 (Nat.le_of_eq hg.symm)) hb); have n1_ := Aside0.mk (blk_below (g := gb279) (o := .cells #[.int .i64 ((rd_T57 l0 x17_1).f0), .slice A278_1 ((rd_T57 l0 x17_1).f1).length c278_1] 57 (0, 0)) (pk_ BK279.out) hb); have n2_ := Aside0.mk (bs_ HB.out hb); have n3_ := Aside0.mk (hbox); have n4_ := Aside0.mk ((by rw [hg]; exact (bw_ HB.out) : w.heap.size <= gb281)); have n5_ := Aside0.mk ((by rw [hg]; exact (bw_ HB.out) : w.heap.size <= gb281)); have n6_ := Aside0.mk ((by rw [hg]; exact Nat.ne_of_lt (blk_lt (g := gb279) (o := .cells #[.int .i64 ((rd_T57 l0 x17_1).f0), .slice A278_1 ((rd_T57 l0 x17_1).f1).length c278_1] 57 (0, 0)) (pk_ BK279.out)) : gb279 ≠ gb281)); have n7_ := Aside0.mk ((by rw [hg]; exact Nat.ne_of_gt (blk_lt (g := gb279) (o := .cells #[.int .i64 ((rd_T57 l0 x17_1).f0), .slice A278_1 ((rd_T57 l0 x17_1).f1).length c278_1] 57 (0, 0)) (pk_ BK279.out)) : gb281 ≠ gb279)); clear HO_7; clear BK279; clear HB; have HO_7 := n0_; have BK279 := n1_; have HB := n2_; have BK281 := n3_; have GW281 := n4_; have GE281 := n5_; have NB279_281 := n6_; have NB281_279 := n7_; clear n0_ n1_ n2_ n3_ n4_ n5_ n6_ n7_; clear hb hbox hg; have hnb51 := NB281_279.out; have hnc51 := NB279_281.out; have hcz52_0 : w50.cell? ⟨gb281, 0, none⟩ = some (.int .i64 0) := (blk_cell BK281.out 0).trans rfl; have hcz52_1 : w50.cell? ⟨gb281, 1, none⟩ = some (.slice none 0 0) := (blk_cell BK281.out 1).trans rfl; have hfz52_0 := blk_frozen BK281.out 0; have hfz52_1 := blk_frozen BK281.out 1; have hcz53_0 : w50.cell? ⟨gb279, 0, none⟩ = some (.int .i64 ((rd_T57 l0 x17_1).f0)) := (blk_cell BK279.out 0).trans rfl; have hcz53_1 : w50.cell? ⟨gb279, 1, none⟩ = some (.slice A278_1 ((rd_T57 l0 x17_1).f1).length c278_1) := (blk_cell BK279.out 1).trans rfl; have hfz53_0 := blk_frozen BK279.out 0; have hfz53_1 := blk_frozen BK279.out 1))
            go_roundg k2
            case measure => have := HK1.out; have := HK2.out; omega
            case rel => exact ⟨(x7_2), (wrap64 (x23_2 + 1)), (by first | rfl | (simp; done) | (simp [*]; done)), H', ⟨by have := HK1.out; have := HK2.out; omega⟩, ⟨by (with_reducible repeat (first | apply Kd.S_alloc | apply Kd.S_drewN | apply Kd.S_drew)); exact Kd.S_mono (Kd.S_far (p := ⟨gb281, 1, none⟩) (Kd.S_far (p := ⟨gb281, 0, none⟩) (Kd.S_mono HO_7.out (fun k_ hk => (⟨hk, hk.2⟩ : _ /\ k_ ≠ gb281))) (fun _ hk => hk.2) (.int .i64 ((rd_T57 l1 x23_2).f0))) (fun _ hk => hk.2) (.slice A280_1 ((rd_T57 l1 x23_2).f1).length c280_1)) (fun _ hk => hk.1.1)⟩, ⟨by (with_reducible repeat (first | refine blk_drewN ?_ _ | refine blk_drew ?_ | refine blk_alloc ?_ _)); refine blk_far ?_ NB279_281.out _; (with_reducible repeat (first | refine blk_drewN ?_ _ | refine blk_drew ?_ | refine blk_alloc ?_ _)); refine blk_far ?_ NB279_281.out _; (with_reducible repeat (first | refine blk_drewN ?_ _ | refine blk_drew ?_ | refine blk_alloc ?_ _)); exact BK279.out⟩, ⟨be_ HB.out⟩⟩
          ·rw [if_neg c11] at H
           exact absurd H (by simp)
         ·rw [if_neg c10] at H
          exact absurd H (by simp)
        ·rw [if_neg c9] at H
         have c9b0 : decide (x23_2 < (l1.length : Int)) = false := decide_eq_false c9
         clear c9
         have H' := Aside0.mk H
         clear H
         go_wp2
         go_roundg k2
         case measure => have := HK1.out; have := HK2.out; omega
         case rel => exact ⟨(x7_2), (wrap64 (x17_1 + 1)), (by first | rfl | (simp; done) | (simp [*]; done)), H', ⟨by have := HK1.out; have := HK2.out; omega⟩, ⟨by (with_reducible repeat (first | apply Kd.S_alloc | apply Kd.S_drewN | apply Kd.S_drew)); exact Kd.S_mono HO_7.out (fun _ hk => trivial)⟩, ⟨be_ HB.out⟩⟩
     ·rw [if_neg c6] at H
      exact absurd H (by simp)
    ·rw [if_neg c5] at H
     exact absurd H (by simp)
   ·rw [if_neg c4] at H
    have c4b0 : decide (x17_1 < (l0.length : Int)) = false := decide_eq_false c4
    clear c4
    obtain rfl := Option.some.inj H
    go_wp2
    go_ret
    exact ⟨_, ew_, by (with_reducible repeat (first | apply Kd.S_alloc | apply Kd.S_drewN | apply Kd.S_drew)); exact HO_7.out, by repeat (first | (with_reducible first | exact HB.out | apply below_alloc | apply pw_below_drewN | apply below_drew1) | exact HB.out)⟩
def spec_MeetPosts.f (k : Nat) (l0 : List (S57)) (l1 : List (S57)) (a2 : Int) : Option ((List (S57)) × Bool) := (spec_GoodPosts.f k l0).bind fun t291 => (if t291 = true then ((spec_GoodPosts.f k l1).bind fun t292 => (if t292 = true then ((spec_l1In.f a2 (-20) 20).bind fun t293 => (if t293 = true then ((spec_l9Meet.f k l0 l1 a2).bind fun t294 => (some (t294, true))) else (some (([] : List (S57)), false)))) else (some (([] : List (S57)), false)))) else (some (([] : List (S57)), false)))
theorem spec_MeetPosts.mono : ∀ a0 a1 a2 k, LeO (spec_MeetPosts.f k a0 a1 a2) (spec_MeetPosts.f (k + 1) a0 a1 a2) := by
 intro a0 a1 a2 k
 unfold spec_MeetPosts.f
 repeat' (with_reducible first | exact spec_GoodPosts.mono _ _ | exact spec_l9Meet.mono _ _ _ _ | exact LeO.refl _ | exact LeO.none _ | refine LeO.ite ?_ ?_ | refine LeO.bind ?_ (fun _ => ?_))
theorem spec_MeetPosts.calls (k : Nat) (A0 : Option Addr) (c0 : Nat) (l0 : List (S57)) (A1 : Option Addr) (c1 : Nat) (l1 : List (S57)) (a2 : Int) (r1 : List (S57)) (r2 : Bool) (w : World) (hr0 : Kd.C k57 w A0 l0.length l0) (hc0 : l0.length <= c0) (hr1 : Kd.C k57 w A1 l1.length l1) (hc1 : l1.length <= c1) (h : spec_MeetPosts.f k l0 l1 a2 = some (r1, r2)) :
  Calls Try.prog 33 #[.slice A0 l0.length c0, .slice A1 l1.length c1, .int .i64 a2] w fun e w' => ∃ v0_ : Value, e = .returned (.tuple #[v0_, .bool r2]) /\ Kd.S k57 57 w' w.heap.size (fun _ => True) v0_ r1 /\ Below w.heap.size w w' := by
 have HR0 := Aside0.mk hr0
 have HC0 := Aside0.mk hc0
 clear hr0 hc0
 have HR1 := Aside0.mk hr1
 have HC1 := Aside0.mk hc1
 clear hr1 hc1
 have HB := Aside0.mk (Below.refl w.heap.size w)
 have H : ((spec_GoodPosts.f k l0).bind fun t291 => (if t291 = true then ((spec_GoodPosts.f k l1).bind fun t292 => (if t292 = true then ((spec_l1In.f a2 (-20) 20).bind fun t293 => (if t293 = true then ((spec_l9Meet.f k l0 l1 a2).bind fun t294 => (some (t294, true))) else (some (([] : List (S57)), false)))) else (some (([] : List (S57)), false)))) else (some (([] : List (S57)), false)))) = some (r1, r2) := h
 clear h
 replace H := Option.bind_eq_some_iff.mp H
 obtain ⟨t291, A40, H⟩ := H
 replace H : (if t291 = true then ((spec_GoodPosts.f k l1).bind fun t292 => (if t292 = true then ((spec_l1In.f a2 (-20) 20).bind fun t293 => (if t293 = true then ((spec_l9Meet.f k l0 l1 a2).bind fun t294 => (some (t294, true))) else (some (([] : List (S57)), false)))) else (some (([] : List (S57)), false)))) else (some (([] : List (S57)), false))) = some (r1, r2) := H
 have A4 := Aside0.mk A40
 clear A40
 by_cases c5 : t291 = true
 ·subst c5
  have H1 : ((spec_GoodPosts.f k l1).bind fun t292 => (if t292 = true then ((spec_l1In.f a2 (-20) 20).bind fun t293 => (if t293 = true then ((spec_l9Meet.f k l0 l1 a2).bind fun t294 => (some (t294, true))) else (some (([] : List (S57)), false)))) else (some (([] : List (S57)), false)))) = some (r1, r2) := by rw [if_pos rfl] at H; exact H
  clear H
  have H := H1
  clear H1
  replace H := Option.bind_eq_some_iff.mp H
  obtain ⟨t292, A60, H⟩ := H
  replace H : (if t292 = true then ((spec_l1In.f a2 (-20) 20).bind fun t293 => (if t293 = true then ((spec_l9Meet.f k l0 l1 a2).bind fun t294 => (some (t294, true))) else (some (([] : List (S57)), false)))) else (some (([] : List (S57)), false))) = some (r1, r2) := H
  have A6 := Aside0.mk A60
  clear A60
  by_cases c7 : t292 = true
  ·subst c7
   have H1 : ((spec_l1In.f a2 (-20) 20).bind fun t293 => (if t293 = true then ((spec_l9Meet.f k l0 l1 a2).bind fun t294 => (some (t294, true))) else (some (([] : List (S57)), false)))) = some (r1, r2) := by rw [if_pos rfl] at H; exact H
   clear H
   have H := H1
   clear H1
   replace H := Option.bind_eq_some_iff.mp H
   obtain ⟨t293, A80, H⟩ := H
   replace H : (if t293 = true then ((spec_l9Meet.f k l0 l1 a2).bind fun t294 => (some (t294, true))) else (some (([] : List (S57)), false))) = some (r1, r2) := H
   have A8 := Aside0.mk A80
   clear A80
   by_cases c9 : t293 = true
   ·subst c9
    have H1 : ((spec_l9Meet.f k l0 l1 a2).bind fun t294 => (some (t294, true))) = some (r1, r2) := by rw [if_pos rfl] at H; exact H
    clear H
    have H := H1
    clear H1
    replace H := Option.bind_eq_some_iff.mp H
    obtain ⟨t294, A100, H⟩ := H
    replace H : (some (t294, true)) = some (r1, r2) := H
    have A10 := Aside0.mk A100
    clear A100
    simp only [Option.some.injEq, Prod.mk.injEq] at H
    obtain ⟨rfl, rfl⟩ := H
    go_enter Try.func33, Try.ntmps33
    go_wp2_with (first | ((with_reducible refine gate_callee (f := 30) rfl ?_); refine goesL_ (some 9) rfl rfl Try.func30 (by kernel_rfl) rfl #[.slice A0 l0.length c0] rfl (ag_) ?_; (with_reducible refine (spec_GoodPosts.calls k _ _ l0 true _ ?side1 ?side2 A4.out).mono ?_); (case side1 => refine cd_ ?_; exact HR0.out); (case side2 => exact HC0.out); rintro e w11 ⟨rfl, hb⟩; refine ⟨_, rfl, ?_⟩; have n0_ := Aside0.mk (bs_ HB.out hb); clear HB; have HB := n0_; clear n0_; (try clear hb); (try clear hb2); (try clear hk); (try clear hi)) | (go_at_call 30; (with_reducible refine (spec_GoodPosts.calls k _ _ l1 true _ ?side1 ?side2 A6.out).mono ?_); (case side1 => refine cd_ ?_; exact (Kd.C_below HR1.out HB.out)); (case side2 => exact HC1.out); rintro e w12 ⟨rfl, hb⟩; have n0_ := Aside0.mk (bs_ HB.out hb); clear HB; have HB := n0_; clear n0_; (try clear hb); (try clear hb2); (try clear hk); (try clear hi)) | (go_at_call 67; (with_reducible refine (spec_l1In.calls a2 (-20) 20 true _ A8.out).mono ?_); rintro e w' ⟨rfl, ⟨nd, rfl⟩⟩) | ((with_reducible refine gate_callee (f := 71) rfl ?_); refine goesL_ (some 24) rfl rfl Try.func71 (by kernel_rfl) rfl #[.slice A0 l0.length c0, .slice A1 l1.length c1, .int .i64 a2] rfl (ag_) ?_; (with_reducible refine (spec_l9Meet.calls k _ _ l0 _ _ l1 a2 t294 _ ?side1 ?side2 ?side3 ?side4 A10.out).mono ?_); (case side1 => repeat (first | exact (Kd.C_below HR0.out (be_ HB.out)) | (with_reducible refine Kd.C_alloc ?_ _) | (with_reducible refine Kd.C_drewN ?_ _) | (with_reducible refine Kd.C_drew ?_))); (case side2 => exact HC0.out); (case side3 => repeat (first | exact (Kd.C_below HR1.out (be_ HB.out)) | (with_reducible refine Kd.C_alloc ?_ _) | (with_reducible refine Kd.C_drewN ?_ _) | (with_reducible refine Kd.C_drew ?_))); (case side4 => exact HC1.out); rintro e w13 ⟨v295, rfl, ho0, hb⟩; refine ⟨_, rfl, ?_⟩; have n0_ := Aside0.mk (Kd.S_lower ho0 (bw_ HB.out)); have n1_ := Aside0.mk (bs_ HB.out hb); clear HB; have HO296 := n0_; have HB := n1_; clear n0_ n1_; (try clear hb); (try clear hb2); (try clear hk); (try clear hi); (try clear ho0)))
    go_ret2
    exact ⟨_, ew_, by (with_reducible repeat (first | apply Kd.S_alloc | apply Kd.S_drewN | apply Kd.S_drew)); exact HO296.out, by repeat (first | (with_reducible first | exact HB.out | apply below_alloc | apply pw_below_drewN | apply below_drew1) | exact HB.out)⟩
   ·replace c9 := Bool.eq_false_iff.mpr c9
    subst c9
    have H1 : (some (([] : List (S57)), false)) = some (r1, r2) := by rw [if_neg (show ¬ (false = true) by decide)] at H; exact H
    clear H
    have H := H1
    clear H1
    simp only [Option.some.injEq, Prod.mk.injEq] at H
    obtain ⟨rfl, rfl⟩ := H
    go_enter Try.func33, Try.ntmps33
    go_wp2_with (first | ((with_reducible refine gate_callee (f := 30) rfl ?_); refine goesL_ (some 9) rfl rfl Try.func30 (by kernel_rfl) rfl #[.slice A0 l0.length c0] rfl (ag_) ?_; (with_reducible refine (spec_GoodPosts.calls k _ _ l0 true _ ?side1 ?side2 A4.out).mono ?_); (case side1 => refine cd_ ?_; exact HR0.out); (case side2 => exact HC0.out); rintro e w14 ⟨rfl, hb⟩; refine ⟨_, rfl, ?_⟩; have n0_ := Aside0.mk (bs_ HB.out hb); clear HB; have HB := n0_; clear n0_; (try clear hb); (try clear hb2); (try clear hk); (try clear hi)) | (go_at_call 30; (with_reducible refine (spec_GoodPosts.calls k _ _ l1 true _ ?side1 ?side2 A6.out).mono ?_); (case side1 => refine cd_ ?_; exact (Kd.C_below HR1.out HB.out)); (case side2 => exact HC1.out); rintro e w15 ⟨rfl, hb⟩; have n0_ := Aside0.mk (bs_ HB.out hb); clear HB; have HB := n0_; clear n0_; (try clear hb); (try clear hb2); (try clear hk); (try clear hi)) | (go_at_call 67; (with_reducible refine (spec_l1In.calls a2 (-20) 20 false _ A8.out).mono ?_); rintro e w' ⟨rfl, ⟨nd, rfl⟩⟩))
    go_ret2
    exact ⟨_, ew_, by first | exact Kd.S_nil _ _ _ _ _ | exact Kd.N_nil _ _ _ _ _ | exact Kd.V_nil _ _ _ _ _ | exact Kd.Q_nil _ _ _ _ _ | exact Kd.R_nil _ _ _ _ _, by repeat (first | (with_reducible first | exact HB.out | apply below_alloc | apply pw_below_drewN | apply below_drew1) | exact HB.out)⟩
  ·replace c7 := Bool.eq_false_iff.mpr c7
   subst c7
   have H1 : (some (([] : List (S57)), false)) = some (r1, r2) := by rw [if_neg (show ¬ (false = true) by decide)] at H; exact H
   clear H
   have H := H1
   clear H1
   simp only [Option.some.injEq, Prod.mk.injEq] at H
   obtain ⟨rfl, rfl⟩ := H
   go_enter Try.func33, Try.ntmps33
   go_wp2_with (first | ((with_reducible refine gate_callee (f := 30) rfl ?_); refine goesL_ (some 9) rfl rfl Try.func30 (by kernel_rfl) rfl #[.slice A0 l0.length c0] rfl (ag_) ?_; (with_reducible refine (spec_GoodPosts.calls k _ _ l0 true _ ?side1 ?side2 A4.out).mono ?_); (case side1 => refine cd_ ?_; exact HR0.out); (case side2 => exact HC0.out); rintro e w16 ⟨rfl, hb⟩; refine ⟨_, rfl, ?_⟩; have n0_ := Aside0.mk (bs_ HB.out hb); clear HB; have HB := n0_; clear n0_; (try clear hb); (try clear hb2); (try clear hk); (try clear hi)) | (go_at_call 30; (with_reducible refine (spec_GoodPosts.calls k _ _ l1 false _ ?side1 ?side2 A6.out).mono ?_); (case side1 => refine cd_ ?_; exact (Kd.C_below HR1.out HB.out)); (case side2 => exact HC1.out); rintro e w17 ⟨rfl, hb⟩; have n0_ := Aside0.mk (bs_ HB.out hb); clear HB; have HB := n0_; clear n0_; (try clear hb); (try clear hb2); (try clear hk); (try clear hi)))
   go_ret2
   exact ⟨_, ew_, by first | exact Kd.S_nil _ _ _ _ _ | exact Kd.N_nil _ _ _ _ _ | exact Kd.V_nil _ _ _ _ _ | exact Kd.Q_nil _ _ _ _ _ | exact Kd.R_nil _ _ _ _ _, by repeat (first | (with_reducible first | exact HB.out | apply below_alloc | apply pw_below_drewN | apply below_drew1) | exact HB.out)⟩
 ·replace c5 := Bool.eq_false_iff.mpr c5
  subst c5
  have H1 : (some (([] : List (S57)), false)) = some (r1, r2) := by rw [if_neg (show ¬ (false = true) by decide)] at H; exact H
  clear H
  have H := H1
  clear H1
  simp only [Option.some.injEq, Prod.mk.injEq] at H
  obtain ⟨rfl, rfl⟩ := H
  go_enter Try.func33, Try.ntmps33
  go_wp2_with (first | ((with_reducible refine gate_callee (f := 30) rfl ?_); refine goesL_ (some 9) rfl rfl Try.func30 (by kernel_rfl) rfl #[.slice A0 l0.length c0] rfl (ag_) ?_; (with_reducible refine (spec_GoodPosts.calls k _ _ l0 false _ ?side1 ?side2 A4.out).mono ?_); (case side1 => refine cd_ ?_; exact HR0.out); (case side2 => exact HC0.out); rintro e w18 ⟨rfl, hb⟩; refine ⟨_, rfl, ?_⟩; have n0_ := Aside0.mk (bs_ HB.out hb); clear HB; have HB := n0_; clear n0_; (try clear hb); (try clear hb2); (try clear hk); (try clear hi)))
  go_ret2
  exact ⟨_, ew_, by first | exact Kd.S_nil _ _ _ _ _ | exact Kd.N_nil _ _ _ _ _ | exact Kd.V_nil _ _ _ _ _ | exact Kd.Q_nil _ _ _ _ _ | exact Kd.R_nil _ _ _ _ _, by repeat (first | (with_reducible first | exact HB.out | apply below_alloc | apply pw_below_drewN | apply below_drew1) | exact HB.out)⟩
def slices_Index_int_int.l0 : Nat -> List Int -> Int -> Int -> Int -> Option (Int)
 | 0, _, _, _, _ => none
 | k + 1, x0, x1, x7, x8 => if x8 < x7 then (if 0 <= x8 then (if x8 < (x0.length : Int) then (if x1 = (rd x0 x8) then (some x8) else (slices_Index_int_int.l0 k x0 x1 x7 (wrap64 (x8 + 1)))) else (none)) else (none)) else (some (-1))
def slices_Index_int_int.f (k : Nat) (l0 : List Int) (a1 : Int) : Option (Int) := slices_Index_int_int.l0 k l0 a1 (l0.length : Int) 0
theorem slices_Index_int_int.mono_l : ∀ k, (∀ y0 y1 y2 y3, LeO (slices_Index_int_int.l0 k y0 y1 y2 y3) (slices_Index_int_int.l0 (k + 1) y0 y1 y2 y3))
 | 0 => fun _ _ _ _ r h => by simp [slices_Index_int_int.l0] at h
 | k + 1 => by
  have ih0 := slices_Index_int_int.mono_l k
  ·intro y0 y1 y2 y3
   unfold slices_Index_int_int.l0
   repeat' (with_reducible first | exact ih0 _ _ _ _ | exact LeO.refl _ | exact LeO.none _ | refine LeO.ite ?_ ?_ | refine LeO.bind ?_ (fun _ => ?_))
theorem slices_Index_int_int.mono : ∀ a0 a1 k, LeO (slices_Index_int_int.f k a0 a1) (slices_Index_int_int.f (k + 1) a0 a1) := by
 intro a0 a1 k
 have ih0 := slices_Index_int_int.mono_l k
 unfold slices_Index_int_int.f
 repeat' (with_reducible first | exact ih0 _ _ _ _ | exact LeO.refl _ | exact LeO.none _ | refine LeO.ite ?_ ?_ | refine LeO.bind ?_ (fun _ => ?_))
theorem slices_Index_int_int.calls (k : Nat) (A0 : Option Addr) (c0 : Nat) (l0 : List Int) (a1 : Int) (r : Int) (w : World) (hr0 : Kd.C (Kd.int .i64) w A0 l0.length l0) (hc0 : l0.length <= c0) (h : slices_Index_int_int.f k l0 a1 = some r) :
  Calls Try.prog 119 #[.slice A0 l0.length c0, .int .i64 a1] w fun e w' => e = .returned (.int .i64 r) /\ Drawn0 w w' := by
 have HR0 := Aside0.mk hr0
 have HC0 := Aside0.mk hc0
 clear hr0 hc0
 have H : (slices_Index_int_int.l0 k l0 a1 (l0.length : Int) 0) = some r := h
 clear h
 have H' := Aside0.mk H
 clear H
 go_enter Try.func119, Try.ntmps119
 go_wp2
 go_loopg [8] k (fun kq v8 w' => ∃ (x8_1 : Int), v8 = .int .i64 x8_1 /\ Aside0 (slices_Index_int_int.l0 kq l0 a1 (l0.length : Int) x8_1 = some r) /\ Aside0 (kq <= k) /\ Drawn0 w w')
 case atStart => exact ⟨(0), (by first | rfl | (simp; done) | (simp [*]; done)), H', ⟨Nat.le_refl _⟩, by repeat (first | exact Drawn0.refl _ | apply Drawn0.step)⟩
 case round =>
  clear H'
  (try clear c1); (try clear p2)
  obtain ⟨x8_1, rfl, HA, HK1, ⟨m1, rfl⟩⟩ := hrel
  cases gk with
  | zero => exact absurd HA.out (by simp [slices_Index_int_int.l0])
  | succ k1 =>
   have H := HA.out
   clear HA
   simp only [slices_Index_int_int.l0] at H
   by_cases c3 : x8_1 < (l0.length : Int)
   ·rw [if_pos c3] at H
    have c3b0 : decide (x8_1 < (l0.length : Int)) = true := decide_eq_true c3
    clear c3
    by_cases c4 : 0 <= x8_1
    ·rw [if_pos c4] at H
     have c4b0 : decide (0 <= x8_1) = true := decide_eq_true c4
     clear c4
     by_cases c5 : x8_1 < (l0.length : Int)
     ·rw [if_pos c5] at H
      have c5b0 : decide (x8_1 < (l0.length : Int)) = true := decide_eq_true c5
      clear c5
      by_cases c6 : a1 = (rd l0 x8_1)
      ·rw [if_pos c6] at H
       have c6b0 : (a1 == (rd l0 x8_1)) = true := beq_iff_eq.mpr c6
       have c6b1 : (a1 != (rd l0 x8_1)) = false := bne_eq_false_iff_eq.mpr c6
       clear c6
       obtain rfl := Option.some.inj H
       have p298 : 0 <= (x8_1 : Int) := of_decide_eq_true as_
       have q298 : x8_1 < (l0.length : Int) := of_decide_eq_true as_
       obtain ⟨ad298, e298, hx298_0⟩ := Kd.at_int HR0.out x8_1 p298 q298
       cases e298
       replace p298 := eq_true p298
       replace q298 := eq_true q298
       go_wp2
       go_ret
       exact ⟨by first | rfl | (simp; done) | (simp [*]; done), by repeat (first | exact Drawn0.refl _ | apply Drawn0.step)⟩
      ·rw [if_neg c6] at H
       have c6b0 : (a1 == (rd l0 x8_1)) = false := beq_eq_false_iff_ne.mpr c6
       have c6b1 : (a1 != (rd l0 x8_1)) = true := bne_iff_ne.mpr c6
       have H' := Aside0.mk H
       clear H
       have p298 : 0 <= (x8_1 : Int) := of_decide_eq_true as_
       have q298 : x8_1 < (l0.length : Int) := of_decide_eq_true as_
       obtain ⟨ad298, e298, hx298_0⟩ := Kd.at_int HR0.out x8_1 p298 q298
       cases e298
       replace p298 := eq_true p298
       replace q298 := eq_true q298
       go_wp2
       go_roundg k1
       case measure => have := HK1.out; omega
       case rel => exact ⟨(wrap64 (x8_1 + 1)), (by first | rfl | (simp; done) | (simp [*]; done)), H', ⟨by have := HK1.out; omega⟩, by repeat (first | exact Drawn0.refl _ | apply Drawn0.step)⟩
     ·rw [if_neg c5] at H
      exact absurd H (by simp)
    ·rw [if_neg c4] at H
     exact absurd H (by simp)
   ·rw [if_neg c3] at H
    have c3b0 : decide (x8_1 < (l0.length : Int)) = false := decide_eq_false c3
    clear c3
    obtain rfl := Option.some.inj H
    go_wp2
    go_ret
    exact ⟨by first | rfl | (simp; done) | (simp [*]; done), by repeat (first | exact Drawn0.refl _ | apply Drawn0.step)⟩
def slices_Contains_int_int.f (k : Nat) (l0 : List Int) (a1 : Int) : Option (Bool) := (slices_Index_int_int.f k l0 a1).bind fun t299 => (some (decide (t299 ≥ 0)))
theorem slices_Contains_int_int.mono : ∀ a0 a1 k, LeO (slices_Contains_int_int.f k a0 a1) (slices_Contains_int_int.f (k + 1) a0 a1) := by
 intro a0 a1 k
 unfold slices_Contains_int_int.f
 repeat' (with_reducible first | exact slices_Index_int_int.mono _ _ _ | exact LeO.refl _ | exact LeO.none _ | refine LeO.ite ?_ ?_ | refine LeO.bind ?_ (fun _ => ?_))
theorem slices_Contains_int_int.calls (k : Nat) (A0 : Option Addr) (c0 : Nat) (l0 : List Int) (a1 : Int) (r : Bool) (w : World) (hr0 : Kd.C (Kd.int .i64) w A0 l0.length l0) (hc0 : l0.length <= c0) (h : slices_Contains_int_int.f k l0 a1 = some r) :
  Calls Try.prog 102 #[.slice A0 l0.length c0, .int .i64 a1] w fun e w' => e = .returned (.bool r) /\ Drawn0 w w' := by
 have HR0 := Aside0.mk hr0
 have HC0 := Aside0.mk hc0
 clear hr0 hc0
 have H : ((slices_Index_int_int.f k l0 a1).bind fun t299 => (some (decide (t299 ≥ 0)))) = some r := h
 clear h
 replace H := Option.bind_eq_some_iff.mp H
 obtain ⟨t299, A30, H⟩ := H
 replace H : (some (decide (t299 ≥ 0))) = some r := H
 have A3 := Aside0.mk A30
 clear A30
 obtain rfl := Option.some.inj H
 go_enter Try.func102, Try.ntmps102
 go_wp2_with (first | ((with_reducible refine gate_callee (f := 119) rfl ?_); refine goesL_ (some 7) rfl rfl Try.func119 (by kernel_rfl) rfl #[.slice A0 l0.length c0, .int .i64 a1] rfl (ag_) ?_; (with_reducible refine (slices_Index_int_int.calls k _ _ l0 a1 t299 _ ?side1 ?side2 A3.out).mono ?_); (case side1 => refine cd_ ?_; exact HR0.out); (case side2 => exact HC0.out); rintro e w' ⟨rfl, ⟨nd, rfl⟩⟩; refine ⟨_, rfl, ?_⟩))
 go_ret
 exact ⟨by first | rfl | (simp; done) | (simp [*]; done), by repeat (first | exact Drawn0.refl _ | apply Drawn0.step)⟩
end Go.Proofs.Ytcopakljdenolaa.Fn
namespace Go.Proofs.Ytcopakljdenolaa.Pure
theorem wrap_ok {n : Int} (h0 : -9223372036854775808 <= n) (h1 : n <= 9223372036854775807) : wrap64 n = n := IntWalk.wrap64_in n ⟨h0, h1⟩
theorem wrap_succ {i : Nat} (h : i <= 9223372036854775806) : wrap64 ((i : Int) + 1) = ((i + 1 : Nat) : Int) := by
  rw [wrap_ok (by omega) (by omega)]; omega
section
variable {α : Type} {l t : List α} {i : Nat} {x z : α}
theorem drop_nil (h : l.drop i = []) : ¬ ((i : Int) < (l.length : Int)) := by
  have := List.drop_eq_nil_iff.1 h
  omega
theorem drop_cons (h : l.drop i = x :: t) : ((i : Int) < (l.length : Int)) /\ l[i]? = some x /\ l.drop (i + 1) = t := by
  have hlt : i < l.length := by
    rcases Nat.lt_or_ge i l.length with h1 | h1
    · exact h1
    · rw [List.drop_eq_nil_of_le h1] at h; cases h
  rw [List.drop_eq_getElem_cons hlt] at h
  injection h with h1 h2
  exact ⟨by omega, by rw [List.getElem?_eq_getElem hlt, h1], h2⟩
theorem drop_len (h : l.drop i = t) (hi : i <= l.length) : i + t.length = l.length := by
  rw [<- h, List.length_drop]; omega
theorem getD_at (h : l[i]? = some x) : l.getD ((i : Nat) : Int).toNat z = x := by
  rw [Int.toNat_natCast, List.getD_eq_getElem?_getD, h]; rfl
end
theorem rd_at {l : List Int} {i : Nat} {x : Int} (h : l[i]? = some x) : rd l (i : Int) = x := getD_at h
theorem rdOf_at {α : Type} {l : List α} {i : Nat} {x z : α} (h : l[i]? = some x) : rdOf z l (i : Int) = x := getD_at h
theorem toList_inj {a b : ByteArray} (h : a.toList = b.toList) : a = b := by
  have h1 : a.data.toList = b.data.toList := by rw [<- Lib.toList_data, <- Lib.toList_data, h]
  exact WideShapes.bytes_inj h1
def from_ (c : Int) : Nat -> List Int
  | 0 => []
  | n + 1 => c :: from_ (c + 1) n
theorem ev_down (n : Nat) (P : Nat -> Prop) (hn : P n) (hs : ∀ i, i < n -> P (i + 1) -> P i) : P 0 := by
  have : ∀ d, d <= n -> P (n - d) := by
    intro d
    induction d with
    | zero => intro _; simpa using hn
    | succ d ih =>
      intro hd
      refine hs _ (by omega) ?_
      have e : n - (d + 1) + 1 = n - d := by omega
      rw [e]
      exact ih (by omega)
  have := this n (Nat.le_refl _)
  simpa using this
theorem Ev.at_ {α : Type} {g : Nat -> Option α} {r : α} {K : Nat} (h : ∀ k, K <= k -> g k = some r) : Ev g r := ⟨K, h⟩
theorem Ev.all {α : Type} {g : Nat -> Option α} {r : α} (h : ∀ k, g k = some r) : Ev g r := ⟨0, fun k _ => h k⟩
theorem Ev.next {α : Type} {g f : Nat -> Option α} {r : α} {K : Nat} (h : ∀ k, K <= k -> g (k + 1) = f k) (hf : Ev f r) : Ev g r := by
  obtain ⟨K', hf⟩ := hf
  refine ⟨max K K' + 1, fun k hk => ?_⟩
  obtain ⟨m, rfl⟩ : ∃ m, k = m + 1 := ⟨k - 1, by omega⟩
  rw [h m (by omega)]
  exact hf m (by omega)
theorem Ev.same {α : Type} {g f : Nat -> Option α} {r : α} {K : Nat} (h : ∀ k, K <= k -> g k = f k) (hf : Ev f r) : Ev g r := by
  obtain ⟨K', hf⟩ := hf
  exact ⟨max K K', fun k hk => (h k (by omega)).trans (hf k (by omega))⟩
theorem all_ev {ρ : Type} (L : Nat -> Int -> Option ρ) (n : Nat) (r : ρ) (hend : ∀ k, L (k + 1) (n : Int) = some r)
    (hstep : ∀ (i : Nat), i < n -> ∃ K, ∀ k, K <= k -> L (k + 1) (i : Int) = L k ((i + 1 : Nat) : Int)) : Ev (fun k => L k 0) r := by
  have := ev_down n (fun i => Ev (fun k => L k (i : Int)) r) ⟨1, fun k hk => by obtain ⟨m, rfl⟩ : ∃ m, k = m + 1 := ⟨k - 1, by omega⟩; exact hend m⟩ (fun i hi ih => by
    obtain ⟨K, hK⟩ := hstep i hi
    exact Ev.next hK ih)
  simpa using this
theorem cnd_ {p : Prop} (h : p := by first | omega | assumption | rfl | (simp only [List.length_map, List.length_replicate, List.length_take, List.length_drop, List.length_append, List.length_cons, List.length_nil, List.length_set]; omega) | (simp <;> fail)) : p := h
section
variable {α β γ δ : Type}
theorem Ev.up {g : Nat -> Option α} {r : α} (h : Ev (fun k => g (k + 1)) r) : Ev g r := Ev.next (K := 0) (fun _ _ => rfl) h
theorem Ev.ifp {c : Prop} {dc : Decidable c} {A B : Nat -> Option α} {r : α} (hc : c) (h : Ev A r) : Ev (fun k => if c then A k else B k) r :=
  Ev.same (K := 0) (fun k _ => by rw [if_pos hc]) h
theorem Ev.ifn {c : Prop} {dc : Decidable c} {A B : Nat -> Option α} {r : α} (hc : ¬ c) (h : Ev B r) : Ev (fun k => if c then A k else B k) r :=
  Ev.same (K := 0) (fun k _ => by rw [if_neg hc]) h
theorem Ev.val {a r : α} (h : a = r) : Ev (fun _ => some a) r := Ev.all fun _ => by rw [h]
theorem Ev.bindS {a : α} {f : Nat -> α -> Option β} {r : β} (h : Ev (fun k => f k a) r) : Ev (fun k => (some a).bind (f k)) r := Ev.bind (Ev.val rfl) h
theorem Ev.some {g : Nat -> Option α} {r : α} (h : Ev g r) : ∃ k, g k = some r := h.elim fun K h => ⟨K, h K (Nat.le_refl _)⟩
def Twin (R : α -> β -> Prop) (A : Nat -> Option α) (B : Nat -> Option β) : Prop := ∃ a b, R a b /\ Ev A a /\ Ev B b
variable {R : α -> β -> Prop} {A A1 A2 : Nat -> Option α} {B B1 B2 : Nat -> Option β}
theorem Twin.val {a : α} {b : β} (h : R a b) : Twin R (fun _ => Option.some a) (fun _ => Option.some b) := ⟨a, b, h, Ev.val rfl, Ev.val rfl⟩
theorem Twin.up (h : Twin R (fun k => A (k + 1)) (fun k => B (k + 1))) : Twin R A B := by
  obtain ⟨a, b, h, ha, hb⟩ := h
  exact ⟨a, b, h, Ev.up ha, Ev.up hb⟩
theorem Twin.bindL {g : Nat -> Option γ} {a : γ} {f : Nat -> γ -> Option α} (hg : Ev g a) (h : Twin R (fun k => f k a) B) : Twin R (fun k => (g k).bind (f k)) B := by
  obtain ⟨x, b, h, ha, hb⟩ := h
  exact ⟨x, b, h, Ev.bind hg ha, hb⟩
theorem Twin.bindR {g : Nat -> Option γ} {a : γ} {f : Nat -> γ -> Option β} (hg : Ev g a) (h : Twin R A (fun k => f k a)) : Twin R A (fun k => (g k).bind (f k)) := by
  obtain ⟨x, b, h, ha, hb⟩ := h
  exact ⟨x, b, h, ha, Ev.bind hg hb⟩
theorem Twin.bind {S : γ -> δ -> Prop} {g1 : Nat -> Option γ} {g2 : Nat -> Option δ} {f1 : Nat -> γ -> Option α} {f2 : Nat -> δ -> Option β} (hg : Twin S g1 g2)
    (h : ∀ a b, S a b -> Twin R (fun k => f1 k a) (fun k => f2 k b)) : Twin R (fun k => (g1 k).bind (f1 k)) (fun k => (g2 k).bind (f2 k)) := by
  obtain ⟨x, y, hs, h1, h2⟩ := hg
  exact Twin.bindL h1 (Twin.bindR h2 (h x y hs))
theorem Twin.same {A : Nat -> Option α} {a : α} (h : Ev A a) : Twin Eq A A := ⟨a, a, rfl, h, h⟩
theorem Twin.mono {S : α -> β -> Prop} (h : Twin S A B) (i : ∀ a b, S a b -> R a b) : Twin R A B := by
  obtain ⟨a, b, h, ha, hb⟩ := h
  exact ⟨a, b, i a b h, ha, hb⟩
end
theorem decT {p : Prop} [Decidable p] : (decide p = true) = p := decide_eq_true_eq
end Go.Proofs.Ytcopakljdenolaa.Pure
namespace Go.Proofs.Ytcopakljdenolaa.Fn
def laws_heldIntS.l0 : Nat -> List Int -> Int -> Int -> Option (Int)
 | 0, _, _, _ => none
 | k + 1, x0, x1, x5 => if x5 < (x0.length : Int) then (if 0 <= x5 then (if (rd x0 x5) = x1 then (laws_heldIntS.l0 k x0 (wrap64 (x1 + 1)) (wrap64 (x5 + 1))) else (some (-1))) else (none)) else (some x1)
def laws_heldIntS.f (k : Nat) (l0 : List Int) (a1 : Int) : Option (Int) := laws_heldIntS.l0 k l0 a1 0
theorem laws_heldIntS.mono_l : ∀ k, (∀ y0 y1 y2, LeO (laws_heldIntS.l0 k y0 y1 y2) (laws_heldIntS.l0 (k + 1) y0 y1 y2))
 | 0 => fun _ _ _ r h => by simp [laws_heldIntS.l0] at h
 | k + 1 => by
  have ih0 := laws_heldIntS.mono_l k
  ·intro y0 y1 y2
   unfold laws_heldIntS.l0
   repeat' (with_reducible first | exact ih0 _ _ _ | exact LeO.refl _ | exact LeO.none _ | refine LeO.ite ?_ ?_ | refine LeO.bind ?_ (fun _ => ?_))
theorem laws_heldIntS.mono : ∀ a0 a1 k, LeO (laws_heldIntS.f k a0 a1) (laws_heldIntS.f (k + 1) a0 a1) := by
 intro a0 a1 k
 have ih0 := laws_heldIntS.mono_l k
 unfold laws_heldIntS.f
 repeat' (with_reducible first | exact ih0 _ _ _ | exact LeO.refl _ | exact LeO.none _ | refine LeO.ite ?_ ?_ | refine LeO.bind ?_ (fun _ => ?_))
theorem laws_heldIntS.calls (k : Nat) (A0 : Option Addr) (c0 : Nat) (l0 : List Int) (a1 : Int) (r : Int) (w : World) (hr0 : Kd.C (Kd.int .i64) w A0 l0.length l0) (hc0 : l0.length <= c0) (h : laws_heldIntS.f k l0 a1 = some r) :
  Calls Try.prog 41 #[.slice A0 l0.length c0, .int .i64 a1] w fun e w' => e = .returned (.int .i64 r) /\ Drawn0 w w' := by
 have HR0 := Aside0.mk hr0
 have HC0 := Aside0.mk hc0
 clear hr0 hc0
 have H : (laws_heldIntS.l0 k l0 a1 0) = some r := h
 clear h
 have H' := Aside0.mk H
 clear H
 go_enter Try.func41, Try.ntmps41
 go_wp2
 go_loopg [1, 5] k (fun kq v1 v5 w' => ∃ (x1_1 : Int) (x5_1 : Int), v1 = .int .i64 x1_1 /\ v5 = .int .i64 x5_1 /\ Aside0 (laws_heldIntS.l0 kq l0 x1_1 x5_1 = some r) /\ Aside0 (kq <= k) /\ Drawn0 w w')
 case atStart => exact ⟨(a1), (0), (by first | rfl | (simp; done) | (simp [*]; done)), (by first | rfl | (simp; done) | (simp [*]; done)), H', ⟨Nat.le_refl _⟩, by repeat (first | exact Drawn0.refl _ | apply Drawn0.step)⟩
 case round =>
  clear H'
  (try clear p2)
  obtain ⟨x1_1, x5_1, rfl, rfl, HA, HK1, ⟨m1, rfl⟩⟩ := hrel
  cases gk with
  | zero => exact absurd HA.out (by simp [laws_heldIntS.l0])
  | succ k1 =>
   have H := HA.out
   clear HA
   simp only [laws_heldIntS.l0] at H
   by_cases c3 : x5_1 < (l0.length : Int)
   ·rw [if_pos c3] at H
    have c3b0 : decide (x5_1 < (l0.length : Int)) = true := decide_eq_true c3
    clear c3
    by_cases c4 : 0 <= x5_1
    ·rw [if_pos c4] at H
     have c4b0 : decide (0 <= x5_1) = true := decide_eq_true c4
     clear c4
     by_cases c5 : (rd l0 x5_1) = x1_1
     ·rw [if_pos c5] at H
      have c5b0 : ((rd l0 x5_1) == x1_1) = true := beq_iff_eq.mpr c5
      have c5b1 : ((rd l0 x5_1) != x1_1) = false := bne_eq_false_iff_eq.mpr c5
      clear c5
      have H' := Aside0.mk H
      clear H
      have p273 : 0 <= (x5_1 : Int) := of_decide_eq_true as_
      have q273 : x5_1 < (l0.length : Int) := of_decide_eq_true as_
      obtain ⟨ad273, e273, hx273_0⟩ := Kd.at_int HR0.out x5_1 p273 q273
      cases e273
      replace p273 := eq_true p273
      replace q273 := eq_true q273
      go_wp2
      go_roundg k1
      case measure => have := HK1.out; omega
      case rel => exact ⟨(wrap64 (x1_1 + 1)), (wrap64 (x5_1 + 1)), (by first | rfl | (simp; done) | (simp [*]; done)), (by first | rfl | (simp; done) | (simp [*]; done)), H', ⟨by have := HK1.out; omega⟩, by repeat (first | exact Drawn0.refl _ | apply Drawn0.step)⟩
     ·rw [if_neg c5] at H
      have c5b0 : ((rd l0 x5_1) == x1_1) = false := beq_eq_false_iff_ne.mpr c5
      have c5b1 : ((rd l0 x5_1) != x1_1) = true := bne_iff_ne.mpr c5
      obtain rfl := Option.some.inj H
      have p273 : 0 <= (x5_1 : Int) := of_decide_eq_true as_
      have q273 : x5_1 < (l0.length : Int) := of_decide_eq_true as_
      obtain ⟨ad273, e273, hx273_0⟩ := Kd.at_int HR0.out x5_1 p273 q273
      cases e273
      replace p273 := eq_true p273
      replace q273 := eq_true q273
      go_wp2
      go_ret
      exact ⟨by first | rfl | (simp; done) | (simp [*]; done), by repeat (first | exact Drawn0.refl _ | apply Drawn0.step)⟩
    ·rw [if_neg c4] at H
     exact absurd H (by simp)
   ·rw [if_neg c3] at H
    have c3b0 : decide (x5_1 < (l0.length : Int)) = false := decide_eq_false c3
    clear c3
    obtain rfl := Option.some.inj H
    go_wp2
    go_ret
    exact ⟨by first | rfl | (simp; done) | (simp [*]; done), by repeat (first | exact Drawn0.refl _ | apply Drawn0.step)⟩
def laws_heldPostS.l0 : Nat -> List (S57) -> Int -> Int -> Option (Int)
 | 0, _, _, _ => none
 | k + 1, x0, x1, x5 => if x5 < (x0.length : Int) then (if 0 <= x5 then (if ((rd_T57 x0 x5).f0) = x1 then ((laws_heldIntS.f k ((rd_T57 x0 x5).f1) (wrap64 (x1 + 1))).bind fun t276 => (if t276 < 0 then (some (-1)) else (laws_heldPostS.l0 k x0 t276 (wrap64 (x5 + 1))))) else (some (-1))) else (none)) else (some x1)
def laws_heldPostS.f (k : Nat) (l0 : List (S57)) (a1 : Int) : Option (Int) := laws_heldPostS.l0 k l0 a1 0
theorem laws_heldPostS.mono_l : ∀ k, (∀ y0 y1 y2, LeO (laws_heldPostS.l0 k y0 y1 y2) (laws_heldPostS.l0 (k + 1) y0 y1 y2))
 | 0 => fun _ _ _ r h => by simp [laws_heldPostS.l0] at h
 | k + 1 => by
  have ih0 := laws_heldPostS.mono_l k
  ·intro y0 y1 y2
   unfold laws_heldPostS.l0
   repeat' (with_reducible first | exact ih0 _ _ _ | exact laws_heldIntS.mono _ _ _ | exact LeO.refl _ | exact LeO.none _ | refine LeO.ite ?_ ?_ | refine LeO.bind ?_ (fun _ => ?_))
theorem laws_heldPostS.mono : ∀ a0 a1 k, LeO (laws_heldPostS.f k a0 a1) (laws_heldPostS.f (k + 1) a0 a1) := by
 intro a0 a1 k
 have ih0 := laws_heldPostS.mono_l k
 unfold laws_heldPostS.f
 repeat' (with_reducible first | exact ih0 _ _ _ | exact laws_heldIntS.mono _ _ _ | exact LeO.refl _ | exact LeO.none _ | refine LeO.ite ?_ ?_ | refine LeO.bind ?_ (fun _ => ?_))
theorem laws_heldPostS.calls (k : Nat) (A0 : Option Addr) (c0 : Nat) (l0 : List (S57)) (a1 : Int) (r : Int) (w : World) (hr0 : Kd.C k57 w A0 l0.length l0) (hc0 : l0.length <= c0) (h : laws_heldPostS.f k l0 a1 = some r) :
  Calls Try.prog 24 #[.slice A0 l0.length c0, .int .i64 a1] w fun e w' => e = .returned (.int .i64 r) /\ Drawn0 w w' := by
 have HR0 := Aside0.mk hr0
 have HC0 := Aside0.mk hc0
 clear hr0 hc0
 have H : (laws_heldPostS.l0 k l0 a1 0) = some r := h
 clear h
 have H' := Aside0.mk H
 clear H
 go_enter Try.func24, Try.ntmps24
 go_wp2
 go_loopg [1, 5] k (fun kq v1 v5 w' => ∃ (x1_1 : Int) (x5_1 : Int), v1 = .int .i64 x1_1 /\ v5 = .int .i64 x5_1 /\ Aside0 (laws_heldPostS.l0 kq l0 x1_1 x5_1 = some r) /\ Aside0 (kq <= k) /\ Drawn0 w w')
 case atStart => exact ⟨(a1), (0), (by first | rfl | (simp; done) | (simp [*]; done)), (by first | rfl | (simp; done) | (simp [*]; done)), H', ⟨Nat.le_refl _⟩, by repeat (first | exact Drawn0.refl _ | apply Drawn0.step)⟩
 case round =>
  clear H'
  (try clear c2); (try clear p2)
  obtain ⟨x1_1, x5_1, rfl, rfl, HA, HK1, ⟨m1, rfl⟩⟩ := hrel
  cases gk with
  | zero => exact absurd HA.out (by simp [laws_heldPostS.l0])
  | succ k1 =>
   have H := HA.out
   clear HA
   simp only [laws_heldPostS.l0] at H
   by_cases c3 : x5_1 < (l0.length : Int)
   ·rw [if_pos c3] at H
    have c3b0 : decide (x5_1 < (l0.length : Int)) = true := decide_eq_true c3
    clear c3
    by_cases c4 : 0 <= x5_1
    ·rw [if_pos c4] at H
     have c4b0 : decide (0 <= x5_1) = true := decide_eq_true c4
     clear c4
     by_cases c5 : ((rd_T57 l0 x5_1).f0) = x1_1
     ·rw [if_pos c5] at H
      have c5b0 : (((rd_T57 l0 x5_1).f0) == x1_1) = true := beq_iff_eq.mpr c5
      have c5b1 : (((rd_T57 l0 x5_1).f0) != x1_1) = false := bne_eq_false_iff_eq.mpr c5
      clear c5
      replace H := Option.bind_eq_some_iff.mp H
      obtain ⟨t276, A60, H⟩ := H
      replace H : (if t276 < 0 then (some (-1)) else (laws_heldPostS.l0 k1 l0 t276 (wrap64 (x5_1 + 1)))) = some r := H
      have A6 := Aside0.mk A60
      clear A60
      by_cases c7 : t276 < 0
      ·rw [if_pos c7] at H
       have c7b0 : decide (t276 < 0) = true := decide_eq_true c7
       clear c7
       obtain rfl := Option.some.inj H
       have p274 : 0 <= (x5_1 : Int) := of_decide_eq_true as_
       have q274 : x5_1 < (l0.length : Int) := of_decide_eq_true as_
       obtain ⟨ad274, A274_1, c274_1, e274, hx274_0, hx274_1, hl274_1, hi274_1⟩ := at_T57 HR0.out x5_1 p274 q274
       cases e274
       have HR274_1 := Aside0.mk hi274_1
       have HC274_1 := Aside0.mk hl274_1
       clear hi274_1 hl274_1
       replace p274 := eq_true p274
       replace q274 := eq_true q274
       have p275 : 0 <= (x5_1 : Int) := of_decide_eq_true as_
       have q275 : x5_1 < (l0.length : Int) := of_decide_eq_true as_
       obtain ⟨ad275, A275_1, c275_1, e275, hx275_0, hx275_1, hl275_1, hi275_1⟩ := at_T57 HR0.out x5_1 p275 q275
       obtain rfl : ad274 = ad275 := (by injection e275)
       have HR275_1 := Aside0.mk hi275_1
       have HC275_1 := Aside0.mk hl275_1
       clear hi275_1 hl275_1
       replace p275 := eq_true p275
       replace q275 := eq_true q275
       have ea_ := Option.some.inj (hx274_1.symm.trans hx275_1)
       injection ea_ with ea_ en_ ec_
       subst ea_
       subst ec_
       clear en_
       go_wp2_with (first | ((with_reducible refine gate_callee (f := 41) rfl ?_); refine goesL_ (some 27) rfl rfl Try.func41 (by kernel_rfl) rfl #[.slice A274_1 ((rd_T57 l0 x5_1).f1).length c274_1, .int .i64 (wrap64 (x1_1 + 1))] rfl (ag_) ?_; (with_reducible refine (laws_heldIntS.calls k1 _ _ ((rd_T57 l0 x5_1).f1) (wrap64 (x1_1 + 1)) t276 _ ?side1 ?side2 A6.out).mono ?_); (case side1 => refine cd_ ?_; exact HR275_1.out); (case side2 => exact HC275_1.out); rintro e w' ⟨rfl, ⟨nd, rfl⟩⟩; refine ⟨_, rfl, ?_⟩))
       go_ret
       exact ⟨by first | rfl | (simp; done) | (simp [*]; done), by repeat (first | exact Drawn0.refl _ | apply Drawn0.step)⟩
      ·rw [if_neg c7] at H
       have c7b0 : decide (t276 < 0) = false := decide_eq_false c7
       clear c7
       have H' := Aside0.mk H
       clear H
       have p274 : 0 <= (x5_1 : Int) := of_decide_eq_true as_
       have q274 : x5_1 < (l0.length : Int) := of_decide_eq_true as_
       obtain ⟨ad274, A274_1, c274_1, e274, hx274_0, hx274_1, hl274_1, hi274_1⟩ := at_T57 HR0.out x5_1 p274 q274
       cases e274
       have HR274_1 := Aside0.mk hi274_1
       have HC274_1 := Aside0.mk hl274_1
       clear hi274_1 hl274_1
       replace p274 := eq_true p274
       replace q274 := eq_true q274
       have p275 : 0 <= (x5_1 : Int) := of_decide_eq_true as_
       have q275 : x5_1 < (l0.length : Int) := of_decide_eq_true as_
       obtain ⟨ad275, A275_1, c275_1, e275, hx275_0, hx275_1, hl275_1, hi275_1⟩ := at_T57 HR0.out x5_1 p275 q275
       obtain rfl : ad274 = ad275 := (by injection e275)
       have HR275_1 := Aside0.mk hi275_1
       have HC275_1 := Aside0.mk hl275_1
       clear hi275_1 hl275_1
       replace p275 := eq_true p275
       replace q275 := eq_true q275
       have ea_ := Option.some.inj (hx274_1.symm.trans hx275_1)
       injection ea_ with ea_ en_ ec_
       subst ea_
       subst ec_
       clear en_
       go_wp2_with (first | ((with_reducible refine gate_callee (f := 41) rfl ?_); refine goesL_ (some 27) rfl rfl Try.func41 (by kernel_rfl) rfl #[.slice A274_1 ((rd_T57 l0 x5_1).f1).length c274_1, .int .i64 (wrap64 (x1_1 + 1))] rfl (ag_) ?_; (with_reducible refine (laws_heldIntS.calls k1 _ _ ((rd_T57 l0 x5_1).f1) (wrap64 (x1_1 + 1)) t276 _ ?side1 ?side2 A6.out).mono ?_); (case side1 => refine cd_ ?_; exact HR275_1.out); (case side2 => exact HC275_1.out); rintro e w' ⟨rfl, ⟨nd, rfl⟩⟩; refine ⟨_, rfl, ?_⟩))
       go_roundg k1
       case measure => have := HK1.out; omega
       case rel => exact ⟨(t276), (wrap64 (x5_1 + 1)), (by first | rfl | (simp; done) | (simp [*]; done)), (by first | rfl | (simp; done) | (simp [*]; done)), H', ⟨by have := HK1.out; omega⟩, by repeat (first | exact Drawn0.refl _ | apply Drawn0.step)⟩
     ·rw [if_neg c5] at H
      have c5b0 : (((rd_T57 l0 x5_1).f0) == x1_1) = false := beq_eq_false_iff_ne.mpr c5
      have c5b1 : (((rd_T57 l0 x5_1).f0) != x1_1) = true := bne_iff_ne.mpr c5
      obtain rfl := Option.some.inj H
      have p274 : 0 <= (x5_1 : Int) := of_decide_eq_true as_
      have q274 : x5_1 < (l0.length : Int) := of_decide_eq_true as_
      obtain ⟨ad274, A274_1, c274_1, e274, hx274_0, hx274_1, hl274_1, hi274_1⟩ := at_T57 HR0.out x5_1 p274 q274
      cases e274
      have HR274_1 := Aside0.mk hi274_1
      have HC274_1 := Aside0.mk hl274_1
      clear hi274_1 hl274_1
      replace p274 := eq_true p274
      replace q274 := eq_true q274
      go_wp2
      go_ret
      exact ⟨by first | rfl | (simp; done) | (simp [*]; done), by repeat (first | exact Drawn0.refl _ | apply Drawn0.step)⟩
    ·rw [if_neg c4] at H
     exact absurd H (by simp)
   ·rw [if_neg c3] at H
    have c3b0 : decide (x5_1 < (l0.length : Int)) = false := decide_eq_false c3
    clear c3
    obtain rfl := Option.some.inj H
    go_wp2
    go_ret
    exact ⟨by first | rfl | (simp; done) | (simp [*]; done), by repeat (first | exact Drawn0.refl _ | apply Drawn0.step)⟩
def idxDoc (d : Int) : List (S57) -> Nat -> Int
  | [], _ => -1
  | x :: t, i => if x.f0 = d then (i : Int) else idxDoc d t (i + 1)
def meet_idx.f (l : List (S57)) (d : Int) : Option Int := some (idxDoc d l 0)
theorem meet101_calls (W : World) (g : Nat) (d x : Int) (u : Value) (hp : W.cell? ⟨g, 0, none⟩ = some (.int .i64 d)) :
    Calls Try.prog 101 #[.agg #[.int .i64 x, u], .pointer (some ⟨g, 0, none⟩)] W fun e w' => e = .returned (.bool (decide (x = d))) /\ Below W.heap.size W w' := by
  have hu57 := Try.underlying57
  have hg := World.block_lt_of_cell? W _ hp
  go_enter Try.func101, Try.ntmps101
  go_upto_region 1 with (first | ((with_reducible refine gate_dst (N := 2) rfl ?_); refine box_event ?hg (N := 2) ?hd (cs := #[.int .i64 x, u]) (t := 57) ?hr ?_; (case hd => rfl); (case hg => rfl); (case hr => first | (go_simp; done) | (go_simp; rfl)); intro gb hgb w1 hbox hb; have BA := Aside0.mk hbox; have HB := Aside0.mk hb; have hp1 := (hb.cell hg).trans hp; clear hbox hb hgb))
  have z0 : w1.cell? ⟨gb, 0, none⟩ = some (.int .i64 x) := (blk_cell BA.out 0).trans rfl
  clear hp hg
  by_cases hx : x = d
  · have c0 : (x == d) = true := beq_iff_eq.mpr hx
    have c1 : decide (x = d) = true := decide_eq_true hx
    replace hx := Aside0.mk hx
    go_wp2
    go_ret
    exact ⟨by first | rfl | (simp; done) | (simp; exact hx.out), HB.out⟩
  · have c0 : (x == d) = false := beq_eq_false_iff_ne.mpr hx
    have c1 : decide (x = d) = false := decide_eq_false hx
    replace hx := Aside0.mk hx
    go_wp2
    go_ret
    exact ⟨by first | rfl | (simp; done) | (simp; exact hx.out), HB.out⟩
theorem meet_idx.calls (A0 : Option Addr) (c0 : Nat) (l0 : List (S57)) (d : Int) (g : Nat) (r : Int) (w : World) (hr0 : Kd.C k57 w A0 l0.length l0) (hc0 : l0.length <= c0) (hp : w.cell? ⟨g, 0, none⟩ = some (.int .i64 d)) (h : meet_idx.f l0 d = some r) :
    Calls Try.prog 100 #[.slice A0 l0.length c0, .func (.func 101) #[] #[.pointer (some ⟨g, 0, none⟩)]] w fun e w' => e = .returned (.int .i64 r) /\ Below w.heap.size w w' := by
  have hu57 := Try.underlying57
  obtain rfl := Option.some.inj h
  clear h
  have HR0 := Aside0.mk hr0
  have HP := Aside0.mk hp
  have hmax := hr0.2.1
  clear hr0 hp
  go_enter Try.func100, Try.ntmps100
  go_wp2
  go_loopg [8] (l0.length + 1) (fun kq v8 w' => ∃ i : Nat, v8 = .int .i64 (i : Int) /\ Aside0 (idxDoc d (l0.drop i) i = idxDoc d l0 0) /\ Aside0 (i <= l0.length /\ l0.length + 1 <= kq + i) /\ Aside0 (Below w.heap.size w w'))
  case atStart => exact ⟨0, rfl, ⟨rfl⟩, ⟨by omega, by omega⟩, ⟨Below.refl _ w⟩⟩
  case round =>
    obtain ⟨i, rfl, HI, HK, HB⟩ := hrel
    by_cases hlt : i < l0.length
    · have c1b : decide ((i : Int) < (l0.length : Int)) = true := decide_eq_true (by omega)
      have c2b : decide (0 <= (i : Int)) = true := decide_eq_true (by omega)
      obtain ⟨ad, A1, c1, e0, hx0, hx1, hl1, hi1⟩ := at_T57 (Kd.C_below HR0.out HB.out) (i : Int) (by omega) (by omega)
      have hxi : l0[i]? = some l0[i] := List.getElem?_eq_getElem hlt
      have erd : rd_T57 l0 (i : Int) = l0[i] := Pure.getD_at hxi
      rw [erd] at hx0 hx1
      rw [Int.toNat_natCast] at hx0 hx1
      cases e0
      have hd : l0.drop i = l0[i] :: l0.drop (i + 1) := List.drop_eq_getElem_cons hlt
      have HI2 := HI.out
      rw [hd] at HI2
      have HP2 := Aside0.mk ((HB.out.cell (World.block_lt_of_cell? w _ HP.out)).trans HP.out)
      clear hl1 hi1 erd hd
      generalize l0[i] = x at hx0 hx1 HI2 hxi
      simp only [idxDoc] at HI2
      clear hxi
      by_cases hm : x.f0 = d
      · rw [if_pos hm] at HI2
        replace HI2 := Aside0.mk HI2
        have cm : decide (x.f0 = d) = true := decide_eq_true hm
        replace hm := Aside0.mk hm
        go_wp2_with (go_at_call 101; (with_reducible refine (meet101_calls _ g d x.f0 _ HP2.out).mono ?_); rintro e w' ⟨rfl, hb⟩)
        go_ret
        exact ⟨by rw [<- HI2.out]; first | rfl | (simp; done), below_step HB.out hb⟩
      · rw [if_neg hm] at HI2
        replace HI2 := Aside0.mk HI2
        have cm : decide (x.f0 = d) = false := decide_eq_false hm
        replace hm := Aside0.mk hm
        go_wp2_with (go_at_call 101; (with_reducible refine (meet101_calls _ g d x.f0 _ HP2.out).mono ?_); rintro e w' ⟨rfl, hb⟩)
        go_roundg (l0.length + 1 - (i + 1))
        case measure => have := HK.out; omega
        case rel => exact ⟨i + 1, by first | rfl | (simp; done) | (simp [Pure.wrap_succ (i := i) (by omega)]; done), HI2, ⟨by omega, by omega⟩, ⟨below_step HB.out hb⟩⟩
    · have c1b : decide ((i : Int) < (l0.length : Int)) = false := decide_eq_false (by omega)
      have c1n : decide (i < l0.length) = false := decide_eq_false hlt
      have c1m : ¬ ((i : Int) < (l0.length : Int)) := by omega
      have HI2 := HI.out
      rw [List.drop_eq_nil_of_le (by omega)] at HI2
      replace HI2 := Aside0.mk HI2
      go_wp2
      go_ret
      exact ⟨by rw [<- HI2.out]; first | rfl | (simp; done), HB.out⟩
mutual
def impl_meet.l0 : Nat -> List (S57) -> Int -> List (S57) -> List (S57) -> Int -> Int -> Option ((List (S57)))
  | 0, _, _, _, _, _, _ => none
  | k + 1, x1, x2, x7, x14, x15, x16 => if x16 < x15 then (if 0 <= x16 then (if x16 < (x14.length : Int) then ((meet_idx.f x1 ((rd_T57 x14 x16).f0)).bind fun t181 => (if t181 < 0 then (impl_meet.l0 k x1 x2 x7 x14 x15 (wrap64 (x16 + 1))) else (impl_meet.l1 k x1 x2 x7 t181 ([] : List Int) x14 x15 x16 ((rd_T57 x14 x16).f1) (((rd_T57 x14 x16).f1).length : Int) 0 ((rd_T57 x14 x16).f0) ((rd_T57 x14 x16).f1)))) else (none)) else (none)) else (some x7)
def impl_meet.l1 : Nat -> List (S57) -> Int -> List (S57) -> Int -> List Int -> List (S57) -> Int -> Int -> List Int -> Int -> Int -> Int -> List Int -> Option ((List (S57)))
  | 0, _, _, _, _, _, _, _, _, _, _, _, _, _ => none
  | k + 1, x1, x2, x7, x10, x11, x14, x15, x16, x26, x27, x28, x181000, x181001 => if x28 < x27 then (if 0 <= x28 then (if x28 < (x26.length : Int) then (if 0 <= x10 then (if x10 < (x1.length : Int) then ((slices_Contains_int_int.f k ((rd_T57 x1 x10).f1) (wrap64 ((rd x26 x28) + x2))).bind fun t184 => (if t184 = true then (if x11.length < 17592186044416 then (impl_meet.l1 k x1 x2 x7 x10 (x11 ++ [rd x26 x28]) x14 x15 x16 x26 x27 (wrap64 (x28 + 1)) x181000 x181001) else (none)) else (impl_meet.l1 k x1 x2 x7 x10 x11 x14 x15 x16 x26 x27 (wrap64 (x28 + 1)) x181000 x181001))) else (none)) else (none)) else (none)) else (none)) else (if (x11.length : Int) > 0 then (if x7.length < 4398046511104 then (impl_meet.l0 k x1 x2 (x7 ++ [(⟨x181000, x11⟩ : S57)]) x14 x15 (wrap64 (x16 + 1))) else (none)) else (impl_meet.l0 k x1 x2 x7 x14 x15 (wrap64 (x16 + 1))))
end
def impl_meet.f (k : Nat) (l0 : List (S57)) (l1 : List (S57)) (a2 : Int) : Option ((List (S57))) := impl_meet.l0 k l1 a2 ([] : List (S57)) l0 (l0.length : Int) 0
theorem impl_meet.mono_l : ∀ k, (∀ y0 y1 y2 y3 y4 y5, LeO (impl_meet.l0 k y0 y1 y2 y3 y4 y5) (impl_meet.l0 (k + 1) y0 y1 y2 y3 y4 y5)) /\ (∀ y0 y1 y2 y3 y4 y5 y6 y7 y8 y9 y10 y11 y12, LeO (impl_meet.l1 k y0 y1 y2 y3 y4 y5 y6 y7 y8 y9 y10 y11 y12) (impl_meet.l1 (k + 1) y0 y1 y2 y3 y4 y5 y6 y7 y8 y9 y10 y11 y12))
  | 0 => ⟨fun _ _ _ _ _ _ r h => by simp [impl_meet.l0] at h, fun _ _ _ _ _ _ _ _ _ _ _ _ _ r h => by simp [impl_meet.l1] at h⟩
  | k + 1 => by
    obtain ⟨ih0, ih1⟩ := impl_meet.mono_l k
    refine ⟨?_, ?_⟩
    · intro y0 y1 y2 y3 y4 y5
      unfold impl_meet.l0
      repeat' first
      | (with_reducible exact ih0 _ _ _ _ _ _)
      | (with_reducible exact ih1 _ _ _ _ _ _ _ _ _ _ _ _ _)
      | (with_reducible exact slices_Contains_int_int.mono _ _ _)
      | (with_reducible exact LeO.refl _)
      | (with_reducible exact LeO.none _)
      | (with_reducible refine LeO.ite ?_ ?_)
      | (with_reducible refine LeO.bind ?_ (fun _ => ?_))
      | exact ih0 _ _ _ _ _ _
      | exact ih1 _ _ _ _ _ _ _ _ _ _ _ _ _
      | exact slices_Contains_int_int.mono _ _ _
      | exact LeO.none _
      | refine LeO.ite ?_ ?_
      | refine LeO.bind ?_ (fun _ => ?_)
    · intro y0 y1 y2 y3 y4 y5 y6 y7 y8 y9 y10 y11 y12
      unfold impl_meet.l1
      repeat' first
      | (with_reducible exact ih0 _ _ _ _ _ _)
      | (with_reducible exact ih1 _ _ _ _ _ _ _ _ _ _ _ _ _)
      | (with_reducible exact slices_Contains_int_int.mono _ _ _)
      | (with_reducible exact LeO.refl _)
      | (with_reducible exact LeO.none _)
      | (with_reducible refine LeO.ite ?_ ?_)
      | (with_reducible refine LeO.bind ?_ (fun _ => ?_))
      | exact ih0 _ _ _ _ _ _
      | exact ih1 _ _ _ _ _ _ _ _ _ _ _ _ _
      | exact slices_Contains_int_int.mono _ _ _
      | exact LeO.none _
      | refine LeO.ite ?_ ?_
      | refine LeO.bind ?_ (fun _ => ?_)
theorem impl_meet.mono : ∀ a0 a1 a2 k, LeO (impl_meet.f k a0 a1 a2) (impl_meet.f (k + 1) a0 a1 a2) := by
  intro a0 a1 a2 k
  obtain ⟨ih0, ih1⟩ := impl_meet.mono_l k
  unfold impl_meet.f
  repeat' first
      | (with_reducible exact ih0 _ _ _ _ _ _)
      | (with_reducible exact ih1 _ _ _ _ _ _ _ _ _ _ _ _ _)
      | (with_reducible exact slices_Contains_int_int.mono _ _ _)
      | (with_reducible exact LeO.refl _)
      | (with_reducible exact LeO.none _)
      | (with_reducible refine LeO.ite ?_ ?_)
      | (with_reducible refine LeO.bind ?_ (fun _ => ?_))
      | exact ih0 _ _ _ _ _ _
      | exact ih1 _ _ _ _ _ _ _ _ _ _ _ _ _
      | exact slices_Contains_int_int.mono _ _ _
      | exact LeO.none _
      | refine LeO.ite ?_ ?_
      | refine LeO.bind ?_ (fun _ => ?_)
theorem impl_meet.calls (k : Nat) (A0 : Option Addr) (c0 : Nat) (l0 : List (S57)) (A1 : Option Addr) (c1 : Nat) (l1 : List (S57)) (a2 : Int) (r : List (S57)) (w : World) (hr0 : Kd.C k57 w A0 l0.length l0) (hc0 : l0.length <= c0) (hr1 : Kd.C k57 w A1 l1.length l1) (hc1 : l1.length <= c1) (h : impl_meet.f k l0 l1 a2 = some r) :
    Calls Try.prog 72 #[.slice A0 l0.length c0, .slice A1 l1.length c1, .int .i64 a2] w fun e w' => ∃ v0_ : Value, e = .returned (v0_) /\ Kd.S k57 57 w' w.heap.size (fun _ => True) v0_ r /\ Below w.heap.size w w' := by
  have hu57 := Try.underlying57
  have HR0 := Aside0.mk hr0
  have HC0 := Aside0.mk hc0
  clear hr0 hc0
  have HR1 := Aside0.mk hr1
  have HC1 := Aside0.mk hc1
  clear hr1 hc1
  have HB := Aside0.mk (Below.refl w.heap.size w)
  have H : (impl_meet.l0 k l1 a2 ([] : List (S57)) l0 (l0.length : Int) 0) = some r := h
  clear h
  have H' := Aside0.mk H
  clear H
  go_enter Try.func72, Try.ntmps72
  go_wp2
  go_loopg [7, 16] k (fun kq v7 v16 w' => ∃ (x7_1 : List (S57)) (x16_1 : Int), v16 = .int .i64 x16_1 /\ Aside0 (impl_meet.l0 kq l1 a2 x7_1 l0 (l0.length : Int) x16_1 = some r) /\ Aside0 (kq <= k) /\ Aside0 (Kd.S k57 57 w' w.heap.size (fun _ => True) v7 x7_1) /\ Aside0 (Below w.heap.size w w'))
  case atStart => exact ⟨(([] : List (S57))), (0), (by first | rfl | (simp; done) | (simp [*]; done)), H', ⟨Nat.le_refl _⟩, ⟨by first | exact Kd.S_nil _ _ _ _ _ | exact Kd.N_nil _ _ _ _ _ | exact Kd.V_nil _ _ _ _ _ | exact Kd.Q_nil _ _ _ _ _ | exact Kd.R_nil _ _ _ _ _⟩, ⟨by repeat (first | (with_reducible first | exact HB.out | apply below_alloc | apply pw_below_drewN | apply below_drew1) | exact HB.out)⟩⟩
  case round =>
    clear H'
    try clear c1
    try clear p2
    obtain ⟨x7_1, x16_1, rfl, HA, HK1, HO_7, HB⟩ := hrel
    cases gk with
    | zero => exact absurd HA.out (by simp [impl_meet.l0])
    | succ k1 =>
      have H := HA.out
      clear HA
      simp only [impl_meet.l0] at H
      by_cases c4 : x16_1 < (l0.length : Int)
      · rw [if_pos c4] at H
        have c4b0 : decide (x16_1 < (l0.length : Int)) = true := decide_eq_true c4
        clear c4
        by_cases c5 : 0 <= x16_1
        · rw [if_pos c5] at H
          have c5b0 : decide (0 <= x16_1) = true := decide_eq_true c5
          clear c5
          by_cases c6 : x16_1 < (l0.length : Int)
          · rw [if_pos c6] at H
            have c6b0 : decide (x16_1 < (l0.length : Int)) = true := decide_eq_true c6
            clear c6
            replace H := Option.bind_eq_some_iff.mp H
            obtain ⟨t181, A70, H⟩ := H
            replace H : (if t181 < 0 then (impl_meet.l0 k1 l1 a2 x7_1 l0 (l0.length : Int) (wrap64 (x16_1 + 1))) else (impl_meet.l1 k1 l1 a2 x7_1 t181 ([] : List Int) l0 (l0.length : Int) x16_1 ((rd_T57 l0 x16_1).f1) (((rd_T57 l0 x16_1).f1).length : Int) 0 ((rd_T57 l0 x16_1).f0) ((rd_T57 l0 x16_1).f1))) = some r := H
            have A7 := Aside0.mk A70
            clear A70
            by_cases c8 : t181 < 0
            · rw [if_pos c8] at H
              have c8b0 : decide (t181 < 0) = true := decide_eq_true c8
              clear c8
              have H' := Aside0.mk H
              clear H
              have p179 : 0 <= (x16_1 : Int) := of_decide_eq_true (by first | (with_reducible assumption) | assumption)
              have q179 : x16_1 < (l0.length : Int) := of_decide_eq_true (by first | (with_reducible assumption) | assumption)
              obtain ⟨ad179, A179_1, c179_1, e179, hx179_0, hx179_1, hl179_1, hi179_1⟩ := at_T57 HR0.out x16_1 p179 q179
              cases e179
              replace hx179_0 := (HB.out.cell (World.block_lt_of_cell? w _ hx179_0)).trans hx179_0
              replace hx179_1 := (HB.out.cell (World.block_lt_of_cell? w _ hx179_1)).trans hx179_1
              have HR179_1 := Aside0.mk hi179_1
              have HC179_1 := Aside0.mk hl179_1
              clear hi179_1 hl179_1
              replace p179 := eq_true p179
              replace q179 := eq_true q179
              go_wp2_with (first | ((with_reducible refine gate_dst (N := 9) rfl ?_); refine box_event ?hg (N := 9) ?hd (cs := #[.int .i64 0, .slice none 0 0]) (t := 57) ?hr ?_; (case hd => rfl); (case hg => rfl); (case hr => first | (go_simp; done) | (go_simp; rfl)); intro gb180 hg w9 hbox hb; have n0_ := Aside0.mk (Kd.S_below (Kd.S_elderB (by (with_reducible repeat (first | apply Kd.S_alloc | apply Kd.S_drewN | apply Kd.S_drew)); exact HO_7.out) gb180 (Nat.le_of_eq hg.symm)) hb); have n1_ := Aside0.mk (below_step (by repeat (first | (with_reducible first | exact HB.out | apply below_alloc | apply pw_below_drewN | apply below_drew1) | exact HB.out)) hb); have n2_ := Aside0.mk (hbox); have n3_ := Aside0.mk ((by rw [hg]; exact (below_size (by repeat (first | (with_reducible first | exact HB.out | apply below_alloc | apply pw_below_drewN | apply below_drew1) | exact HB.out))) : w.heap.size <= gb180)); have n4_ := Aside0.mk ((by rw [hg]; exact (below_size (by repeat (first | (with_reducible first | exact HB.out | apply below_alloc | apply pw_below_drewN | apply below_drew1) | exact HB.out))) : w.heap.size <= gb180)); clear HO_7; clear HB; have HO_7 := n0_; have HB := n1_; have BK180 := n2_; have GW180 := n3_; have GE180 := n4_; clear n0_ n1_ n2_ n3_ n4_; clear hb hbox hg; have hcz10_0 : w9.cell? ⟨gb180, 0, none⟩ = some (.int .i64 0) := (blk_cell BK180.out 0).trans rfl; have hcz10_1 : w9.cell? ⟨gb180, 1, none⟩ = some (.slice none 0 0) := (blk_cell BK180.out 1).trans rfl; have hfz10_0 := blk_frozen BK180.out 0; have hfz10_1 := blk_frozen BK180.out 1) | ((with_reducible refine gate_callee (f := 100) rfl ?_); refine goesL_ (some 22) rfl rfl Try.func100 (by kernel_rfl) rfl #[.slice A1 l1.length c1, .func (.func 101) #[] #[.pointer (some ⟨gb180, 0, none⟩)]] rfl (by (try simp only [List.map_toArray, List.map_cons, List.map_nil]); first | done | rfl | (simp only [List.length_drop, List.length_take]; rfl)) ?_; (with_reducible refine (meet_idx.calls _ _ l1 ((rd_T57 l0 x16_1).f0) gb180 t181 _ ?side1 ?side2 ?side3 A7.out).mono ?_); (case side1 => exact Kd.C_below HR1.out (by repeat (first | (with_reducible first | exact HB.out | apply below_alloc | apply pw_below_drewN | apply below_drew1 | refine below_set ?_ GE180.out) | exact HB.out))); (case side2 => exact HC1.out); (case side3 => exact (blk_cell (g := gb180) (t := 57) (cs := #[.int .i64 ((rd_T57 l0 x16_1).f0), .slice A179_1 ((rd_T57 l0 x16_1).f1).length c179_1]) (by (with_reducible repeat (first | refine blk_drewN ?_ _ | refine blk_drew ?_ | refine blk_alloc ?_ _)); refine blk_put (cs := #[.int .i64 ((rd_T57 l0 x16_1).f0), .slice none 0 0]) ?_ 1 _ rfl; (with_reducible repeat (first | refine blk_drewN ?_ _ | refine blk_drew ?_ | refine blk_alloc ?_ _)); refine blk_put (cs := #[.int .i64 0, .slice none 0 0]) ?_ 0 _ rfl; (with_reducible repeat (first | refine blk_drewN ?_ _ | refine blk_drew ?_ | refine blk_alloc ?_ _)); exact BK180.out) 0).trans rfl); rintro e w11 ⟨rfl, hb⟩; refine ⟨_, rfl, ?_⟩; have n0_ := Aside0.mk (Kd.S_below (by (with_reducible repeat (first | apply Kd.S_alloc | apply Kd.S_drewN | apply Kd.S_drew)); exact (Kd.S_mono (Kd.S_far (p := ⟨gb180, 1, none⟩) (Kd.S_far (p := ⟨gb180, 0, none⟩) (Kd.S_mono HO_7.out (fun k_ hk => (⟨hk, hk.2⟩ : _ /\ k_ ≠ gb180))) (fun _ hk => hk.2) (.int .i64 ((rd_T57 l0 x16_1).f0))) (fun _ hk => hk.2) (.slice A179_1 ((rd_T57 l0 x16_1).f1).length c179_1)) (fun _ h_ => h_.1))) hb); have n1_ := Aside0.mk (blk_below (g := gb180) (o := .cells #[.int .i64 ((rd_T57 l0 x16_1).f0), .slice A179_1 ((rd_T57 l0 x16_1).f1).length c179_1] 57 (0, 0)) (by (with_reducible repeat (first | refine blk_drewN ?_ _ | refine blk_drew ?_ | refine blk_alloc ?_ _)); refine blk_put (cs := #[.int .i64 ((rd_T57 l0 x16_1).f0), .slice none 0 0]) ?_ 1 _ rfl; (with_reducible repeat (first | refine blk_drewN ?_ _ | refine blk_drew ?_ | refine blk_alloc ?_ _)); refine blk_put (cs := #[.int .i64 0, .slice none 0 0]) ?_ 0 _ rfl; (with_reducible repeat (first | refine blk_drewN ?_ _ | refine blk_drew ?_ | refine blk_alloc ?_ _)); exact BK180.out) hb); have n2_ := Aside0.mk (below_step (by repeat (first | (with_reducible first | exact HB.out | apply below_alloc | apply pw_below_drewN | apply below_drew1 | refine below_set ?_ GE180.out) | exact HB.out)) hb); clear HO_7; clear BK180; clear HB; have HO_7 := n0_; have BK180 := n1_; have HB := n2_; clear n0_ n1_ n2_; (try clear hb); (try clear hb2); (try clear hk); (try clear hi)))
              go_roundg k1
              case measure => have := HK1.out; omega
              case rel => exact ⟨(x7_1), (wrap64 (x16_1 + 1)), (by first | rfl | (simp; done) | (simp [*]; done)), H', ⟨by have := HK1.out; omega⟩, ⟨by (with_reducible repeat (first | apply Kd.S_alloc | apply Kd.S_drewN | apply Kd.S_drew)); exact Kd.S_mono HO_7.out (fun _ hk => trivial)⟩, ⟨by repeat (first | (with_reducible first | exact HB.out | apply below_alloc | apply pw_below_drewN | apply below_drew1 | refine below_set ?_ GE180.out) | exact HB.out)⟩⟩
            · rw [if_neg c8] at H
              have c8b0 : decide (t181 < 0) = false := decide_eq_false c8
              clear c8
              have H' := Aside0.mk H
              clear H
              have p179 : 0 <= (x16_1 : Int) := of_decide_eq_true (by first | (with_reducible assumption) | assumption)
              have q179 : x16_1 < (l0.length : Int) := of_decide_eq_true (by first | (with_reducible assumption) | assumption)
              obtain ⟨ad179, A179_1, c179_1, e179, hx179_0, hx179_1, hl179_1, hi179_1⟩ := at_T57 HR0.out x16_1 p179 q179
              cases e179
              replace hx179_0 := (HB.out.cell (World.block_lt_of_cell? w _ hx179_0)).trans hx179_0
              replace hx179_1 := (HB.out.cell (World.block_lt_of_cell? w _ hx179_1)).trans hx179_1
              have HR179_1 := Aside0.mk hi179_1
              have HC179_1 := Aside0.mk hl179_1
              clear hi179_1 hl179_1
              replace p179 := eq_true p179
              replace q179 := eq_true q179
              go_wp2_with (first | ((with_reducible refine gate_dst (N := 9) rfl ?_); refine box_event ?hg (N := 9) ?hd (cs := #[.int .i64 0, .slice none 0 0]) (t := 57) ?hr ?_; (case hd => rfl); (case hg => rfl); (case hr => first | (go_simp; done) | (go_simp; rfl)); intro gb180 hg w12 hbox hb; have n0_ := Aside0.mk (Kd.S_below (Kd.S_elderB (by (with_reducible repeat (first | apply Kd.S_alloc | apply Kd.S_drewN | apply Kd.S_drew)); exact HO_7.out) gb180 (Nat.le_of_eq hg.symm)) hb); have n1_ := Aside0.mk (below_step (by repeat (first | (with_reducible first | exact HB.out | apply below_alloc | apply pw_below_drewN | apply below_drew1) | exact HB.out)) hb); have n2_ := Aside0.mk (hbox); have n3_ := Aside0.mk ((by rw [hg]; exact (below_size (by repeat (first | (with_reducible first | exact HB.out | apply below_alloc | apply pw_below_drewN | apply below_drew1) | exact HB.out))) : w.heap.size <= gb180)); have n4_ := Aside0.mk ((by rw [hg]; exact (below_size (by repeat (first | (with_reducible first | exact HB.out | apply below_alloc | apply pw_below_drewN | apply below_drew1) | exact HB.out))) : w.heap.size <= gb180)); clear HO_7; clear HB; have HO_7 := n0_; have HB := n1_; have BK180 := n2_; have GW180 := n3_; have GE180 := n4_; clear n0_ n1_ n2_ n3_ n4_; clear hb hbox hg; have hcz13_0 : w12.cell? ⟨gb180, 0, none⟩ = some (.int .i64 0) := (blk_cell BK180.out 0).trans rfl; have hcz13_1 : w12.cell? ⟨gb180, 1, none⟩ = some (.slice none 0 0) := (blk_cell BK180.out 1).trans rfl; have hfz13_0 := blk_frozen BK180.out 0; have hfz13_1 := blk_frozen BK180.out 1) | ((with_reducible refine gate_callee (f := 100) rfl ?_); refine goesL_ (some 22) rfl rfl Try.func100 (by kernel_rfl) rfl #[.slice A1 l1.length c1, .func (.func 101) #[] #[.pointer (some ⟨gb180, 0, none⟩)]] rfl (by (try simp only [List.map_toArray, List.map_cons, List.map_nil]); first | done | rfl | (simp only [List.length_drop, List.length_take]; rfl)) ?_; (with_reducible refine (meet_idx.calls _ _ l1 ((rd_T57 l0 x16_1).f0) gb180 t181 _ ?side1 ?side2 ?side3 A7.out).mono ?_); (case side1 => exact Kd.C_below HR1.out (by repeat (first | (with_reducible first | exact HB.out | apply below_alloc | apply pw_below_drewN | apply below_drew1 | refine below_set ?_ GE180.out) | exact HB.out))); (case side2 => exact HC1.out); (case side3 => exact (blk_cell (g := gb180) (t := 57) (cs := #[.int .i64 ((rd_T57 l0 x16_1).f0), .slice A179_1 ((rd_T57 l0 x16_1).f1).length c179_1]) (by (with_reducible repeat (first | refine blk_drewN ?_ _ | refine blk_drew ?_ | refine blk_alloc ?_ _)); refine blk_put (cs := #[.int .i64 ((rd_T57 l0 x16_1).f0), .slice none 0 0]) ?_ 1 _ rfl; (with_reducible repeat (first | refine blk_drewN ?_ _ | refine blk_drew ?_ | refine blk_alloc ?_ _)); refine blk_put (cs := #[.int .i64 0, .slice none 0 0]) ?_ 0 _ rfl; (with_reducible repeat (first | refine blk_drewN ?_ _ | refine blk_drew ?_ | refine blk_alloc ?_ _)); exact BK180.out) 0).trans rfl); rintro e w14 ⟨rfl, hb⟩; refine ⟨_, rfl, ?_⟩; have n0_ := Aside0.mk (Kd.S_below (by (with_reducible repeat (first | apply Kd.S_alloc | apply Kd.S_drewN | apply Kd.S_drew)); exact (Kd.S_mono (Kd.S_far (p := ⟨gb180, 1, none⟩) (Kd.S_far (p := ⟨gb180, 0, none⟩) (Kd.S_mono HO_7.out (fun k_ hk => (⟨hk, hk.2⟩ : _ /\ k_ ≠ gb180))) (fun _ hk => hk.2) (.int .i64 ((rd_T57 l0 x16_1).f0))) (fun _ hk => hk.2) (.slice A179_1 ((rd_T57 l0 x16_1).f1).length c179_1)) (fun _ h_ => h_.1))) hb); have n1_ := Aside0.mk (blk_below (g := gb180) (o := .cells #[.int .i64 ((rd_T57 l0 x16_1).f0), .slice A179_1 ((rd_T57 l0 x16_1).f1).length c179_1] 57 (0, 0)) (by (with_reducible repeat (first | refine blk_drewN ?_ _ | refine blk_drew ?_ | refine blk_alloc ?_ _)); refine blk_put (cs := #[.int .i64 ((rd_T57 l0 x16_1).f0), .slice none 0 0]) ?_ 1 _ rfl; (with_reducible repeat (first | refine blk_drewN ?_ _ | refine blk_drew ?_ | refine blk_alloc ?_ _)); refine blk_put (cs := #[.int .i64 0, .slice none 0 0]) ?_ 0 _ rfl; (with_reducible repeat (first | refine blk_drewN ?_ _ | refine blk_drew ?_ | refine blk_alloc ?_ _)); exact BK180.out) hb); have n2_ := Aside0.mk (below_step (by repeat (first | (with_reducible first | exact HB.out | apply below_alloc | apply pw_below_drewN | apply below_drew1 | refine below_set ?_ GE180.out) | exact HB.out)) hb); clear HO_7; clear BK180; clear HB; have HO_7 := n0_; have BK180 := n1_; have HB := n2_; clear n0_ n1_ n2_; (try clear hb); (try clear hb2); (try clear hk); (try clear hi); have hcz15_0 : w14.cell? ⟨gb180, 0, none⟩ = some (.int .i64 ((rd_T57 l0 x16_1).f0)) := (blk_cell BK180.out 0).trans rfl; have hcz15_1 : w14.cell? ⟨gb180, 1, none⟩ = some (.slice A179_1 ((rd_T57 l0 x16_1).f1).length c179_1) := (blk_cell BK180.out 1).trans rfl; have hfz15_0 := blk_frozen BK180.out 0; have hfz15_1 := blk_frozen BK180.out 1))
              go_loopg [11, 28] k1 (fun kq v11 v28 w' => ∃ (x11_2 : List Int) (x28_2 : Int), v28 = .int .i64 x28_2 /\ Aside0 (impl_meet.l1 kq l1 a2 x7_1 t181 x11_2 l0 (l0.length : Int) x16_1 ((rd_T57 l0 x16_1).f1) (((rd_T57 l0 x16_1).f1).length : Int) x28_2 ((rd_T57 l0 x16_1).f0) ((rd_T57 l0 x16_1).f1) = some r) /\ Aside0 (kq <= k1) /\ Aside0 (Kd.S k57 57 w' w.heap.size (fun k_ => some k_ ≠ (v11 : Value).ownBlock /\ k_ ≠ gb180) u7 x7_1) /\ Aside0 (Kd.R (Kd.int .i64) 3 w' w.heap.size (fun _ => True) v11 x11_2) /\ Aside0 (w'.heap[gb180]? = some (.cells #[.int .i64 ((rd_T57 l0 x16_1).f0), (.slice A179_1 ((rd_T57 l0 x16_1).f1).length c179_1)] 57 (0, 0))) /\ Aside0 (Below w.heap.size w w'))
              case atStart => exact ⟨(([] : List Int)), (0), (by first | rfl | (simp; done) | (simp [*]; done)), H', ⟨Nat.le_refl _⟩, ⟨by (with_reducible repeat (first | apply Kd.S_alloc | apply Kd.S_drewN | apply Kd.S_drew)); exact Kd.S_mono HO_7.out (fun _ hk => ⟨(by simp [Value.ownBlock]), hk.2⟩)⟩, ⟨by first | exact Kd.R_nil _ _ _ _ _ | exact Kd.N_nil _ _ _ _ _ | exact Kd.V_nil _ _ _ _ _ | exact Kd.Q_nil _ _ _ _ _ | exact Kd.S_nil _ _ _ _ _⟩, ⟨by (with_reducible repeat (first | refine blk_drewN ?_ _ | refine blk_drew ?_ | refine blk_alloc ?_ _)); exact BK180.out⟩, ⟨by repeat (first | (with_reducible first | exact HB.out | apply below_alloc | apply pw_below_drewN | apply below_drew1 | refine below_set ?_ GE180.out) | exact HB.out)⟩⟩
              case round =>
                clear H'
                try clear c1
                try clear p1
                try clear q1
                try clear hx1
                try clear p2
                try clear c4
                try clear c4b0
                try clear c5
                try clear c5b0
                try clear c6
                try clear c6b0
                try clear p6
                try clear c7
                try clear c8
                try clear c8b0
                try clear c10
                try clear hcz10_0
                try clear hcz10_1
                try clear hcz13_0
                try clear hcz13_1
                try clear hcz15_0
                try clear hcz15_1
                try clear hfz10_0
                try clear hfz10_1
                try clear hfz13_0
                try clear hfz13_1
                try clear hfz15_0
                try clear hfz15_1
                try clear hx179_0
                try clear hx179_1
                try clear p179
                try clear p2
                try clear q179
                obtain ⟨x11_2, x28_2, rfl, HA, HK2, HO_7, HO_11, BK180, HB⟩ := hrel
                cases gk with
                | zero => exact absurd HA.out (by simp [impl_meet.l1])
                | succ k2 =>
                  have H := HA.out
                  clear HA
                  simp only [impl_meet.l1] at H
                  by_cases c16 : x28_2 < (((rd_T57 l0 x16_1).f1).length : Int)
                  · rw [if_pos c16] at H
                    have c16b0 : decide (x28_2 < (((rd_T57 l0 x16_1).f1).length : Int)) = true := decide_eq_true c16
                    clear c16
                    by_cases c17 : 0 <= x28_2
                    · rw [if_pos c17] at H
                      have c17b0 : decide (0 <= x28_2) = true := decide_eq_true c17
                      clear c17
                      by_cases c18 : x28_2 < (((rd_T57 l0 x16_1).f1).length : Int)
                      · rw [if_pos c18] at H
                        have c18b0 : decide (x28_2 < (((rd_T57 l0 x16_1).f1).length : Int)) = true := decide_eq_true c18
                        clear c18
                        by_cases c19 : 0 <= t181
                        · rw [if_pos c19] at H
                          have c19b0 : decide (0 <= t181) = true := decide_eq_true c19
                          clear c19
                          by_cases c20 : t181 < (l1.length : Int)
                          · rw [if_pos c20] at H
                            have c20b0 : decide (t181 < (l1.length : Int)) = true := decide_eq_true c20
                            clear c20
                            replace H := Option.bind_eq_some_iff.mp H
                            obtain ⟨t184, A210, H⟩ := H
                            replace H : (if t184 = true then (if x11_2.length < 17592186044416 then (impl_meet.l1 k2 l1 a2 x7_1 t181 (x11_2 ++ [rd ((rd_T57 l0 x16_1).f1) x28_2]) l0 (l0.length : Int) x16_1 ((rd_T57 l0 x16_1).f1) (((rd_T57 l0 x16_1).f1).length : Int) (wrap64 (x28_2 + 1)) ((rd_T57 l0 x16_1).f0) ((rd_T57 l0 x16_1).f1)) else (none)) else (impl_meet.l1 k2 l1 a2 x7_1 t181 x11_2 l0 (l0.length : Int) x16_1 ((rd_T57 l0 x16_1).f1) (((rd_T57 l0 x16_1).f1).length : Int) (wrap64 (x28_2 + 1)) ((rd_T57 l0 x16_1).f0) ((rd_T57 l0 x16_1).f1))) = some r := H
                            have A21 := Aside0.mk A210
                            clear A210
                            by_cases c22 : t184 = true
                            · subst c22
                              have H1 : (if x11_2.length < 17592186044416 then (impl_meet.l1 k2 l1 a2 x7_1 t181 (x11_2 ++ [rd ((rd_T57 l0 x16_1).f1) x28_2]) l0 (l0.length : Int) x16_1 ((rd_T57 l0 x16_1).f1) (((rd_T57 l0 x16_1).f1).length : Int) (wrap64 (x28_2 + 1)) ((rd_T57 l0 x16_1).f0) ((rd_T57 l0 x16_1).f1)) else (none)) = some r := by rw [if_pos rfl] at H; exact H
                              clear H
                              have H := H1
                              clear H1
                              by_cases c23 : x11_2.length < 17592186044416
                              · rw [if_pos c23] at H
                                have LMc23 := Aside0.mk c23
                                clear c23
                                obtain ⟨y185, hy185⟩ : ∃ y_ : List Int, y_ = (x11_2 ++ [rd ((rd_T57 l0 x16_1).f1) x28_2]) := ⟨_, rfl⟩
                                replace H : (impl_meet.l1 k2 l1 a2 x7_1 t181 y185 l0 (l0.length : Int) x16_1 ((rd_T57 l0 x16_1).f1) (((rd_T57 l0 x16_1).f1).length : Int) (wrap64 (x28_2 + 1)) ((rd_T57 l0 x16_1).f0) ((rd_T57 l0 x16_1).f1)) = some r := by first | (rw [hy185]; with_reducible exact H) | (have H2_ := (Option.bind_some _ _).symm.trans H; rw [hy185]; with_reducible exact H2_) | (have H2_ := (Option.bind_some _ _).symm.trans H; with_reducible exact H2_) | with_reducible exact H | (rw [hy185]; exact H) | exact H
                                have Ny185 := Aside0.mk hy185
                                clear hy185
                                have H' := Aside0.mk H
                                clear H
                                have p182 : 0 <= (x28_2 : Int) := of_decide_eq_true (by first | (with_reducible assumption) | assumption)
                                have q182 : x28_2 < (((rd_T57 l0 x16_1).f1).length : Int) := of_decide_eq_true (by first | (with_reducible assumption) | assumption)
                                obtain ⟨ad182, e182, hx182_0⟩ := Kd.at_int HR179_1.out x28_2 p182 q182
                                cases e182
                                replace hx182_0 := (HB.out.cell (World.block_lt_of_cell? w _ hx182_0)).trans hx182_0
                                replace p182 := eq_true p182
                                replace q182 := eq_true q182
                                have p183 : 0 <= (t181 : Int) := of_decide_eq_true (by first | (with_reducible assumption) | assumption)
                                have q183 : t181 < (l1.length : Int) := of_decide_eq_true (by first | (with_reducible assumption) | assumption)
                                obtain ⟨ad183, A183_1, c183_1, e183, hx183_0, hx183_1, hl183_1, hi183_1⟩ := at_T57 HR1.out t181 p183 q183
                                cases e183
                                replace hx183_0 := (HB.out.cell (World.block_lt_of_cell? w _ hx183_0)).trans hx183_0
                                replace hx183_1 := (HB.out.cell (World.block_lt_of_cell? w _ hx183_1)).trans hx183_1
                                have HR183_1 := Aside0.mk hi183_1
                                have HC183_1 := Aside0.mk hl183_1
                                clear hi183_1 hl183_1
                                replace p183 := eq_true p183
                                replace q183 := eq_true q183
                                go_wp2_with (first | ((with_reducible refine gate_callee (f := 102) rfl ?_); refine goesL_ (some 40) rfl rfl Try.func102 (by kernel_rfl) rfl #[.slice A183_1 ((rd_T57 l1 t181).f1).length c183_1, .int .i64 (wrap64 ((rd ((rd_T57 l0 x16_1).f1) x28_2) + a2))] rfl (by (try simp only [List.map_toArray, List.map_cons, List.map_nil]); first | done | rfl | (simp only [List.length_drop, List.length_take]; rfl)) ?_; (with_reducible refine (slices_Contains_int_int.calls k2 _ _ ((rd_T57 l1 t181).f1) (wrap64 ((rd ((rd_T57 l0 x16_1).f1) x28_2) + a2)) true _ ?side1 ?side2 A21.out).mono ?_); (case side1 => repeat (first | exact (Kd.C_below HR183_1.out HB.out) | (with_reducible refine Kd.C_alloc ?_ _) | (with_reducible refine Kd.C_drewN ?_ _) | (with_reducible refine Kd.C_drew ?_))); (case side2 => exact HC183_1.out); rintro e w' ⟨rfl, ⟨nd, rfl⟩⟩; refine ⟨_, rfl, ?_⟩) | ((with_reducible refine gate_builtin (b := .append) (xs := #[.tmp 41, .tmp 43]) rfl ?_); at_builtin; refine Kd.R_append (Kd.int .i64) (w0 := w) w.heap.size rfl (.tmp 41) (.tmp 43) 47 3 (.int .i64 0) 8 rfl Try.underlying47 info3 rfl (by decide) (by omega) u11 x11_2 (rd ((rd_T57 l0 x16_1).f1) x28_2) [.int .i64 (rd ((rd_T57 l0 x16_1).f1) x28_2)] (fun _ => True) (fun _ => False) rfl rfl ?aP (fun _ hk => hk.elim) ?aF ?aO ?aB ?aS ?aL ?_; (case aP => exact rfl); (case aB => exact (by repeat (first | (with_reducible first | exact HB.out | apply below_alloc | apply pw_below_drewN | apply below_drew1 | refine below_set ?_ GE180.out) | exact HB.out))); (case aF => exact (fun _ _ => trivial)); (case aO => exact (by (with_reducible repeat (first | apply Kd.R_alloc | apply Kd.R_drewN | apply Kd.R_drew)); exact HO_11.out)); (case aS => exact (below_size (by repeat (first | (with_reducible first | exact HB.out | apply below_alloc | apply pw_below_drewN | apply below_drew1 | refine below_set ?_ GE180.out) | exact HB.out)))); (case aL => have := LMc23.out; omega); intro v186 w24 ho hb hg hat; rw [<- Ny185.out] at ho; have n0_ := Aside0.mk (Kd.S_after (ok := (fun k_ => k_ ≠ gb180)) (by (with_reducible repeat (first | apply Kd.S_alloc | apply Kd.S_drewN | apply Kd.S_drew)); exact Kd.S_mono HO_7.out (fun _ hk => ⟨hk.2, hk.1⟩)) hg hat); have n1_ := Aside0.mk (blk_grown (g := gb180) (o := .cells #[.int .i64 ((rd_T57 l0 x16_1).f0), .slice (some ad182) ((rd_T57 l0 x16_1).f1).length c179_1] 57 (0, 0)) (by (with_reducible repeat (first | refine blk_drewN ?_ _ | refine blk_drew ?_ | refine blk_alloc ?_ _)); exact BK180.out) hg (Kd.R_ne HO_11.out BK180.out (by decide))); have n2_ := Aside0.mk (hb); have n3_ := Aside0.mk (ho); clear HO_7; clear BK180; clear HB; clear HO_11; have HO_7 := n0_; have BK180 := n1_; have HB := n2_; have HO187 := n3_; clear n0_ n1_ n2_ n3_; clear ho hb hg hat))
                                go_roundg k2
                                case measure => have := HK1.out; have := HK2.out; omega
                                case rel => exact ⟨(y185), (wrap64 (x28_2 + 1)), (by first | rfl | (simp; done) | (simp [*]; done)), H', ⟨by have := HK1.out; have := HK2.out; omega⟩, ⟨by (with_reducible repeat (first | apply Kd.S_alloc | apply Kd.S_drewN | apply Kd.S_drew)); exact Kd.S_mono HO_7.out (fun _ hk => ⟨hk.2, hk.1⟩)⟩, ⟨by (with_reducible repeat (first | apply Kd.R_alloc | apply Kd.R_drewN | apply Kd.R_drew)); exact HO187.out⟩, ⟨by (with_reducible repeat (first | refine blk_drewN ?_ _ | refine blk_drew ?_ | refine blk_alloc ?_ _)); exact BK180.out⟩, ⟨by repeat (first | (with_reducible first | exact HB.out | apply below_alloc | apply pw_below_drewN | apply below_drew1 | refine below_set ?_ GE180.out) | exact HB.out)⟩⟩
                              · rw [if_neg c23] at H
                                exact absurd H (by simp)
                            · replace c22 := Bool.eq_false_iff.mpr c22
                              subst c22
                              have H1 : (impl_meet.l1 k2 l1 a2 x7_1 t181 x11_2 l0 (l0.length : Int) x16_1 ((rd_T57 l0 x16_1).f1) (((rd_T57 l0 x16_1).f1).length : Int) (wrap64 (x28_2 + 1)) ((rd_T57 l0 x16_1).f0) ((rd_T57 l0 x16_1).f1)) = some r := by rw [if_neg (show ¬ (false = true) by decide)] at H; exact H
                              clear H
                              have H := H1
                              clear H1
                              have H' := Aside0.mk H
                              clear H
                              have p182 : 0 <= (x28_2 : Int) := of_decide_eq_true (by first | (with_reducible assumption) | assumption)
                              have q182 : x28_2 < (((rd_T57 l0 x16_1).f1).length : Int) := of_decide_eq_true (by first | (with_reducible assumption) | assumption)
                              obtain ⟨ad182, e182, hx182_0⟩ := Kd.at_int HR179_1.out x28_2 p182 q182
                              cases e182
                              replace hx182_0 := (HB.out.cell (World.block_lt_of_cell? w _ hx182_0)).trans hx182_0
                              replace p182 := eq_true p182
                              replace q182 := eq_true q182
                              have p183 : 0 <= (t181 : Int) := of_decide_eq_true (by first | (with_reducible assumption) | assumption)
                              have q183 : t181 < (l1.length : Int) := of_decide_eq_true (by first | (with_reducible assumption) | assumption)
                              obtain ⟨ad183, A183_1, c183_1, e183, hx183_0, hx183_1, hl183_1, hi183_1⟩ := at_T57 HR1.out t181 p183 q183
                              cases e183
                              replace hx183_0 := (HB.out.cell (World.block_lt_of_cell? w _ hx183_0)).trans hx183_0
                              replace hx183_1 := (HB.out.cell (World.block_lt_of_cell? w _ hx183_1)).trans hx183_1
                              have HR183_1 := Aside0.mk hi183_1
                              have HC183_1 := Aside0.mk hl183_1
                              clear hi183_1 hl183_1
                              replace p183 := eq_true p183
                              replace q183 := eq_true q183
                              go_wp2_with (first | ((with_reducible refine gate_callee (f := 102) rfl ?_); refine goesL_ (some 40) rfl rfl Try.func102 (by kernel_rfl) rfl #[.slice A183_1 ((rd_T57 l1 t181).f1).length c183_1, .int .i64 (wrap64 ((rd ((rd_T57 l0 x16_1).f1) x28_2) + a2))] rfl (by (try simp only [List.map_toArray, List.map_cons, List.map_nil]); first | done | rfl | (simp only [List.length_drop, List.length_take]; rfl)) ?_; (with_reducible refine (slices_Contains_int_int.calls k2 _ _ ((rd_T57 l1 t181).f1) (wrap64 ((rd ((rd_T57 l0 x16_1).f1) x28_2) + a2)) false _ ?side1 ?side2 A21.out).mono ?_); (case side1 => repeat (first | exact (Kd.C_below HR183_1.out HB.out) | (with_reducible refine Kd.C_alloc ?_ _) | (with_reducible refine Kd.C_drewN ?_ _) | (with_reducible refine Kd.C_drew ?_))); (case side2 => exact HC183_1.out); rintro e w' ⟨rfl, ⟨nd, rfl⟩⟩; refine ⟨_, rfl, ?_⟩))
                              go_roundg k2
                              case measure => have := HK1.out; have := HK2.out; omega
                              case rel => exact ⟨(x11_2), (wrap64 (x28_2 + 1)), (by first | rfl | (simp; done) | (simp [*]; done)), H', ⟨by have := HK1.out; have := HK2.out; omega⟩, ⟨by (with_reducible repeat (first | apply Kd.S_alloc | apply Kd.S_drewN | apply Kd.S_drew)); exact HO_7.out⟩, ⟨by (with_reducible repeat (first | apply Kd.R_alloc | apply Kd.R_drewN | apply Kd.R_drew)); exact HO_11.out⟩, ⟨by (with_reducible repeat (first | refine blk_drewN ?_ _ | refine blk_drew ?_ | refine blk_alloc ?_ _)); exact BK180.out⟩, ⟨by repeat (first | (with_reducible first | exact HB.out | apply below_alloc | apply pw_below_drewN | apply below_drew1 | refine below_set ?_ GE180.out) | exact HB.out)⟩⟩
                          · rw [if_neg c20] at H
                            exact absurd H (by simp)
                        · rw [if_neg c19] at H
                          exact absurd H (by simp)
                      · rw [if_neg c18] at H
                        exact absurd H (by simp)
                    · rw [if_neg c17] at H
                      exact absurd H (by simp)
                  · rw [if_neg c16] at H
                    have c16b0 : decide (x28_2 < (((rd_T57 l0 x16_1).f1).length : Int)) = false := decide_eq_false c16
                    clear c16
                    by_cases c25 : (x11_2.length : Int) > 0
                    · rw [if_pos c25] at H
                      have c25b0 : decide (0 < (x11_2.length : Int)) = true := decide_eq_true c25
                      have c25b1 : decide (0 < x11_2.length) = true := decide_eq_true (by omega)
                      clear c25
                      by_cases c26 : x7_1.length < 4398046511104
                      · rw [if_pos c26] at H
                        have LMc26 := Aside0.mk c26
                        clear c26
                        obtain ⟨y188, hy188⟩ : ∃ y_ : List (S57), y_ = (x7_1 ++ [(⟨((rd_T57 l0 x16_1).f0), x11_2⟩ : S57)]) := ⟨_, rfl⟩
                        replace H : (impl_meet.l0 k2 l1 a2 y188 l0 (l0.length : Int) (wrap64 (x16_1 + 1))) = some r := by first | (rw [hy188]; with_reducible exact H) | (have H2_ := (Option.bind_some _ _).symm.trans H; rw [hy188]; with_reducible exact H2_) | (have H2_ := (Option.bind_some _ _).symm.trans H; with_reducible exact H2_) | with_reducible exact H | (rw [hy188]; exact H) | exact H
                        have Ny188 := Aside0.mk hy188
                        clear hy188
                        have H' := Aside0.mk H
                        clear H
                        obtain ⟨Ao27, co27, eo27⟩ := Kd.R_slice HO_11.out
                        subst eo27
                        have hcz28_0 : wr.cell? ⟨gb180, 0, none⟩ = some (.int .i64 ((rd_T57 l0 x16_1).f0)) := (blk_cell BK180.out 0).trans rfl
                        have hcz28_1 : wr.cell? ⟨gb180, 1, none⟩ = some (.slice A179_1 ((rd_T57 l0 x16_1).f1).length c179_1) := (blk_cell BK180.out 1).trans rfl
                        have hfz28_0 := blk_frozen BK180.out 0
                        have hfz28_1 := blk_frozen BK180.out 1
                        go_wp2_with (first | ((with_reducible refine gate_builtin (b := .append) (xs := #[.tmp 49, .tmp 54]) rfl ?_); at_builtin; refine Kd.S_append k57 (w0 := w) w.heap.size rfl (.tmp 49) (.tmp 54) 28 57 (.agg #[(.int .i64 0), (.slice none 0 0)]) 32 rfl Try.underlying28 info57 rfl (by decide) (by omega) u7 x7_1 (⟨((rd_T57 l0 x16_1).f0), x11_2⟩ : S57) [.int .i64 ((rd_T57 l0 x16_1).f0), .slice Ao27 x11_2.length co27] (fun k_ => k_ ≠ gb180) (fun k_ => some k_ = (.slice Ao27 x11_2.length co27 : Value).ownBlock) rfl rfl ?aP (fun k_ hk_ => ((Kd.R_mono (ok' := fun k_ => ((fun k_ => k_ ≠ gb180)) k_ /\ some k_ ≠ (u7 : Value).ownBlock) (Kd.R_types (Kd.R_apart' (HO_11.out) (Kd.S_typed HO_7.out) (by decide)) BK180.out (by decide)) (fun k_ hk => ⟨hk.2, hk.1.2⟩))).1 k_ hk_.symm) ?aF ?aO ?aB ?aS ?aL ?_; (case aP => exact k57_mkM _ _ _ (⟨((rd_T57 l0 x16_1).f0), x11_2⟩ : S57) (Kd.R_mono (Kd.R_tight rfl (Kd.R_mono (ok' := fun k_ => ((fun k_ => k_ ≠ gb180)) k_ /\ some k_ ≠ (u7 : Value).ownBlock) (Kd.R_types (Kd.R_apart' (HO_11.out) (Kd.S_typed HO_7.out) (by decide)) BK180.out (by decide)) (fun k_ hk => ⟨hk.2, hk.1.2⟩))) (fun _ h_ => h_))); (case aB => exact (by repeat (first | (with_reducible first | exact HB.out | apply below_alloc | apply pw_below_drewN | apply below_drew1 | refine below_set ?_ GE180.out) | exact HB.out))); (case aF => exact (fun k_ hk => Kd.freshB (g := gb180) (o := .cells #[.int .i64 ((rd_T57 l0 x16_1).f0), .slice A179_1 ((rd_T57 l0 x16_1).f1).length c179_1] 57 (0, 0)) (by (with_reducible repeat (first | refine blk_drewN ?_ _ | refine blk_drew ?_ | refine blk_alloc ?_ _)); exact BK180.out) k_ hk)); (case aO => exact (by (with_reducible repeat (first | apply Kd.S_alloc | apply Kd.S_drewN | apply Kd.S_drew)); exact Kd.S_mono HO_7.out (fun k_ hk => ⟨hk.2, fun e_ => hk.1 e_⟩))); (case aS => exact (below_size (by repeat (first | (with_reducible first | exact HB.out | apply below_alloc | apply pw_below_drewN | apply below_drew1 | refine below_set ?_ GE180.out) | exact HB.out)))); (case aL => have := LMc26.out; omega); intro v189 w29 ho hb hg hat; rw [<- Ny188.out] at ho; have n0_ := Aside0.mk (blk_grown (g := gb180) (o := .cells #[.int .i64 ((rd_T57 l0 x16_1).f0), .slice A179_1 ((rd_T57 l0 x16_1).f1).length c179_1] 57 (0, 0)) (by (with_reducible repeat (first | refine blk_drewN ?_ _ | refine blk_drew ?_ | refine blk_alloc ?_ _)); exact BK180.out) hg (Kd.S_away HO_7.out (fun _ hk => hk.2))); have n1_ := Aside0.mk (hb); have n2_ := Aside0.mk (ho); clear BK180; clear HB; clear HO_7; clear HO_11; have BK180 := n0_; have HB := n1_; have HO190 := n2_; clear n0_ n1_ n2_; clear ho hb hg hat))
                        go_roundg k2
                        case measure => have := HK1.out; have := HK2.out; omega
                        case rel => exact ⟨(y188), (wrap64 (x16_1 + 1)), (by first | rfl | (simp; done) | (simp [*]; done)), H', ⟨by have := HK1.out; have := HK2.out; omega⟩, ⟨by (with_reducible repeat (first | apply Kd.S_alloc | apply Kd.S_drewN | apply Kd.S_drew)); exact Kd.S_mono HO190.out (fun _ hk => trivial)⟩, ⟨by repeat (first | (with_reducible first | exact HB.out | apply below_alloc | apply pw_below_drewN | apply below_drew1 | refine below_set ?_ GE180.out) | exact HB.out)⟩⟩
                      · rw [if_neg c26] at H
                        exact absurd H (by simp)
                    · rw [if_neg c25] at H
                      have c25b0 : decide (0 < (x11_2.length : Int)) = false := decide_eq_false c25
                      have c25b1 : decide (0 < x11_2.length) = false := decide_eq_false (by omega)
                      clear c25
                      have H' := Aside0.mk H
                      clear H
                      obtain ⟨Ao30, co30, eo30⟩ := Kd.R_slice HO_11.out
                      subst eo30
                      go_wp2
                      go_roundg k2
                      case measure => have := HK1.out; have := HK2.out; omega
                      case rel => exact ⟨(x7_1), (wrap64 (x16_1 + 1)), (by first | rfl | (simp; done) | (simp [*]; done)), H', ⟨by have := HK1.out; have := HK2.out; omega⟩, ⟨by (with_reducible repeat (first | apply Kd.S_alloc | apply Kd.S_drewN | apply Kd.S_drew)); exact Kd.S_mono HO_7.out (fun _ hk => trivial)⟩, ⟨by repeat (first | (with_reducible first | exact HB.out | apply below_alloc | apply pw_below_drewN | apply below_drew1 | refine below_set ?_ GE180.out) | exact HB.out)⟩⟩
          · rw [if_neg c6] at H
            exact absurd H (by simp)
        · rw [if_neg c5] at H
          exact absurd H (by simp)
      · rw [if_neg c4] at H
        have c4b0 : decide (x16_1 < (l0.length : Int)) = false := decide_eq_false c4
        clear c4
        obtain rfl := Option.some.inj H
        go_wp2
        go_ret
        exact ⟨_, by first | rfl | (simp [errW_none, errW_some] <;> rfl) | (simp [*, errW_none, errW_some] <;> rfl), by (with_reducible repeat (first | apply Kd.S_alloc | apply Kd.S_drewN | apply Kd.S_drew)); exact HO_7.out, by repeat (first | (with_reducible first | exact HB.out | apply below_alloc | apply pw_below_drewN | apply below_drew1) | exact HB.out)⟩
def impl_MeetPosts.f (k : Nat) (l0 : List (S57)) (l1 : List (S57)) (a2 : Int) : Option ((List (S57)) × Bool) := (impl_GoodPosts.f k l0).bind fun t300 => (if t300 = true then ((impl_GoodPosts.f k l1).bind fun t301 => (if t301 = true then ((impl_within.f a2 (-20) 20).bind fun t302 => (if t302 = true then ((impl_meet.f k l0 l1 a2).bind fun t303 => (some (t303, true))) else (some (([] : List (S57)), false)))) else (some (([] : List (S57)), false)))) else (some (([] : List (S57)), false)))
theorem impl_MeetPosts.mono : ∀ a0 a1 a2 k, LeO (impl_MeetPosts.f k a0 a1 a2) (impl_MeetPosts.f (k + 1) a0 a1 a2) := by
 intro a0 a1 a2 k
 unfold impl_MeetPosts.f
 repeat' (with_reducible first | exact impl_GoodPosts.mono _ _ | exact impl_meet.mono _ _ _ _ | exact LeO.refl _ | exact LeO.none _ | refine LeO.ite ?_ ?_ | refine LeO.bind ?_ (fun _ => ?_))
theorem impl_MeetPosts.calls (k : Nat) (A0 : Option Addr) (c0 : Nat) (l0 : List (S57)) (A1 : Option Addr) (c1 : Nat) (l1 : List (S57)) (a2 : Int) (r1 : List (S57)) (r2 : Bool) (w : World) (hr0 : Kd.C k57 w A0 l0.length l0) (hc0 : l0.length <= c0) (hr1 : Kd.C k57 w A1 l1.length l1) (hc1 : l1.length <= c1) (h : impl_MeetPosts.f k l0 l1 a2 = some (r1, r2)) :
  Calls Try.prog 34 #[.slice A0 l0.length c0, .slice A1 l1.length c1, .int .i64 a2] w fun e w' => ∃ v0_ : Value, e = .returned (.tuple #[v0_, .bool r2]) /\ Kd.S k57 57 w' w.heap.size (fun _ => True) v0_ r1 /\ Below w.heap.size w w' := by
 have HR0 := Aside0.mk hr0
 have HC0 := Aside0.mk hc0
 clear hr0 hc0
 have HR1 := Aside0.mk hr1
 have HC1 := Aside0.mk hc1
 clear hr1 hc1
 have HB := Aside0.mk (Below.refl w.heap.size w)
 have H : ((impl_GoodPosts.f k l0).bind fun t300 => (if t300 = true then ((impl_GoodPosts.f k l1).bind fun t301 => (if t301 = true then ((impl_within.f a2 (-20) 20).bind fun t302 => (if t302 = true then ((impl_meet.f k l0 l1 a2).bind fun t303 => (some (t303, true))) else (some (([] : List (S57)), false)))) else (some (([] : List (S57)), false)))) else (some (([] : List (S57)), false)))) = some (r1, r2) := h
 clear h
 replace H := Option.bind_eq_some_iff.mp H
 obtain ⟨t300, A40, H⟩ := H
 replace H : (if t300 = true then ((impl_GoodPosts.f k l1).bind fun t301 => (if t301 = true then ((impl_within.f a2 (-20) 20).bind fun t302 => (if t302 = true then ((impl_meet.f k l0 l1 a2).bind fun t303 => (some (t303, true))) else (some (([] : List (S57)), false)))) else (some (([] : List (S57)), false)))) else (some (([] : List (S57)), false))) = some (r1, r2) := H
 have A4 := Aside0.mk A40
 clear A40
 by_cases c5 : t300 = true
 ·subst c5
  have H1 : ((impl_GoodPosts.f k l1).bind fun t301 => (if t301 = true then ((impl_within.f a2 (-20) 20).bind fun t302 => (if t302 = true then ((impl_meet.f k l0 l1 a2).bind fun t303 => (some (t303, true))) else (some (([] : List (S57)), false)))) else (some (([] : List (S57)), false)))) = some (r1, r2) := by rw [if_pos rfl] at H; exact H
  clear H
  have H := H1
  clear H1
  replace H := Option.bind_eq_some_iff.mp H
  obtain ⟨t301, A60, H⟩ := H
  replace H : (if t301 = true then ((impl_within.f a2 (-20) 20).bind fun t302 => (if t302 = true then ((impl_meet.f k l0 l1 a2).bind fun t303 => (some (t303, true))) else (some (([] : List (S57)), false)))) else (some (([] : List (S57)), false))) = some (r1, r2) := H
  have A6 := Aside0.mk A60
  clear A60
  by_cases c7 : t301 = true
  ·subst c7
   have H1 : ((impl_within.f a2 (-20) 20).bind fun t302 => (if t302 = true then ((impl_meet.f k l0 l1 a2).bind fun t303 => (some (t303, true))) else (some (([] : List (S57)), false)))) = some (r1, r2) := by rw [if_pos rfl] at H; exact H
   clear H
   have H := H1
   clear H1
   replace H := Option.bind_eq_some_iff.mp H
   obtain ⟨t302, A80, H⟩ := H
   replace H : (if t302 = true then ((impl_meet.f k l0 l1 a2).bind fun t303 => (some (t303, true))) else (some (([] : List (S57)), false))) = some (r1, r2) := H
   have A8 := Aside0.mk A80
   clear A80
   by_cases c9 : t302 = true
   ·subst c9
    have H1 : ((impl_meet.f k l0 l1 a2).bind fun t303 => (some (t303, true))) = some (r1, r2) := by rw [if_pos rfl] at H; exact H
    clear H
    have H := H1
    clear H1
    replace H := Option.bind_eq_some_iff.mp H
    obtain ⟨t303, A100, H⟩ := H
    replace H : (some (t303, true)) = some (r1, r2) := H
    have A10 := Aside0.mk A100
    clear A100
    simp only [Option.some.injEq, Prod.mk.injEq] at H
    obtain ⟨rfl, rfl⟩ := H
    go_enter Try.func34, Try.ntmps34
    go_wp2_with (first | ((with_reducible refine gate_callee (f := 32) rfl ?_); refine goesL_ (some 9) rfl rfl Try.func32 (by kernel_rfl) rfl #[.slice A0 l0.length c0] rfl (ag_) ?_; (with_reducible refine (impl_GoodPosts.calls k _ _ l0 true _ ?side1 ?side2 A4.out).mono ?_); (case side1 => refine cd_ ?_; exact HR0.out); (case side2 => exact HC0.out); rintro e w11 ⟨rfl, hb⟩; refine ⟨_, rfl, ?_⟩; have n0_ := Aside0.mk (bs_ HB.out hb); clear HB; have HB := n0_; clear n0_; (try clear hb); (try clear hb2); (try clear hk); (try clear hi)) | (go_at_call 32; (with_reducible refine (impl_GoodPosts.calls k _ _ l1 true _ ?side1 ?side2 A6.out).mono ?_); (case side1 => refine cd_ ?_; exact (Kd.C_below HR1.out HB.out)); (case side2 => exact HC1.out); rintro e w12 ⟨rfl, hb⟩; have n0_ := Aside0.mk (bs_ HB.out hb); clear HB; have HB := n0_; clear n0_; (try clear hb); (try clear hb2); (try clear hk); (try clear hi)) | (go_at_call 70; (with_reducible refine (impl_within.calls a2 (-20) 20 true _ A8.out).mono ?_); rintro e w' ⟨rfl, ⟨nd, rfl⟩⟩) | ((with_reducible refine gate_callee (f := 72) rfl ?_); refine goesL_ (some 24) rfl rfl Try.func72 (by kernel_rfl) rfl #[.slice A0 l0.length c0, .slice A1 l1.length c1, .int .i64 a2] rfl (ag_) ?_; (with_reducible refine (impl_meet.calls k _ _ l0 _ _ l1 a2 t303 _ ?side1 ?side2 ?side3 ?side4 A10.out).mono ?_); (case side1 => repeat (first | exact (Kd.C_below HR0.out (be_ HB.out)) | (with_reducible refine Kd.C_alloc ?_ _) | (with_reducible refine Kd.C_drewN ?_ _) | (with_reducible refine Kd.C_drew ?_))); (case side2 => exact HC0.out); (case side3 => repeat (first | exact (Kd.C_below HR1.out (be_ HB.out)) | (with_reducible refine Kd.C_alloc ?_ _) | (with_reducible refine Kd.C_drewN ?_ _) | (with_reducible refine Kd.C_drew ?_))); (case side4 => exact HC1.out); rintro e w13 ⟨v304, rfl, ho0, hb⟩; refine ⟨_, rfl, ?_⟩; have n0_ := Aside0.mk (Kd.S_lower ho0 (bw_ HB.out)); have n1_ := Aside0.mk (bs_ HB.out hb); clear HB; have HO305 := n0_; have HB := n1_; clear n0_ n1_; (try clear hb); (try clear hb2); (try clear hk); (try clear hi); (try clear ho0)))
    go_ret2
    exact ⟨_, ew_, by (with_reducible repeat (first | apply Kd.S_alloc | apply Kd.S_drewN | apply Kd.S_drew)); exact HO305.out, by repeat (first | (with_reducible first | exact HB.out | apply below_alloc | apply pw_below_drewN | apply below_drew1) | exact HB.out)⟩
   ·replace c9 := Bool.eq_false_iff.mpr c9
    subst c9
    have H1 : (some (([] : List (S57)), false)) = some (r1, r2) := by rw [if_neg (show ¬ (false = true) by decide)] at H; exact H
    clear H
    have H := H1
    clear H1
    simp only [Option.some.injEq, Prod.mk.injEq] at H
    obtain ⟨rfl, rfl⟩ := H
    go_enter Try.func34, Try.ntmps34
    go_wp2_with (first | ((with_reducible refine gate_callee (f := 32) rfl ?_); refine goesL_ (some 9) rfl rfl Try.func32 (by kernel_rfl) rfl #[.slice A0 l0.length c0] rfl (ag_) ?_; (with_reducible refine (impl_GoodPosts.calls k _ _ l0 true _ ?side1 ?side2 A4.out).mono ?_); (case side1 => refine cd_ ?_; exact HR0.out); (case side2 => exact HC0.out); rintro e w14 ⟨rfl, hb⟩; refine ⟨_, rfl, ?_⟩; have n0_ := Aside0.mk (bs_ HB.out hb); clear HB; have HB := n0_; clear n0_; (try clear hb); (try clear hb2); (try clear hk); (try clear hi)) | (go_at_call 32; (with_reducible refine (impl_GoodPosts.calls k _ _ l1 true _ ?side1 ?side2 A6.out).mono ?_); (case side1 => refine cd_ ?_; exact (Kd.C_below HR1.out HB.out)); (case side2 => exact HC1.out); rintro e w15 ⟨rfl, hb⟩; have n0_ := Aside0.mk (bs_ HB.out hb); clear HB; have HB := n0_; clear n0_; (try clear hb); (try clear hb2); (try clear hk); (try clear hi)) | (go_at_call 70; (with_reducible refine (impl_within.calls a2 (-20) 20 false _ A8.out).mono ?_); rintro e w' ⟨rfl, ⟨nd, rfl⟩⟩))
    go_ret2
    exact ⟨_, ew_, by first | exact Kd.S_nil _ _ _ _ _ | exact Kd.N_nil _ _ _ _ _ | exact Kd.V_nil _ _ _ _ _ | exact Kd.Q_nil _ _ _ _ _ | exact Kd.R_nil _ _ _ _ _, by repeat (first | (with_reducible first | exact HB.out | apply below_alloc | apply pw_below_drewN | apply below_drew1) | exact HB.out)⟩
  ·replace c7 := Bool.eq_false_iff.mpr c7
   subst c7
   have H1 : (some (([] : List (S57)), false)) = some (r1, r2) := by rw [if_neg (show ¬ (false = true) by decide)] at H; exact H
   clear H
   have H := H1
   clear H1
   simp only [Option.some.injEq, Prod.mk.injEq] at H
   obtain ⟨rfl, rfl⟩ := H
   go_enter Try.func34, Try.ntmps34
   go_wp2_with (first | ((with_reducible refine gate_callee (f := 32) rfl ?_); refine goesL_ (some 9) rfl rfl Try.func32 (by kernel_rfl) rfl #[.slice A0 l0.length c0] rfl (ag_) ?_; (with_reducible refine (impl_GoodPosts.calls k _ _ l0 true _ ?side1 ?side2 A4.out).mono ?_); (case side1 => refine cd_ ?_; exact HR0.out); (case side2 => exact HC0.out); rintro e w16 ⟨rfl, hb⟩; refine ⟨_, rfl, ?_⟩; have n0_ := Aside0.mk (bs_ HB.out hb); clear HB; have HB := n0_; clear n0_; (try clear hb); (try clear hb2); (try clear hk); (try clear hi)) | (go_at_call 32; (with_reducible refine (impl_GoodPosts.calls k _ _ l1 false _ ?side1 ?side2 A6.out).mono ?_); (case side1 => refine cd_ ?_; exact (Kd.C_below HR1.out HB.out)); (case side2 => exact HC1.out); rintro e w17 ⟨rfl, hb⟩; have n0_ := Aside0.mk (bs_ HB.out hb); clear HB; have HB := n0_; clear n0_; (try clear hb); (try clear hb2); (try clear hk); (try clear hi)))
   go_ret2
   exact ⟨_, ew_, by first | exact Kd.S_nil _ _ _ _ _ | exact Kd.N_nil _ _ _ _ _ | exact Kd.V_nil _ _ _ _ _ | exact Kd.Q_nil _ _ _ _ _ | exact Kd.R_nil _ _ _ _ _, by repeat (first | (with_reducible first | exact HB.out | apply below_alloc | apply pw_below_drewN | apply below_drew1) | exact HB.out)⟩
 ·replace c5 := Bool.eq_false_iff.mpr c5
  subst c5
  have H1 : (some (([] : List (S57)), false)) = some (r1, r2) := by rw [if_neg (show ¬ (false = true) by decide)] at H; exact H
  clear H
  have H := H1
  clear H1
  simp only [Option.some.injEq, Prod.mk.injEq] at H
  obtain ⟨rfl, rfl⟩ := H
  go_enter Try.func34, Try.ntmps34
  go_wp2_with (first | ((with_reducible refine gate_callee (f := 32) rfl ?_); refine goesL_ (some 9) rfl rfl Try.func32 (by kernel_rfl) rfl #[.slice A0 l0.length c0] rfl (ag_) ?_; (with_reducible refine (impl_GoodPosts.calls k _ _ l0 false _ ?side1 ?side2 A4.out).mono ?_); (case side1 => refine cd_ ?_; exact HR0.out); (case side2 => exact HC0.out); rintro e w18 ⟨rfl, hb⟩; refine ⟨_, rfl, ?_⟩; have n0_ := Aside0.mk (bs_ HB.out hb); clear HB; have HB := n0_; clear n0_; (try clear hb); (try clear hb2); (try clear hk); (try clear hi)))
  go_ret2
  exact ⟨_, ew_, by first | exact Kd.S_nil _ _ _ _ _ | exact Kd.N_nil _ _ _ _ _ | exact Kd.V_nil _ _ _ _ _ | exact Kd.Q_nil _ _ _ _ _ | exact Kd.R_nil _ _ _ _ _, by repeat (first | (with_reducible first | exact HB.out | apply below_alloc | apply pw_below_drewN | apply below_drew1) | exact HB.out)⟩
def spec_l9Letter.j0 : Nat -> Int -> Bool -> Option (Int)
 | 0, _, _ => none
 | k + 1, x0, x3 => if x3 = true then (some x0) else (if x0 ≥ 65 then (if x0 <= 90 then (some ((x0 + 32) % 256)) else (some 0)) else (some 0))
def spec_l9Letter.f (k : Nat) (a0 : Int) : Option (Int) := if a0 ≥ 97 then (spec_l9Letter.j0 k a0 (decide (a0 <= 122))) else (spec_l9Letter.j0 k a0 false)
theorem spec_l9Letter.mono_l : ∀ k, (∀ y0 y1, LeO (spec_l9Letter.j0 k y0 y1) (spec_l9Letter.j0 (k + 1) y0 y1))
 | 0 => fun _ _ r h => by simp [spec_l9Letter.j0] at h
 | k + 1 => by
  have ih0 := spec_l9Letter.mono_l k
  ·intro y0 y1
   unfold spec_l9Letter.j0
   repeat' (with_reducible first | exact ih0 _ _ | exact LeO.refl _ | exact LeO.none _ | refine LeO.ite ?_ ?_ | refine LeO.bind ?_ (fun _ => ?_))
theorem spec_l9Letter.mono : ∀ a0 k, LeO (spec_l9Letter.f k a0) (spec_l9Letter.f (k + 1) a0) := by
 intro a0 k
 have ih0 := spec_l9Letter.mono_l k
 unfold spec_l9Letter.f
 repeat' (with_reducible first | exact ih0 _ _ | exact LeO.refl _ | exact LeO.none _ | refine LeO.ite ?_ ?_ | refine LeO.bind ?_ (fun _ => ?_))
theorem spec_l9Letter.calls (k : Nat) (a0 : Int) (r : Int) (w : World) (h : spec_l9Letter.f k a0 = some r) :
  Calls Try.prog 87 #[.int .u8 a0] w fun e w' => e = .returned (.int .u8 r) /\ Drawn0 w w' := by
 have H : (if a0 ≥ 97 then (spec_l9Letter.j0 k a0 (decide (a0 <= 122))) else (spec_l9Letter.j0 k a0 false)) = some r := h
 clear h
 have HC2 := Aside0.mk H
 clear H
 go_enter Try.func87, Try.ntmps87
 go_upto_region 1 with (fail)
 go_cut [3] (fun v3 wc => ∃ (kq : Nat) (x3_1 : Bool), v3 = .bool x3_1 /\ Aside0 (spec_l9Letter.j0 kq a0 x3_1 = some r) /\ Aside0 (kq <= k) /\ Drawn0 w wc)
 case first =>
  have H := HC2.out
  clear HC2
  by_cases c3 : a0 ≥ 97
  ·rw [if_pos c3] at H
   have c3b0 : decide (97 <= a0) = true := decide_eq_true c3
   clear c3
   (first | rw [c3b0] | (simp only [i64_w, i32_w]; rw [c3b0]) | rw [c3b1] | skip)
   have H' := Aside0.mk H
   clear H
   go_wp2
   go_meet
   case rel => exact ⟨_, (decide (a0 <= 122)), (by first | rfl | (simp; done) | (simp [*]; done)), H', ⟨by first | omega | exact Nat.le_refl _⟩, by repeat (first | exact Drawn0.refl _ | apply Drawn0.step)⟩
  ·rw [if_neg c3] at H
   have c3b0 : decide (97 <= a0) = false := decide_eq_false c3
   clear c3
   (first | rw [c3b0] | (simp only [i64_w, i32_w]; rw [c3b0]) | rw [c3b1] | skip)
   have H' := Aside0.mk H
   clear H
   go_wp2
   go_meet
   case rel => exact ⟨_, (false), (by first | rfl | (simp; done) | (simp [*]; done)), H', ⟨by first | omega | exact Nat.le_refl _⟩, by repeat (first | exact Drawn0.refl _ | apply Drawn0.step)⟩
 case rest =>
  clear HC2
  (try clear p2); (try clear c3); (try clear c3b0); (try clear c3b1)
  obtain ⟨kq, x3_1, rfl, HA, HJ1, ⟨mc1, rfl⟩⟩ := hcut
  cases kq with
  | zero => exact absurd HA.out (by simp [spec_l9Letter.j0])
  | succ kj1 =>
   have H := HA.out
   clear HA
   simp only [spec_l9Letter.j0] at H
   by_cases c4 : x3_1 = true
   ·subst c4
    have H1 : (some a0) = some r := by rw [if_pos rfl] at H; exact H
    clear H
    have H := H1
    clear H1
    obtain rfl := Option.some.inj H
    go_wp2
    go_ret
    exact ⟨by first | rfl | (simp; done) | (simp [*]; done), by repeat (first | exact Drawn0.refl _ | apply Drawn0.step)⟩
   ·replace c4 := Bool.eq_false_iff.mpr c4
    subst c4
    have H1 : (if a0 ≥ 65 then (if a0 <= 90 then (some ((a0 + 32) % 256)) else (some 0)) else (some 0)) = some r := by rw [if_neg (show ¬ (false = true) by decide)] at H; exact H
    clear H
    have H := H1
    clear H1
    by_cases c5 : a0 ≥ 65
    ·rw [if_pos c5] at H
     have c5b0 : decide (65 <= a0) = true := decide_eq_true c5
     clear c5
     by_cases c6 : a0 <= 90
     ·rw [if_pos c6] at H
      have c6b0 : decide (a0 <= 90) = true := decide_eq_true c6
      clear c6
      obtain rfl := Option.some.inj H
      go_wp2
      go_ret
      exact ⟨by first | rfl | (simp; done) | (simp [*]; done), by repeat (first | exact Drawn0.refl _ | apply Drawn0.step)⟩
     ·rw [if_neg c6] at H
      have c6b0 : decide (a0 <= 90) = false := decide_eq_false c6
      clear c6
      obtain rfl := Option.some.inj H
      go_wp2
      go_ret
      exact ⟨by first | rfl | (simp; done) | (simp [*]; done), by repeat (first | exact Drawn0.refl _ | apply Drawn0.step)⟩
    ·rw [if_neg c5] at H
     have c5b0 : decide (65 <= a0) = false := decide_eq_false c5
     clear c5
     obtain rfl := Option.some.inj H
     go_wp2
     go_ret
     exact ⟨by first | rfl | (simp; done) | (simp [*]; done), by repeat (first | exact Drawn0.refl _ | apply Drawn0.step)⟩
def spec_l9Words.l0 : Nat -> ByteArray -> List ByteArray -> ByteArray -> Int -> Option (List ByteArray)
 | 0, _, _, _, _ => none
 | k + 1, x0, x3, x4, x5 => if x5 < (x0.size : Int) then (if 0 <= x5 then ((spec_l9Letter.f k (bt x0 x5)).bind fun t112 => (if t112 = 0 then (if x4.toList = ([] : List UInt8) then (spec_l9Words.l0 k x0 x3 (⟨#[]⟩ : ByteArray) (wrap64 (x5 + 1))) else (if x3.length < 8796093022208 then (spec_l9Words.l0 k x0 (x3 ++ [x4]) (⟨#[]⟩ : ByteArray) (wrap64 (x5 + 1))) else (none))) else ((some (([t112] : List Int) : List Int)).bind fun y116 => (if x4.size + (strOfNums y116).size <= 9223372036854775807 then (spec_l9Words.l0 k x0 x3 (x4 ++ (strOfNums y116)) (wrap64 (x5 + 1))) else (none))))) else (none)) else (if x4.toList = ([] : List UInt8) then (some x3) else (if x3.length < 8796093022208 then (some (x3 ++ [x4])) else (none)))
def spec_l9Words.f (k : Nat) (a0 : ByteArray) : Option (List ByteArray) := spec_l9Words.l0 k a0 ([] : List ByteArray) (⟨#[]⟩ : ByteArray) 0
theorem spec_l9Words.mono_l : ∀ k, (∀ y0 y1 y2 y3, LeO (spec_l9Words.l0 k y0 y1 y2 y3) (spec_l9Words.l0 (k + 1) y0 y1 y2 y3))
 | 0 => fun _ _ _ _ r h => by simp [spec_l9Words.l0] at h
 | k + 1 => by
  have ih0 := spec_l9Words.mono_l k
  ·intro y0 y1 y2 y3
   unfold spec_l9Words.l0
   repeat' (with_reducible first | exact ih0 _ _ _ _ | exact spec_l9Letter.mono _ _ | exact LeO.refl _ | exact LeO.none _ | refine LeO.ite ?_ ?_ | refine LeO.bind ?_ (fun _ => ?_))
theorem spec_l9Words.mono : ∀ a0 k, LeO (spec_l9Words.f k a0) (spec_l9Words.f (k + 1) a0) := by
 intro a0 k
 have ih0 := spec_l9Words.mono_l k
 unfold spec_l9Words.f
 repeat' (with_reducible first | exact ih0 _ _ _ _ | exact spec_l9Letter.mono _ _ | exact LeO.refl _ | exact LeO.none _ | refine LeO.ite ?_ ?_ | refine LeO.bind ?_ (fun _ => ?_))
theorem spec_l9Words.calls (k : Nat) (a0 : ByteArray) (r : List ByteArray) (w : World) (h : spec_l9Words.f k a0 = some r) :
  Calls Try.prog 52 #[.string a0] w fun e w' => ∃ v0_ : Value, e = .returned (v0_) /\ Kd.R Kd.string 9 w' w.heap.size (fun _ => True) v0_ r /\ Below w.heap.size w w' := by
 have HB := Aside0.mk (Below.refl w.heap.size w)
 have H : (spec_l9Words.l0 k a0 ([] : List ByteArray) (⟨#[]⟩ : ByteArray) 0) = some r := h
 clear h
 have H' := Aside0.mk H
 clear H
 go_enter Try.func52, Try.ntmps52
 go_wp2
 go_loopg [3, 4, 5] k (fun kq v3 v4 v5 w' => ∃ (x3_1 : List ByteArray) (x4_1 : ByteArray) (x5_1 : Int), v4 = .string x4_1 /\ v5 = .int .i64 x5_1 /\ Aside0 (spec_l9Words.l0 kq a0 x3_1 x4_1 x5_1 = some r) /\ Aside0 (kq <= k) /\ Aside0 (Kd.R Kd.string 9 w' w.heap.size (fun _ => True) v3 x3_1) /\ Aside0 (Below w.heap.size w w'))
 case atStart => exact ⟨(([] : List ByteArray)), ((⟨#[]⟩ : ByteArray)), (0), (by first | rfl | (simp; done) | (simp [*]; done)), (by first | rfl | (simp; done) | (simp [*]; done)), H', ⟨Nat.le_refl _⟩, ⟨by first | exact Kd.R_nil _ _ _ _ _ | exact Kd.N_nil _ _ _ _ _ | exact Kd.V_nil _ _ _ _ _ | exact Kd.Q_nil _ _ _ _ _ | exact Kd.S_nil _ _ _ _ _⟩, ⟨be_ HB.out⟩⟩
 case round =>
  clear H'
  obtain ⟨x3_1, x4_1, x5_1, rfl, rfl, HA, HK1, HO_3, HB⟩ := hrel
  cases gk with
  | zero => exact absurd HA.out (by simp [spec_l9Words.l0])
  | succ k1 =>
   have H := HA.out
   clear HA
   simp only [spec_l9Words.l0] at H
   by_cases c2 : x5_1 < (a0.size : Int)
   ·rw [if_pos c2] at H
    have c2b0 : decide (x5_1 < (a0.size : Int)) = true := decide_eq_true c2
    clear c2
    by_cases c3 : 0 <= x5_1
    ·rw [if_pos c3] at H
     have c3b0 : decide (0 <= x5_1) = true := decide_eq_true c3
     clear c3
     replace H := Option.bind_eq_some_iff.mp H
     obtain ⟨t112, A50, H⟩ := H
     replace H : (if t112 = 0 then (if x4_1.toList = ([] : List UInt8) then (spec_l9Words.l0 k1 a0 x3_1 (⟨#[]⟩ : ByteArray) (wrap64 (x5_1 + 1))) else (if x3_1.length < 8796093022208 then (spec_l9Words.l0 k1 a0 (x3_1 ++ [x4_1]) (⟨#[]⟩ : ByteArray) (wrap64 (x5_1 + 1))) else (none))) else ((some (([t112] : List Int) : List Int)).bind fun y116 => (if x4_1.size + (strOfNums y116).size <= 9223372036854775807 then (spec_l9Words.l0 k1 a0 x3_1 (x4_1 ++ (strOfNums y116)) (wrap64 (x5_1 + 1))) else (none)))) = some r := H
     have A5 := Aside0.mk A50
     clear A50
     by_cases c6 : t112 = 0
     ·rw [if_pos c6] at H
      have c6b0 : (t112 == 0) = true := beq_iff_eq.mpr c6
      have c6b1 : (t112 != 0) = false := bne_eq_false_iff_eq.mpr c6
      clear c6
      by_cases c7 : x4_1.toList = ([] : List UInt8)
      ·rw [if_pos c7] at H
       have c7b0 : (x4_1.toList == ([] : List UInt8)) = true := beq_iff_eq.mpr c7
       have c7b1 : (x4_1.toList != ([] : List UInt8)) = false := bne_eq_false_iff_eq.mpr c7
       clear c7
       have H' := Aside0.mk H
       clear H
       have p4 : 0 <= (x5_1 : Int) := of_decide_eq_true as_
       have q4 : x5_1 < (a0.size : Int) := of_decide_eq_true as_
       have hx4 := bt_at a0 x5_1
       replace p4 := eq_true p4
       replace q4 := eq_true q4
       go_wp2_with (first | ((with_reducible refine gate_callee (f := 87) rfl ?_); refine goesL_ (some 16) rfl rfl Try.func87 (by kernel_rfl) rfl #[.int .u8 (bt a0 x5_1)] rfl (ag_) ?_; (with_reducible refine (spec_l9Letter.calls k1 (bt a0 x5_1) t112 _ A5.out).mono ?_); rintro e w' ⟨rfl, ⟨nd, rfl⟩⟩; refine ⟨_, rfl, ?_⟩))
       go_roundg k1
       case measure => have := HK1.out; omega
       case rel => exact ⟨(x3_1), ((⟨#[]⟩ : ByteArray)), (wrap64 (x5_1 + 1)), (by first | rfl | (simp; done) | (simp [*]; done)), (by first | rfl | (simp; done) | (simp [*]; done)), H', ⟨by have := HK1.out; omega⟩, ⟨rk_ HO_3.out⟩, ⟨be_ HB.out⟩⟩
      ·rw [if_neg c7] at H
       have c7b0 : (x4_1.toList == ([] : List UInt8)) = false := beq_eq_false_iff_ne.mpr c7
       have c7b1 : (x4_1.toList != ([] : List UInt8)) = true := bne_iff_ne.mpr c7
       by_cases c8 : x3_1.length < 8796093022208
       ·rw [if_pos c8] at H
        have LMc8 := Aside0.mk c8
        clear c8
        obtain ⟨y113, hy113⟩ : ∃ y_ : List ByteArray, y_ = (x3_1 ++ [x4_1]) := ⟨_, rfl⟩
        replace H : (spec_l9Words.l0 k1 a0 y113 (⟨#[]⟩ : ByteArray) (wrap64 (x5_1 + 1))) = some r := by first | (rw [hy113]; with_reducible exact H) | (have H2_ := (Option.bind_some _ _).symm.trans H; rw [hy113]; with_reducible exact H2_) | (have H2_ := (Option.bind_some _ _).symm.trans H; with_reducible exact H2_) | with_reducible exact H | (rw [hy113]; exact H) | exact H
        have Ny113 := Aside0.mk hy113
        clear hy113
        have H' := Aside0.mk H
        clear H
        have p4 : 0 <= (x5_1 : Int) := of_decide_eq_true as_
        have q4 : x5_1 < (a0.size : Int) := of_decide_eq_true as_
        have hx4 := bt_at a0 x5_1
        replace p4 := eq_true p4
        replace q4 := eq_true q4
        go_wp2_with (first | ((with_reducible refine gate_callee (f := 87) rfl ?_); refine goesL_ (some 16) rfl rfl Try.func87 (by kernel_rfl) rfl #[.int .u8 (bt a0 x5_1)] rfl (ag_) ?_; (with_reducible refine (spec_l9Letter.calls k1 (bt a0 x5_1) t112 _ A5.out).mono ?_); rintro e w' ⟨rfl, ⟨nd, rfl⟩⟩; refine ⟨_, rfl, ?_⟩) | ((with_reducible refine gate_builtin (b := .append) (xs := #[.tmp 26, .tmp 28]) rfl ?_); at_builtin; refine Kd.R_append Kd.string (w0 := w) w.heap.size rfl (.tmp 26) (.tmp 28) 22 9 (.string ⟨#[]⟩) 16 rfl Try.underlying22 info9 rfl (by decide) (by omega) u3 x3_1 x4_1 [.string x4_1] (fun _ => True) (fun _ => False) rfl rfl ?aP (fun _ hk => hk.elim) ?aF ?aO ?aB ?aS ?aL ?_; (case aP => exact rfl); (case aB => exact (be_ HB.out)); (case aF => exact (fun _ _ => trivial)); (case aO => exact (rk_ HO_3.out)); (case aS => exact (bw_ HB.out)); (case aL => have := LMc8.out; omega); intro v114 w9 ho hb hg hat; rw [<- Ny113.out] at ho; have n0_ := Aside0.mk (hb); have n1_ := Aside0.mk (ho); clear HB; clear HO_3; have HB := n0_; have HO115 := n1_; clear n0_ n1_; clear ho hb hg hat))
        go_roundg k1
        case measure => have := HK1.out; omega
        case rel => exact ⟨(y113), ((⟨#[]⟩ : ByteArray)), (wrap64 (x5_1 + 1)), (by first | rfl | (simp; done) | (simp [*]; done)), (by first | rfl | (simp; done) | (simp [*]; done)), H', ⟨by have := HK1.out; omega⟩, ⟨rk_ HO115.out⟩, ⟨be_ HB.out⟩⟩
       ·rw [if_neg c8] at H
        exact absurd H (by simp)
     ·rw [if_neg c6] at H
      have c6b0 : (t112 == 0) = false := beq_eq_false_iff_ne.mpr c6
      have c6b1 : (t112 != 0) = true := bne_iff_ne.mpr c6
      obtain ⟨y116, hy116⟩ : ∃ y_ : List Int, y_ = (([t112] : List Int)) := ⟨_, rfl⟩
      replace H : (if x4_1.size + (strOfNums y116).size <= 9223372036854775807 then (spec_l9Words.l0 k1 a0 x3_1 (x4_1 ++ (strOfNums y116)) (wrap64 (x5_1 + 1))) else (none)) = some r := by first | (rw [hy116]; with_reducible exact H) | (have H2_ := (Option.bind_some _ _).symm.trans H; rw [hy116]; with_reducible exact H2_) | (have H2_ := (Option.bind_some _ _).symm.trans H; with_reducible exact H2_) | with_reducible exact H | (rw [hy116]; exact H) | exact H
      have Ny116 := Aside0.mk hy116
      clear hy116
      by_cases c10 : x4_1.size + (strOfNums y116).size <= 9223372036854775807
      ·rw [if_pos c10] at H
       have c10b0 := eq_true c10
       have c10b1 : decide (x4_1.size + (strOfNums y116).size <= 9223372036854775807) = true := decide_eq_true c10
       try have c10b2 : (9223372036854775807 < x4_1.size + (strOfNums y116).size) = False := eq_false (Nat.not_lt.2 c10)
       have H' := Aside0.mk H
       clear H
       have p4 : 0 <= (x5_1 : Int) := of_decide_eq_true as_
       have q4 : x5_1 < (a0.size : Int) := of_decide_eq_true as_
       have hx4 := bt_at a0 x5_1
       replace p4 := eq_true p4
       replace q4 := eq_true q4
       go_wp2_with (first | ((with_reducible refine gate_callee (f := 87) rfl ?_); refine goesL_ (some 16) rfl rfl Try.func87 (by kernel_rfl) rfl #[.int .u8 (bt a0 x5_1)] rfl (ag_) ?_; (with_reducible refine (spec_l9Letter.calls k1 (bt a0 x5_1) t112 _ A5.out).mono ?_); rintro e w' ⟨rfl, ⟨nd, rfl⟩⟩; refine ⟨_, rfl, ?_⟩) | ((with_reducible refine gate_dst (N := 21) rfl ?_); refine Kd.R_lit (Kd.int .u8) _ 5 ?hg (N := 21) ?hd (xs := ([t112] : List Int)) (inner := [.int .u8 t112]) (ok := fun _ => True) (okp := fun _ => True) ?hr ?hp (fun _ hk => hk) trivial (Below.refl _ _) (Nat.le_refl _) (by simp) ?_; (case hd => rfl); (case hg => rfl); (case hr => first | (go_simp; done) | (go_simp; rfl)); (case hp => exact (Reps.one (show Kd.M (Kd.int .u8) _ _ _ t112 [.int .u8 t112] from rfl) (Reps.none _ _))); intro v117 w11 ho12 hb hg_ hnew_; clear hg_ hnew_; (first | rw [<- Ny116.out] at ho12 | (simp only [Int.reduceToNat] at ho12; rw [<- Ny116.out] at ho12)); have n0_ := Aside0.mk (Kd.R_below (rk_ HO_3.out) hb); have n1_ := Aside0.mk (Kd.R_lower ho12 (bw_ HB.out)); have n2_ := Aside0.mk (bs_ HB.out hb); clear HO_3; clear HB; have HO_3 := n0_; have HO118 := n1_; have HB := n2_; clear n0_ n1_ n2_; clear hb ho12; have hcv13 := own_string (P := Try.prog) Try.underlying53 Try.underlying5 Try.underlying9 (Kd.own_of_R HO118.out)))
       go_roundg k1
       case measure => have := HK1.out; omega
       case rel => exact ⟨(x3_1), (x4_1 ++ (strOfNums y116)), (wrap64 (x5_1 + 1)), (by first | rfl | (simp; done) | (simp [*]; done)), (by first | rfl | (simp; done) | (simp [*]; done)), H', ⟨by have := HK1.out; omega⟩, ⟨rk_ HO_3.out⟩, ⟨be_ HB.out⟩⟩
      ·rw [if_neg c10] at H
       exact absurd H (by simp)
    ·rw [if_neg c3] at H
     exact absurd H (by simp)
   ·rw [if_neg c2] at H
    have c2b0 : decide (x5_1 < (a0.size : Int)) = false := decide_eq_false c2
    clear c2
    by_cases c14 : x4_1.toList = ([] : List UInt8)
    ·rw [if_pos c14] at H
     have c14b0 : (x4_1.toList == ([] : List UInt8)) = true := beq_iff_eq.mpr c14
     have c14b1 : (x4_1.toList != ([] : List UInt8)) = false := bne_eq_false_iff_eq.mpr c14
     clear c14
     obtain rfl := Option.some.inj H
     go_wp2
     go_ret
     exact ⟨_, by first | rfl | (simp only [Go.Proofs.Ytcopakljdenolaa.Gen.nil_str, Go.Proofs.Ytcopakljdenolaa.Gen.gt_str]; first | done | rfl | (simp; done)) | (simp [errW_none, errW_some] <;> rfl) | (simp [*, errW_none, errW_some] <;> rfl), by (with_reducible repeat (first | apply Kd.R_alloc | apply Kd.R_drewN | apply Kd.R_drew)); exact HO_3.out, by repeat (first | (with_reducible first | exact HB.out | apply below_alloc | apply pw_below_drewN | apply below_drew1) | exact HB.out)⟩
    ·rw [if_neg c14] at H
     have c14b0 : (x4_1.toList == ([] : List UInt8)) = false := beq_eq_false_iff_ne.mpr c14
     have c14b1 : (x4_1.toList != ([] : List UInt8)) = true := bne_iff_ne.mpr c14
     by_cases c15 : x3_1.length < 8796093022208
     ·rw [if_pos c15] at H
      have LMc15 := Aside0.mk c15
      clear c15
      obtain ⟨y109, hy109⟩ : ∃ y_ : List ByteArray, y_ = (x3_1 ++ [x4_1]) := ⟨_, rfl⟩
      replace H : (some y109) = some r := by first | (rw [hy109]; with_reducible exact H) | (have H2_ := (Option.bind_some _ _).symm.trans H; rw [hy109]; with_reducible exact H2_) | (have H2_ := (Option.bind_some _ _).symm.trans H; with_reducible exact H2_) | with_reducible exact H | (rw [hy109]; exact H) | exact H
      have Ny109 := Aside0.mk hy109
      clear hy109
      obtain rfl := Option.some.inj H
      go_wp2_with (first | ((with_reducible refine gate_builtin (b := .append) (xs := #[.tmp 32, .tmp 34]) rfl ?_); at_builtin; refine Kd.R_append Kd.string (w0 := w) w.heap.size rfl (.tmp 32) (.tmp 34) 22 9 (.string ⟨#[]⟩) 16 rfl Try.underlying22 info9 rfl (by decide) (by omega) u3 x3_1 x4_1 [.string x4_1] (fun _ => True) (fun _ => False) rfl rfl ?aP (fun _ hk => hk.elim) ?aF ?aO ?aB ?aS ?aL ?_; (case aP => exact rfl); (case aB => exact (be_ HB.out)); (case aF => exact (fun _ _ => trivial)); (case aO => exact (rk_ HO_3.out)); (case aS => exact (bw_ HB.out)); (case aL => have := LMc15.out; omega); intro v110 w16 ho hb hg hat; rw [<- Ny109.out] at ho; have n0_ := Aside0.mk (hb); have n1_ := Aside0.mk (ho); clear HB; clear HO_3; have HB := n0_; have HO111 := n1_; clear n0_ n1_; clear ho hb hg hat))
      go_ret
      exact ⟨_, by first | rfl | (simp only [Go.Proofs.Ytcopakljdenolaa.Gen.nil_str, Go.Proofs.Ytcopakljdenolaa.Gen.gt_str]; first | done | rfl | (simp; done)) | (simp [errW_none, errW_some] <;> rfl) | (simp [*, errW_none, errW_some] <;> rfl), by (with_reducible repeat (first | apply Kd.R_alloc | apply Kd.R_drewN | apply Kd.R_drew)); exact HO111.out, by repeat (first | (with_reducible first | exact HB.out | apply below_alloc | apply pw_below_drewN | apply below_drew1) | exact HB.out)⟩
     ·rw [if_neg c15] at H
      exact absurd H (by simp)
def spec_l9Docs.l0 : Nat -> List ByteArray -> List ByteArray -> Int -> Int -> Option (Bool)
 | 0, _, _, _, _ => none
 | k + 1, x0, x5, x6, x7 => if x7 < x6 then (if 0 <= x7 then (if x7 < (x5.length : Int) then (if ((rdOf ByteArray.empty x5 x7).size : Int) > 120 then (some false) else ((spec_l9Words.f k (rdOf ByteArray.empty x5 x7)).bind fun t120 => (if (t120.length : Int) > 20 then (some false) else (spec_l9Docs.l0 k x0 x5 x6 (wrap64 (x7 + 1)))))) else (none)) else (none)) else (some (decide ((x0.length : Int) <= 12)))
def spec_l9Docs.f (k : Nat) (l0 : List ByteArray) : Option (Bool) := spec_l9Docs.l0 k l0 l0 (l0.length : Int) 0
theorem spec_l9Docs.mono_l : ∀ k, (∀ y0 y1 y2 y3, LeO (spec_l9Docs.l0 k y0 y1 y2 y3) (spec_l9Docs.l0 (k + 1) y0 y1 y2 y3))
 | 0 => fun _ _ _ _ r h => by simp [spec_l9Docs.l0] at h
 | k + 1 => by
  have ih0 := spec_l9Docs.mono_l k
  ·intro y0 y1 y2 y3
   unfold spec_l9Docs.l0
   repeat' (with_reducible first | exact ih0 _ _ _ _ | exact spec_l9Words.mono _ _ | exact LeO.refl _ | exact LeO.none _ | refine LeO.ite ?_ ?_ | refine LeO.bind ?_ (fun _ => ?_))
theorem spec_l9Docs.mono : ∀ a0 k, LeO (spec_l9Docs.f k a0) (spec_l9Docs.f (k + 1) a0) := by
 intro a0 k
 have ih0 := spec_l9Docs.mono_l k
 unfold spec_l9Docs.f
 repeat' (with_reducible first | exact ih0 _ _ _ _ | exact spec_l9Words.mono _ _ | exact LeO.refl _ | exact LeO.none _ | refine LeO.ite ?_ ?_ | refine LeO.bind ?_ (fun _ => ?_))
theorem spec_l9Docs.calls (k : Nat) (A0 : Option Addr) (c0 : Nat) (l0 : List ByteArray) (r : Bool) (w : World) (hr0 : Kd.C Kd.string w A0 l0.length l0) (hc0 : l0.length <= c0) (h : spec_l9Docs.f k l0 = some r) :
  Calls Try.prog 55 #[.slice A0 l0.length c0] w fun e w' => e = .returned (.bool r) /\ Below w.heap.size w w' := by
 have HR0 := Aside0.mk hr0
 have HC0 := Aside0.mk hc0
 clear hr0 hc0
 have HB := Aside0.mk (Below.refl w.heap.size w)
 have H : (spec_l9Docs.l0 k l0 l0 (l0.length : Int) 0) = some r := h
 clear h
 have H' := Aside0.mk H
 clear H
 go_enter Try.func55, Try.ntmps55
 go_wp2
 go_loopg [7] k (fun kq v7 w' => ∃ (x7_1 : Int), v7 = .int .i64 x7_1 /\ Aside0 (spec_l9Docs.l0 kq l0 l0 (l0.length : Int) x7_1 = some r) /\ Aside0 (kq <= k) /\ Aside0 (Below w.heap.size w w'))
 case atStart => exact ⟨(0), (by first | rfl | (simp; done) | (simp [*]; done)), H', ⟨Nat.le_refl _⟩, ⟨be_ HB.out⟩⟩
 case round =>
  clear H'
  obtain ⟨x7_1, rfl, HA, HK1, HB⟩ := hrel
  cases gk with
  | zero => exact absurd HA.out (by simp [spec_l9Docs.l0])
  | succ k1 =>
   have H := HA.out
   clear HA
   simp only [spec_l9Docs.l0] at H
   by_cases c2 : x7_1 < (l0.length : Int)
   ·rw [if_pos c2] at H
    have c2b0 : decide (x7_1 < (l0.length : Int)) = true := decide_eq_true c2
    clear c2
    by_cases c3 : 0 <= x7_1
    ·rw [if_pos c3] at H
     have c3b0 : decide (0 <= x7_1) = true := decide_eq_true c3
     clear c3
     by_cases c4 : x7_1 < (l0.length : Int)
     ·rw [if_pos c4] at H
      have c4b0 : decide (x7_1 < (l0.length : Int)) = true := decide_eq_true c4
      clear c4
      by_cases c5 : ((rdOf ByteArray.empty l0 x7_1).size : Int) > 120
      ·rw [if_pos c5] at H
       have c5b0 : decide (120 < ((rdOf ByteArray.empty l0 x7_1).size : Int)) = true := decide_eq_true c5
       have c5b1 : decide (120 < (rdOf ByteArray.empty l0 x7_1).size) = true := decide_eq_true (by omega)
       clear c5
       obtain rfl := Option.some.inj H
       have p119 : 0 <= (x7_1 : Int) := of_decide_eq_true as_
       have q119 : x7_1 < (l0.length : Int) := of_decide_eq_true as_
       obtain ⟨ad119, e119, hx119_0⟩ := Kd.at_string HR0.out x7_1 p119 q119
       cases e119
       replace hx119_0 := (HB.out.cell (World.block_lt_of_cell? w _ hx119_0)).trans hx119_0
       replace p119 := eq_true p119
       replace q119 := eq_true q119
       go_wp2
       go_ret
       exact ⟨ew_, by repeat (first | (with_reducible first | exact HB.out | apply below_alloc | apply pw_below_drewN | apply below_drew1) | exact HB.out)⟩
      ·rw [if_neg c5] at H
       have c5b0 : decide (120 < ((rdOf ByteArray.empty l0 x7_1).size : Int)) = false := decide_eq_false c5
       have c5b1 : decide (120 < (rdOf ByteArray.empty l0 x7_1).size) = false := decide_eq_false (by omega)
       clear c5
       replace H := Option.bind_eq_some_iff.mp H
       obtain ⟨t120, A60, H⟩ := H
       replace H : (if (t120.length : Int) > 20 then (some false) else (spec_l9Docs.l0 k1 l0 l0 (l0.length : Int) (wrap64 (x7_1 + 1)))) = some r := H
       have A6 := Aside0.mk A60
       clear A60
       by_cases c7 : (t120.length : Int) > 20
       ·rw [if_pos c7] at H
        have c7b0 : decide (20 < (t120.length : Int)) = true := decide_eq_true c7
        have c7b1 : decide (20 < t120.length) = true := decide_eq_true (by omega)
        clear c7
        obtain rfl := Option.some.inj H
        have p119 : 0 <= (x7_1 : Int) := of_decide_eq_true as_
        have q119 : x7_1 < (l0.length : Int) := of_decide_eq_true as_
        obtain ⟨ad119, e119, hx119_0⟩ := Kd.at_string HR0.out x7_1 p119 q119
        cases e119
        replace hx119_0 := (HB.out.cell (World.block_lt_of_cell? w _ hx119_0)).trans hx119_0
        replace p119 := eq_true p119
        replace q119 := eq_true q119
        go_wp2_with (first | (go_at_call 52; (with_reducible refine (spec_l9Words.calls k1 (rdOf ByteArray.empty l0 x7_1) t120 _ A6.out).mono ?_); rintro e w8 ⟨v121, rfl, ho0, hb⟩; have n0_ := Aside0.mk (Kd.R_lower ho0 (bw_ HB.out)); have n1_ := Aside0.mk (bs_ HB.out hb); clear HB; have HO122 := n0_; have HB := n1_; clear n0_ n1_; (try clear hb); (try clear hb2); (try clear hk); (try clear hi); (try clear ho0); obtain ⟨Ao9, co9, eo9⟩ := Kd.R_slice HO122.out; subst eo9))
        go_ret
        exact ⟨ew_, by repeat (first | (with_reducible first | exact HB.out | apply below_alloc | apply pw_below_drewN | apply below_drew1) | exact HB.out)⟩
       ·rw [if_neg c7] at H
        have c7b0 : decide (20 < (t120.length : Int)) = false := decide_eq_false c7
        have c7b1 : decide (20 < t120.length) = false := decide_eq_false (by omega)
        clear c7
        have H' := Aside0.mk H
        clear H
        have p119 : 0 <= (x7_1 : Int) := of_decide_eq_true as_
        have q119 : x7_1 < (l0.length : Int) := of_decide_eq_true as_
        obtain ⟨ad119, e119, hx119_0⟩ := Kd.at_string HR0.out x7_1 p119 q119
        cases e119
        replace hx119_0 := (HB.out.cell (World.block_lt_of_cell? w _ hx119_0)).trans hx119_0
        replace p119 := eq_true p119
        replace q119 := eq_true q119
        go_wp2_with (first | (go_at_call 52; (with_reducible refine (spec_l9Words.calls k1 (rdOf ByteArray.empty l0 x7_1) t120 _ A6.out).mono ?_); rintro e w10 ⟨v121, rfl, ho0, hb⟩; have n0_ := Aside0.mk (Kd.R_lower ho0 (bw_ HB.out)); have n1_ := Aside0.mk (bs_ HB.out hb); clear HB; have HO122 := n0_; have HB := n1_; clear n0_ n1_; (try clear hb); (try clear hb2); (try clear hk); (try clear hi); (try clear ho0); obtain ⟨Ao11, co11, eo11⟩ := Kd.R_slice HO122.out; subst eo11))
        go_roundg k1
        case measure => have := HK1.out; omega
        case rel => exact ⟨(wrap64 (x7_1 + 1)), (by first | rfl | (simp; done) | (simp [*]; done)), H', ⟨by have := HK1.out; omega⟩, ⟨be_ HB.out⟩⟩
     ·rw [if_neg c4] at H
      exact absurd H (by simp)
    ·rw [if_neg c3] at H
     exact absurd H (by simp)
   ·rw [if_neg c2] at H
    have c2b0 : decide (x7_1 < (l0.length : Int)) = false := decide_eq_false c2
    clear c2
    obtain rfl := Option.some.inj H
    go_wp2
    go_ret
    exact ⟨ew_, by repeat (first | (with_reducible first | exact HB.out | apply below_alloc | apply pw_below_drewN | apply below_drew1) | exact HB.out)⟩
def spec_l9Word.l0 : Nat -> ByteArray -> Int -> Option (Bool)
 | 0, _, _ => none
 | k + 1, x0, x3 => if x3 < (x0.size : Int) then (if 0 <= x3 then (if (bt x0 x3) < 97 then (some false) else (if (bt x0 x3) > 122 then (some false) else (spec_l9Word.l0 k x0 (wrap64 (x3 + 1))))) else (none)) else ((spec_l1In.f (x0.size : Int) 1 12).bind fun t123 => (some t123))
def spec_l9Word.f (k : Nat) (a0 : ByteArray) : Option (Bool) := spec_l9Word.l0 k a0 0
theorem spec_l9Word.mono_l : ∀ k, (∀ y0 y1, LeO (spec_l9Word.l0 k y0 y1) (spec_l9Word.l0 (k + 1) y0 y1))
 | 0 => fun _ _ r h => by simp [spec_l9Word.l0] at h
 | k + 1 => by
  have ih0 := spec_l9Word.mono_l k
  ·intro y0 y1
   unfold spec_l9Word.l0
   repeat' (with_reducible first | exact ih0 _ _ | exact LeO.refl _ | exact LeO.none _ | refine LeO.ite ?_ ?_ | refine LeO.bind ?_ (fun _ => ?_))
theorem spec_l9Word.mono : ∀ a0 k, LeO (spec_l9Word.f k a0) (spec_l9Word.f (k + 1) a0) := by
 intro a0 k
 have ih0 := spec_l9Word.mono_l k
 unfold spec_l9Word.f
 repeat' (with_reducible first | exact ih0 _ _ | exact LeO.refl _ | exact LeO.none _ | refine LeO.ite ?_ ?_ | refine LeO.bind ?_ (fun _ => ?_))
theorem spec_l9Word.calls (k : Nat) (a0 : ByteArray) (r : Bool) (w : World) (h : spec_l9Word.f k a0 = some r) :
  Calls Try.prog 56 #[.string a0] w fun e w' => e = .returned (.bool r) /\ Drawn0 w w' := by
 have H : (spec_l9Word.l0 k a0 0) = some r := h
 clear h
 have H' := Aside0.mk H
 clear H
 go_enter Try.func56, Try.ntmps56
 go_wp2
 go_loopg [3] k (fun kq v3 w' => ∃ (x3_1 : Int), v3 = .int .i64 x3_1 /\ Aside0 (spec_l9Word.l0 kq a0 x3_1 = some r) /\ Aside0 (kq <= k) /\ Drawn0 w w')
 case atStart => exact ⟨(0), (by first | rfl | (simp; done) | (simp [*]; done)), H', ⟨Nat.le_refl _⟩, by repeat (first | exact Drawn0.refl _ | apply Drawn0.step)⟩
 case round =>
  clear H'
  obtain ⟨x3_1, rfl, HA, HK1, ⟨m1, rfl⟩⟩ := hrel
  cases gk with
  | zero => exact absurd HA.out (by simp [spec_l9Word.l0])
  | succ k1 =>
   have H := HA.out
   clear HA
   simp only [spec_l9Word.l0] at H
   by_cases c2 : x3_1 < (a0.size : Int)
   ·rw [if_pos c2] at H
    have c2b0 : decide (x3_1 < (a0.size : Int)) = true := decide_eq_true c2
    clear c2
    by_cases c3 : 0 <= x3_1
    ·rw [if_pos c3] at H
     have c3b0 : decide (0 <= x3_1) = true := decide_eq_true c3
     clear c3
     by_cases c5 : (bt a0 x3_1) < 97
     ·rw [if_pos c5] at H
      have c5b0 : decide ((bt a0 x3_1) < 97) = true := decide_eq_true c5
      clear c5
      obtain rfl := Option.some.inj H
      have p4 : 0 <= (x3_1 : Int) := of_decide_eq_true as_
      have q4 : x3_1 < (a0.size : Int) := of_decide_eq_true as_
      have hx4 := bt_at a0 x3_1
      replace p4 := eq_true p4
      replace q4 := eq_true q4
      go_wp2
      go_ret
      exact ⟨by first | rfl | (simp; done) | (simp [*]; done), by repeat (first | exact Drawn0.refl _ | apply Drawn0.step)⟩
     ·rw [if_neg c5] at H
      have c5b0 : decide ((bt a0 x3_1) < 97) = false := decide_eq_false c5
      clear c5
      by_cases c7 : (bt a0 x3_1) > 122
      ·rw [if_pos c7] at H
       have c7b0 : decide (122 < (bt a0 x3_1)) = true := decide_eq_true c7
       clear c7
       obtain rfl := Option.some.inj H
       have p4 : 0 <= (x3_1 : Int) := of_decide_eq_true as_
       have q4 : x3_1 < (a0.size : Int) := of_decide_eq_true as_
       have hx4 := bt_at a0 x3_1
       replace p4 := eq_true p4
       replace q4 := eq_true q4
       have p6 : 0 <= (x3_1 : Int) := of_decide_eq_true as_
       have q6 : x3_1 < (a0.size : Int) := of_decide_eq_true as_
       have hx6 := bt_at a0 x3_1
       replace p6 := eq_true p6
       replace q6 := eq_true q6
       go_wp2
       go_ret
       exact ⟨by first | rfl | (simp; done) | (simp [*]; done), by repeat (first | exact Drawn0.refl _ | apply Drawn0.step)⟩
      ·rw [if_neg c7] at H
       have c7b0 : decide (122 < (bt a0 x3_1)) = false := decide_eq_false c7
       clear c7
       have H' := Aside0.mk H
       clear H
       have p4 : 0 <= (x3_1 : Int) := of_decide_eq_true as_
       have q4 : x3_1 < (a0.size : Int) := of_decide_eq_true as_
       have hx4 := bt_at a0 x3_1
       replace p4 := eq_true p4
       replace q4 := eq_true q4
       have p6 : 0 <= (x3_1 : Int) := of_decide_eq_true as_
       have q6 : x3_1 < (a0.size : Int) := of_decide_eq_true as_
       have hx6 := bt_at a0 x3_1
       replace p6 := eq_true p6
       replace q6 := eq_true q6
       go_wp2
       go_roundg k1
       case measure => have := HK1.out; omega
       case rel => exact ⟨(wrap64 (x3_1 + 1)), (by first | rfl | (simp; done) | (simp [*]; done)), H', ⟨by have := HK1.out; omega⟩, by repeat (first | exact Drawn0.refl _ | apply Drawn0.step)⟩
    ·rw [if_neg c3] at H
     exact absurd H (by simp)
   ·rw [if_neg c2] at H
    have c2b0 : decide (x3_1 < (a0.size : Int)) = false := decide_eq_false c2
    clear c2
    replace H := Option.bind_eq_some_iff.mp H
    obtain ⟨t123, A80, H⟩ := H
    replace H : (some t123) = some r := H
    have A8 := Aside0.mk A80
    clear A80
    obtain rfl := Option.some.inj H
    go_wp2_with (first | ((with_reducible refine gate_callee (f := 67) rfl ?_); refine goesL_ (some 22) rfl rfl Try.func67 (by kernel_rfl) rfl #[.int .i64 (a0.size : Int), .int .i64 1, .int .i64 12] rfl (ag_) ?_; (with_reducible refine (spec_l1In.calls (a0.size : Int) 1 12 t123 _ A8.out).mono ?_); rintro e w' ⟨rfl, ⟨nd, rfl⟩⟩; refine ⟨_, rfl, ?_⟩))
    go_ret
    exact ⟨by first | rfl | (simp; done) | (simp [*]; done), by repeat (first | exact Drawn0.refl _ | apply Drawn0.step)⟩
mutual
def spec_NearIn.j0 : Nat -> List ByteArray -> ByteArray -> ByteArray -> Int -> Bool -> Option (List Int × Bool)
 | 0, _, _, _, _, _ => none
 | k + 1, x0, x1, x2, x3, x36 => if x36 = true then (some (([] : List Int), false)) else (spec_NearIn.l0 k x1 x2 x3 ([] : List Int) x0 (x0.length : Int) 0)
def spec_NearIn.l0 : Nat -> ByteArray -> ByteArray -> Int -> List Int -> List ByteArray -> Int -> Int -> Option (List Int × Bool)
 | 0, _, _, _, _, _, _, _ => none
 | k + 1, x1, x2, x3, x10, x37, x38, x39 => if x39 < x38 then (if 0 <= x39 then (if x39 < (x37.length : Int) then ((spec_l9Words.f k (rdOf ByteArray.empty x37 x39)).bind fun t316 => (spec_NearIn.l1 k x1 x2 x3 x10 x39 t316 false x37 x38 x39 t316 (t316.length : Int) 0)) else (none)) else (none)) else (some (x10, true))
def spec_NearIn.l1 : Nat -> ByteArray -> ByteArray -> Int -> List Int -> Int -> List ByteArray -> Bool -> List ByteArray -> Int -> Int -> List ByteArray -> Int -> Int -> Option (List Int × Bool)
 | 0, _, _, _, _, _, _, _, _, _, _, _, _, _ => none
 | k + 1, x1, x2, x3, x10, x11, x13, x14, x37, x38, x39, x46, x47, x48 => if x48 < x47 then (if 0 <= x48 then (if x48 < (x46.length : Int) then (spec_NearIn.l2 k x1 x2 x3 x10 x11 x13 x14 x48 (rdOf ByteArray.empty x46 x48) x37 x38 x39 x46 x47 x48 x13 (x13.length : Int) 0) else (none)) else (none)) else (if x14 = true then (if x10.length < 17592186044416 then (spec_NearIn.l0 k x1 x2 x3 (x10 ++ [x11]) x37 x38 (wrap64 (x39 + 1))) else (none)) else (spec_NearIn.l0 k x1 x2 x3 x10 x37 x38 (wrap64 (x39 + 1))))
def spec_NearIn.l2 : Nat -> ByteArray -> ByteArray -> Int -> List Int -> Int -> List ByteArray -> Bool -> Int -> ByteArray -> List ByteArray -> Int -> Int -> List ByteArray -> Int -> Int -> List ByteArray -> Int -> Int -> Option (List Int × Bool)
 | 0, _, _, _, _, _, _, _, _, _, _, _, _, _, _, _, _, _, _ => none
 | k + 1, x1, x2, x3, x10, x11, x13, x14, x15, x16, x37, x38, x39, x46, x47, x48, x53, x54, x55 => if x55 < x54 then (if 0 <= x55 then (if x55 < (x53.length : Int) then (if x16.toList = x1.toList then (if (rdOf ByteArray.empty x53 x55).toList = x2.toList then (if x15 = x55 then (spec_NearIn.l2 k x1 x2 x3 x10 x11 x13 x14 x15 x16 x37 x38 x39 x46 x47 x48 x53 x54 (wrap64 (x55 + 1))) else (if (wrap64 (x15 - x55)) <= x3 then (if (wrap64 (x55 - x15)) <= x3 then (spec_NearIn.l2 k x1 x2 x3 x10 x11 x13 true x15 x16 x37 x38 x39 x46 x47 x48 x53 x54 (wrap64 (x55 + 1))) else (spec_NearIn.l2 k x1 x2 x3 x10 x11 x13 x14 x15 x16 x37 x38 x39 x46 x47 x48 x53 x54 (wrap64 (x55 + 1)))) else (spec_NearIn.l2 k x1 x2 x3 x10 x11 x13 x14 x15 x16 x37 x38 x39 x46 x47 x48 x53 x54 (wrap64 (x55 + 1))))) else (spec_NearIn.l2 k x1 x2 x3 x10 x11 x13 x14 x15 x16 x37 x38 x39 x46 x47 x48 x53 x54 (wrap64 (x55 + 1)))) else (spec_NearIn.l2 k x1 x2 x3 x10 x11 x13 x14 x15 x16 x37 x38 x39 x46 x47 x48 x53 x54 (wrap64 (x55 + 1)))) else (none)) else (none)) else (spec_NearIn.l1 k x1 x2 x3 x10 x11 x13 x14 x37 x38 x39 x46 x47 (wrap64 (x48 + 1)))
end
def spec_NearIn.f (k : Nat) (l0 : List ByteArray) (a1 : ByteArray) (a2 : ByteArray) (a3 : Int) : Option (List Int × Bool) := (spec_l9Docs.f k l0).bind fun t311 => (if t311 = true then ((spec_l9Word.f k a1).bind fun t312 => (if t312 = true then ((spec_l9Word.f k a2).bind fun t313 => (if t313 = true then ((spec_l1In.f a3 1 20).bind fun t314 => (spec_NearIn.j0 k l0 a1 a2 a3 (!t314))) else (spec_NearIn.j0 k l0 a1 a2 a3 true))) else (spec_NearIn.j0 k l0 a1 a2 a3 true))) else (spec_NearIn.j0 k l0 a1 a2 a3 true))
theorem spec_NearIn.mono_l : ∀ k, (∀ y0 y1 y2 y3 y4, LeO (spec_NearIn.j0 k y0 y1 y2 y3 y4) (spec_NearIn.j0 (k + 1) y0 y1 y2 y3 y4)) /\ (∀ y0 y1 y2 y3 y4 y5 y6, LeO (spec_NearIn.l0 k y0 y1 y2 y3 y4 y5 y6) (spec_NearIn.l0 (k + 1) y0 y1 y2 y3 y4 y5 y6)) /\ (∀ y0 y1 y2 y3 y4 y5 y6 y7 y8 y9 y10 y11 y12, LeO (spec_NearIn.l1 k y0 y1 y2 y3 y4 y5 y6 y7 y8 y9 y10 y11 y12) (spec_NearIn.l1 (k + 1) y0 y1 y2 y3 y4 y5 y6 y7 y8 y9 y10 y11 y12)) /\ (∀ y0 y1 y2 y3 y4 y5 y6 y7 y8 y9 y10 y11 y12 y13 y14 y15 y16 y17, LeO (spec_NearIn.l2 k y0 y1 y2 y3 y4 y5 y6 y7 y8 y9 y10 y11 y12 y13 y14 y15 y16 y17) (spec_NearIn.l2 (k + 1) y0 y1 y2 y3 y4 y5 y6 y7 y8 y9 y10 y11 y12 y13 y14 y15 y16 y17))
 | 0 => ⟨fun _ _ _ _ _ r h => by simp [spec_NearIn.j0] at h, fun _ _ _ _ _ _ _ r h => by simp [spec_NearIn.l0] at h, fun _ _ _ _ _ _ _ _ _ _ _ _ _ r h => by simp [spec_NearIn.l1] at h, fun _ _ _ _ _ _ _ _ _ _ _ _ _ _ _ _ _ _ r h => by simp [spec_NearIn.l2] at h⟩
 | k + 1 => by
  obtain ⟨ih0, ih1, ih2, ih3⟩ := spec_NearIn.mono_l k
  refine ⟨?_, ?_, ?_, ?_⟩
  ·intro y0 y1 y2 y3 y4
   unfold spec_NearIn.j0
   repeat' (with_reducible first | exact ih0 _ _ _ _ _ | exact ih1 _ _ _ _ _ _ _ | exact ih2 _ _ _ _ _ _ _ _ _ _ _ _ _ | exact ih3 _ _ _ _ _ _ _ _ _ _ _ _ _ _ _ _ _ _ | exact spec_l9Docs.mono _ _ | exact spec_l9Word.mono _ _ | exact spec_l9Words.mono _ _ | exact LeO.refl _ | exact LeO.none _ | refine LeO.ite ?_ ?_ | refine LeO.bind ?_ (fun _ => ?_))
  ·intro y0 y1 y2 y3 y4 y5 y6
   unfold spec_NearIn.l0
   repeat' (with_reducible first | exact ih0 _ _ _ _ _ | exact ih1 _ _ _ _ _ _ _ | exact ih2 _ _ _ _ _ _ _ _ _ _ _ _ _ | exact ih3 _ _ _ _ _ _ _ _ _ _ _ _ _ _ _ _ _ _ | exact spec_l9Docs.mono _ _ | exact spec_l9Word.mono _ _ | exact spec_l9Words.mono _ _ | exact LeO.refl _ | exact LeO.none _ | refine LeO.ite ?_ ?_ | refine LeO.bind ?_ (fun _ => ?_))
  ·intro y0 y1 y2 y3 y4 y5 y6 y7 y8 y9 y10 y11 y12
   unfold spec_NearIn.l1
   repeat' (with_reducible first | exact ih0 _ _ _ _ _ | exact ih1 _ _ _ _ _ _ _ | exact ih2 _ _ _ _ _ _ _ _ _ _ _ _ _ | exact ih3 _ _ _ _ _ _ _ _ _ _ _ _ _ _ _ _ _ _ | exact spec_l9Docs.mono _ _ | exact spec_l9Word.mono _ _ | exact spec_l9Words.mono _ _ | exact LeO.refl _ | exact LeO.none _ | refine LeO.ite ?_ ?_ | refine LeO.bind ?_ (fun _ => ?_))
  ·intro y0 y1 y2 y3 y4 y5 y6 y7 y8 y9 y10 y11 y12 y13 y14 y15 y16 y17
   unfold spec_NearIn.l2
   repeat' (with_reducible first | exact ih0 _ _ _ _ _ | exact ih1 _ _ _ _ _ _ _ | exact ih2 _ _ _ _ _ _ _ _ _ _ _ _ _ | exact ih3 _ _ _ _ _ _ _ _ _ _ _ _ _ _ _ _ _ _ | exact spec_l9Docs.mono _ _ | exact spec_l9Word.mono _ _ | exact spec_l9Words.mono _ _ | exact LeO.refl _ | exact LeO.none _ | refine LeO.ite ?_ ?_ | refine LeO.bind ?_ (fun _ => ?_))
theorem spec_NearIn.mono : ∀ a0 a1 a2 a3 k, LeO (spec_NearIn.f k a0 a1 a2 a3) (spec_NearIn.f (k + 1) a0 a1 a2 a3) := by
 intro a0 a1 a2 a3 k
 obtain ⟨ih0, ih1, ih2, ih3⟩ := spec_NearIn.mono_l k
 unfold spec_NearIn.f
 repeat' (with_reducible first | exact ih0 _ _ _ _ _ | exact ih1 _ _ _ _ _ _ _ | exact ih2 _ _ _ _ _ _ _ _ _ _ _ _ _ | exact ih3 _ _ _ _ _ _ _ _ _ _ _ _ _ _ _ _ _ _ | exact spec_l9Docs.mono _ _ | exact spec_l9Word.mono _ _ | exact spec_l9Words.mono _ _ | exact LeO.refl _ | exact LeO.none _ | refine LeO.ite ?_ ?_ | refine LeO.bind ?_ (fun _ => ?_))
theorem spec_NearIn.calls (k : Nat) (A0 : Option Addr) (c0 : Nat) (l0 : List ByteArray) (a1 : ByteArray) (a2 : ByteArray) (a3 : Int) (r1 : List Int) (r2 : Bool) (w : World) (hr0 : Kd.C Kd.string w A0 l0.length l0) (hc0 : l0.length <= c0) (h : spec_NearIn.f k l0 a1 a2 a3 = some (r1, r2)) :
  Calls Try.prog 37 #[.slice A0 l0.length c0, .string a1, .string a2, .int .i64 a3] w fun e w' => ∃ v0_ : Value, e = .returned (.tuple #[v0_, .bool r2]) /\ Kd.R (Kd.int .i64) 3 w' w.heap.size (fun _ => True) v0_ r1 /\ Below w.heap.size w w' := by
 have HR0 := Aside0.mk hr0
 have HC0 := Aside0.mk hc0
 clear hr0 hc0
 have HB := Aside0.mk (Below.refl w.heap.size w)
 have H : ((spec_l9Docs.f k l0).bind fun t311 => (if t311 = true then ((spec_l9Word.f k a1).bind fun t312 => (if t312 = true then ((spec_l9Word.f k a2).bind fun t313 => (if t313 = true then ((spec_l1In.f a3 1 20).bind fun t314 => (spec_NearIn.j0 k l0 a1 a2 a3 (!t314))) else (spec_NearIn.j0 k l0 a1 a2 a3 true))) else (spec_NearIn.j0 k l0 a1 a2 a3 true))) else (spec_NearIn.j0 k l0 a1 a2 a3 true))) = some (r1, r2) := h
 clear h
 have HC5 := Aside0.mk H
 clear H
 go_enter Try.func37, Try.ntmps37
 go_upto_region 1 with (fail)
 go_cut [36] (fun v36 wc => ∃ (kq : Nat) (x36_4 : Bool), v36 = .bool x36_4 /\ Aside0 (spec_NearIn.j0 kq l0 a1 a2 a3 x36_4 = some (r1, r2)) /\ Aside0 (kq <= k) /\ Aside0 (Below w.heap.size w wc))
 case first =>
  have H := HC5.out
  clear HC5
  replace H := Option.bind_eq_some_iff.mp H
  obtain ⟨t311, A60, H⟩ := H
  replace H : (if t311 = true then ((spec_l9Word.f k a1).bind fun t312 => (if t312 = true then ((spec_l9Word.f k a2).bind fun t313 => (if t313 = true then ((spec_l1In.f a3 1 20).bind fun t314 => (spec_NearIn.j0 k l0 a1 a2 a3 (!t314))) else (spec_NearIn.j0 k l0 a1 a2 a3 true))) else (spec_NearIn.j0 k l0 a1 a2 a3 true))) else (spec_NearIn.j0 k l0 a1 a2 a3 true)) = some (r1, r2) := H
  have A6 := Aside0.mk A60
  clear A60
  by_cases c7 : t311 = true
  ·subst c7
   have H1 : ((spec_l9Word.f k a1).bind fun t312 => (if t312 = true then ((spec_l9Word.f k a2).bind fun t313 => (if t313 = true then ((spec_l1In.f a3 1 20).bind fun t314 => (spec_NearIn.j0 k l0 a1 a2 a3 (!t314))) else (spec_NearIn.j0 k l0 a1 a2 a3 true))) else (spec_NearIn.j0 k l0 a1 a2 a3 true))) = some (r1, r2) := by rw [if_pos rfl] at H; exact H
   clear H
   have H := H1
   clear H1
   replace H := Option.bind_eq_some_iff.mp H
   obtain ⟨t312, A80, H⟩ := H
   replace H : (if t312 = true then ((spec_l9Word.f k a2).bind fun t313 => (if t313 = true then ((spec_l1In.f a3 1 20).bind fun t314 => (spec_NearIn.j0 k l0 a1 a2 a3 (!t314))) else (spec_NearIn.j0 k l0 a1 a2 a3 true))) else (spec_NearIn.j0 k l0 a1 a2 a3 true)) = some (r1, r2) := H
   have A8 := Aside0.mk A80
   clear A80
   by_cases c9 : t312 = true
   ·subst c9
    have H1 : ((spec_l9Word.f k a2).bind fun t313 => (if t313 = true then ((spec_l1In.f a3 1 20).bind fun t314 => (spec_NearIn.j0 k l0 a1 a2 a3 (!t314))) else (spec_NearIn.j0 k l0 a1 a2 a3 true))) = some (r1, r2) := by rw [if_pos rfl] at H; exact H
    clear H
    have H := H1
    clear H1
    replace H := Option.bind_eq_some_iff.mp H
    obtain ⟨t313, A100, H⟩ := H
    replace H : (if t313 = true then ((spec_l1In.f a3 1 20).bind fun t314 => (spec_NearIn.j0 k l0 a1 a2 a3 (!t314))) else (spec_NearIn.j0 k l0 a1 a2 a3 true)) = some (r1, r2) := H
    have A10 := Aside0.mk A100
    clear A100
    by_cases c11 : t313 = true
    ·subst c11
     have H1 : ((spec_l1In.f a3 1 20).bind fun t314 => (spec_NearIn.j0 k l0 a1 a2 a3 (!t314))) = some (r1, r2) := by rw [if_pos rfl] at H; exact H
     clear H
     have H := H1
     clear H1
     replace H := Option.bind_eq_some_iff.mp H
     obtain ⟨t314, A120, H⟩ := H
     replace H : (spec_NearIn.j0 k l0 a1 a2 a3 (!t314)) = some (r1, r2) := H
     have A12 := Aside0.mk A120
     clear A120
     have H' := Aside0.mk H
     clear H
     go_wp2_with (first | ((with_reducible refine gate_callee (f := 55) rfl ?_); refine goesL_ (some 20) rfl rfl Try.func55 (by kernel_rfl) rfl #[.slice A0 l0.length c0] rfl (ag_) ?_; (with_reducible refine (spec_l9Docs.calls k _ _ l0 true _ ?side1 ?side2 A6.out).mono ?_); (case side1 => refine cd_ ?_; exact (Kd.C_below HR0.out HB.out)); (case side2 => exact HC0.out); rintro e w13 ⟨rfl, hb⟩; refine ⟨_, rfl, ?_⟩; have n0_ := Aside0.mk (bs_ HB.out hb); clear HB; have HB := n0_; clear n0_; (try clear hb); (try clear hb2); (try clear hk); (try clear hi)) | (go_at_call 56; (with_reducible refine (spec_l9Word.calls k a1 true _ A8.out).mono ?_); rintro e w' ⟨rfl, ⟨nd, rfl⟩⟩) | (go_at_call 56; (with_reducible refine (spec_l9Word.calls k a2 true _ A10.out).mono ?_); rintro e w' ⟨rfl, ⟨nd, rfl⟩⟩) | (go_at_call 67; (with_reducible refine (spec_l1In.calls a3 1 20 t314 _ A12.out).mono ?_); rintro e w' ⟨rfl, ⟨nd, rfl⟩⟩))
     go_meet
     case rel => exact ⟨_, (!t314), (by first | rfl | (simp; done) | (simp [*]; done)), H', ⟨by first | omega | exact Nat.le_refl _⟩, ⟨be_ HB.out⟩⟩
    ·replace c11 := Bool.eq_false_iff.mpr c11
     subst c11
     have H1 : (spec_NearIn.j0 k l0 a1 a2 a3 true) = some (r1, r2) := by rw [if_neg (show ¬ (false = true) by decide)] at H; exact H
     clear H
     have H := H1
     clear H1
     have H' := Aside0.mk H
     clear H
     go_wp2_with (first | ((with_reducible refine gate_callee (f := 55) rfl ?_); refine goesL_ (some 20) rfl rfl Try.func55 (by kernel_rfl) rfl #[.slice A0 l0.length c0] rfl (ag_) ?_; (with_reducible refine (spec_l9Docs.calls k _ _ l0 true _ ?side1 ?side2 A6.out).mono ?_); (case side1 => refine cd_ ?_; exact (Kd.C_below HR0.out HB.out)); (case side2 => exact HC0.out); rintro e w14 ⟨rfl, hb⟩; refine ⟨_, rfl, ?_⟩; have n0_ := Aside0.mk (bs_ HB.out hb); clear HB; have HB := n0_; clear n0_; (try clear hb); (try clear hb2); (try clear hk); (try clear hi)) | (go_at_call 56; (with_reducible refine (spec_l9Word.calls k a1 true _ A8.out).mono ?_); rintro e w' ⟨rfl, ⟨nd, rfl⟩⟩) | (go_at_call 56; (with_reducible refine (spec_l9Word.calls k a2 false _ A10.out).mono ?_); rintro e w' ⟨rfl, ⟨nd, rfl⟩⟩))
     go_meet
     case rel => exact ⟨_, (true), (by first | rfl | (simp; done) | (simp [*]; done)), H', ⟨by first | omega | exact Nat.le_refl _⟩, ⟨be_ HB.out⟩⟩
   ·replace c9 := Bool.eq_false_iff.mpr c9
    subst c9
    have H1 : (spec_NearIn.j0 k l0 a1 a2 a3 true) = some (r1, r2) := by rw [if_neg (show ¬ (false = true) by decide)] at H; exact H
    clear H
    have H := H1
    clear H1
    have H' := Aside0.mk H
    clear H
    go_wp2_with (first | ((with_reducible refine gate_callee (f := 55) rfl ?_); refine goesL_ (some 20) rfl rfl Try.func55 (by kernel_rfl) rfl #[.slice A0 l0.length c0] rfl (ag_) ?_; (with_reducible refine (spec_l9Docs.calls k _ _ l0 true _ ?side1 ?side2 A6.out).mono ?_); (case side1 => refine cd_ ?_; exact (Kd.C_below HR0.out HB.out)); (case side2 => exact HC0.out); rintro e w15 ⟨rfl, hb⟩; refine ⟨_, rfl, ?_⟩; have n0_ := Aside0.mk (bs_ HB.out hb); clear HB; have HB := n0_; clear n0_; (try clear hb); (try clear hb2); (try clear hk); (try clear hi)) | (go_at_call 56; (with_reducible refine (spec_l9Word.calls k a1 false _ A8.out).mono ?_); rintro e w' ⟨rfl, ⟨nd, rfl⟩⟩))
    go_meet
    case rel => exact ⟨_, (true), (by first | rfl | (simp; done) | (simp [*]; done)), H', ⟨by first | omega | exact Nat.le_refl _⟩, ⟨be_ HB.out⟩⟩
  ·replace c7 := Bool.eq_false_iff.mpr c7
   subst c7
   have H1 : (spec_NearIn.j0 k l0 a1 a2 a3 true) = some (r1, r2) := by rw [if_neg (show ¬ (false = true) by decide)] at H; exact H
   clear H
   have H := H1
   clear H1
   have H' := Aside0.mk H
   clear H
   go_wp2_with (first | ((with_reducible refine gate_callee (f := 55) rfl ?_); refine goesL_ (some 20) rfl rfl Try.func55 (by kernel_rfl) rfl #[.slice A0 l0.length c0] rfl (ag_) ?_; (with_reducible refine (spec_l9Docs.calls k _ _ l0 false _ ?side1 ?side2 A6.out).mono ?_); (case side1 => refine cd_ ?_; exact (Kd.C_below HR0.out HB.out)); (case side2 => exact HC0.out); rintro e w16 ⟨rfl, hb⟩; refine ⟨_, rfl, ?_⟩; have n0_ := Aside0.mk (bs_ HB.out hb); clear HB; have HB := n0_; clear n0_; (try clear hb); (try clear hb2); (try clear hk); (try clear hi)))
   go_meet
   case rel => exact ⟨_, (true), (by first | rfl | (simp; done) | (simp [*]; done)), H', ⟨by first | omega | exact Nat.le_refl _⟩, ⟨be_ HB.out⟩⟩
 case rest =>
  clear HC5
  (try clear c1); (try clear p2); (try clear c3); (try clear c5); (try clear c7); (try clear c9); (try clear c11)
  obtain ⟨kq, x36_4, rfl, HA, HJ4, HB⟩ := hcut
  cases kq with
  | zero => exact absurd HA.out (by simp [spec_NearIn.j0])
  | succ kj4 =>
   have H := HA.out
   clear HA
   simp only [spec_NearIn.j0] at H
   by_cases c17 : x36_4 = true
   ·subst c17
    have H1 : (some (([] : List Int), false)) = some (r1, r2) := by rw [if_pos rfl] at H; exact H
    clear H
    have H := H1
    clear H1
    simp only [Option.some.injEq, Prod.mk.injEq] at H
    obtain ⟨rfl, rfl⟩ := H
    go_wp2
    go_ret2
    exact ⟨_, ew_, by first | exact Kd.R_nil _ _ _ _ _ | exact Kd.N_nil _ _ _ _ _ | exact Kd.V_nil _ _ _ _ _ | exact Kd.Q_nil _ _ _ _ _ | exact Kd.S_nil _ _ _ _ _, by repeat (first | (with_reducible first | exact HB.out | apply below_alloc | apply pw_below_drewN | apply below_drew1) | exact HB.out)⟩
   ·replace c17 := Bool.eq_false_iff.mpr c17
    subst c17
    have H1 : (spec_NearIn.l0 kj4 a1 a2 a3 ([] : List Int) l0 (l0.length : Int) 0) = some (r1, r2) := by rw [if_neg (show ¬ (false = true) by decide)] at H; exact H
    clear H
    have H := H1
    clear H1
    have H' := Aside0.mk H
    clear H
    go_wp2
    go_loopg [10, 39] kj4 (fun kq v10 v39 w' => ∃ (x10_2 : List Int) (x39_2 : Int), v39 = .int .i64 x39_2 /\ Aside0 (spec_NearIn.l0 kq a1 a2 a3 x10_2 l0 (l0.length : Int) x39_2 = some (r1, r2)) /\ Aside0 (kq <= kj4) /\ Aside0 (Kd.R (Kd.int .i64) 3 w' w.heap.size (fun _ => True) v10 x10_2) /\ Aside0 (Below w.heap.size w w'))
    case atStart => exact ⟨(([] : List Int)), (0), (by first | rfl | (simp; done) | (simp [*]; done)), H', ⟨Nat.le_refl _⟩, ⟨by first | exact Kd.R_nil _ _ _ _ _ | exact Kd.N_nil _ _ _ _ _ | exact Kd.V_nil _ _ _ _ _ | exact Kd.Q_nil _ _ _ _ _ | exact Kd.S_nil _ _ _ _ _⟩, ⟨be_ HB.out⟩⟩
    case round =>
     clear H'
     (try clear c1); (try clear p2); (try clear c3); (try clear c5); (try clear c7); (try clear c9); (try clear c11); (try clear c17); (try clear p2)
     obtain ⟨x10_2, x39_2, rfl, HA, HK2, HO_10, HB⟩ := hrel
     cases gk with
     | zero => exact absurd HA.out (by simp [spec_NearIn.l0])
     | succ k2 =>
      have H := HA.out
      clear HA
      simp only [spec_NearIn.l0] at H
      by_cases c18 : x39_2 < (l0.length : Int)
      ·rw [if_pos c18] at H
       have c18b0 : decide (x39_2 < (l0.length : Int)) = true := decide_eq_true c18
       clear c18
       by_cases c19 : 0 <= x39_2
       ·rw [if_pos c19] at H
        have c19b0 : decide (0 <= x39_2) = true := decide_eq_true c19
        clear c19
        by_cases c20 : x39_2 < (l0.length : Int)
        ·rw [if_pos c20] at H
         have c20b0 : decide (x39_2 < (l0.length : Int)) = true := decide_eq_true c20
         clear c20
         replace H := Option.bind_eq_some_iff.mp H
         obtain ⟨t316, A210, H⟩ := H
         replace H : (spec_NearIn.l1 k2 a1 a2 a3 x10_2 x39_2 t316 false l0 (l0.length : Int) x39_2 t316 (t316.length : Int) 0) = some (r1, r2) := H
         have A21 := Aside0.mk A210
         clear A210
         have H' := Aside0.mk H
         clear H
         have p315 : 0 <= (x39_2 : Int) := of_decide_eq_true as_
         have q315 : x39_2 < (l0.length : Int) := of_decide_eq_true as_
         obtain ⟨ad315, e315, hx315_0⟩ := Kd.at_string HR0.out x39_2 p315 q315
         cases e315
         replace hx315_0 := (HB.out.cell (World.block_lt_of_cell? w _ hx315_0)).trans hx315_0
         replace p315 := eq_true p315
         replace q315 := eq_true q315
         go_wp2_with (first | ((with_reducible refine gate_callee (f := 52) rfl ?_); refine goesL_ (some 45) rfl rfl Try.func52 (by kernel_rfl) rfl #[.string (rdOf ByteArray.empty l0 x39_2)] rfl (ag_) ?_; (with_reducible refine (spec_l9Words.calls k2 (rdOf ByteArray.empty l0 x39_2) t316 _ A21.out).mono ?_); rintro e w22 ⟨v317, rfl, ho0, hb⟩; refine ⟨_, rfl, ?_⟩; have n0_ := Aside0.mk (Kd.R_below (rk_ HO_10.out) hb); have n1_ := Aside0.mk (Kd.R_lower ho0 (bw_ HB.out)); have n2_ := Aside0.mk (bs_ HB.out hb); clear HO_10; clear HB; have HO_10 := n0_; have HO318 := n1_; have HB := n2_; clear n0_ n1_ n2_; (try clear hb); (try clear hb2); (try clear hk); (try clear hi); (try clear ho0); obtain ⟨Ao23, co23, eo23⟩ := Kd.R_slice HO318.out; subst eo23))
         go_loopg [14, 48] k2 (fun kq v14 v48 w' => ∃ (x14_3 : Bool) (x48_3 : Int), v14 = .bool x14_3 /\ v48 = .int .i64 x48_3 /\ Aside0 (spec_NearIn.l1 kq a1 a2 a3 x10_2 x39_2 t316 x14_3 l0 (l0.length : Int) x39_2 t316 (t316.length : Int) x48_3 = some (r1, r2)) /\ Aside0 (kq <= k2) /\ Aside0 (Kd.R (Kd.int .i64) 3 w' w.heap.size (fun _ => True) u10 x10_2) /\ Aside0 (Kd.R Kd.string 9 w' w.heap.size (fun _ => True) (.slice Ao23 t316.length co23) t316) /\ Aside0 (Kd.R Kd.string 9 w' w.heap.size (fun _ => True) (.slice Ao23 t316.length co23) t316) /\ Aside0 (Below w.heap.size w w'))
         case atStart => exact ⟨(false), (0), (by first | rfl | (simp; done) | (simp [*]; done)), (by first | rfl | (simp; done) | (simp [*]; done)), H', ⟨Nat.le_refl _⟩, ⟨rk_ HO_10.out⟩, ⟨rk_ HO318.out⟩, ⟨rk_ HO318.out⟩, ⟨be_ HB.out⟩⟩
         case round =>
          clear H'
          (try clear c1); (try clear c2); (try clear p2); (try clear c3); (try clear p3); (try clear q3); (try clear hx3); (try clear c5); (try clear c7); (try clear c9); (try clear c11); (try clear c17); (try clear c18); (try clear c18b0); (try clear c19); (try clear c19b0); (try clear c20); (try clear c20b0); (try clear hx315_0); (try clear p2); (try clear p315); (try clear q315)
          obtain ⟨x14_3, x48_3, rfl, rfl, HA, HK3, HO_10, HO_13, HO_46, HB⟩ := hrel
          cases gk with
          | zero => exact absurd HA.out (by simp [spec_NearIn.l1])
          | succ k3 =>
           have H := HA.out
           clear HA
           simp only [spec_NearIn.l1] at H
           by_cases c24 : x48_3 < (t316.length : Int)
           ·rw [if_pos c24] at H
            have c24b0 : decide (x48_3 < (t316.length : Int)) = true := decide_eq_true c24
            clear c24
            by_cases c25 : 0 <= x48_3
            ·rw [if_pos c25] at H
             have c25b0 : decide (0 <= x48_3) = true := decide_eq_true c25
             clear c25
             by_cases c26 : x48_3 < (t316.length : Int)
             ·rw [if_pos c26] at H
              have c26b0 : decide (x48_3 < (t316.length : Int)) = true := decide_eq_true c26
              clear c26
              have H' := Aside0.mk H
              clear H
              have p322 : 0 <= (x48_3 : Int) := of_decide_eq_true as_
              have q322 : x48_3 < (t316.length : Int) := of_decide_eq_true as_
              obtain ⟨ad322, e322, hx322_0⟩ := Kd.at_string (Kd.R_reads' HO_46.out).2.2 x48_3 p322 q322
              cases e322
              replace p322 := eq_true p322
              replace q322 := eq_true q322
              go_wp2
              go_loopg [14, 55] k3 (fun kq v14 v55 w' => ∃ (x14_4 : Bool) (x55_4 : Int), v14 = .bool x14_4 /\ v55 = .int .i64 x55_4 /\ Aside0 (spec_NearIn.l2 kq a1 a2 a3 x10_2 x39_2 t316 x14_4 x48_3 (rdOf ByteArray.empty t316 x48_3) l0 (l0.length : Int) x39_2 t316 (t316.length : Int) x48_3 t316 (t316.length : Int) x55_4 = some (r1, r2)) /\ Aside0 (kq <= k3) /\ Aside0 (Kd.R (Kd.int .i64) 3 w' w.heap.size (fun _ => True) u10 x10_2) /\ Aside0 (Kd.R Kd.string 9 w' w.heap.size (fun _ => True) (.slice (some ad322) t316.length co23) t316) /\ Aside0 (Kd.R Kd.string 9 w' w.heap.size (fun _ => True) (.slice (some ad322) t316.length co23) t316) /\ Aside0 (Kd.R Kd.string 9 w' w.heap.size (fun _ => True) (.slice (some ad322) t316.length co23) t316) /\ Aside0 (Below w.heap.size w w'))
              case atStart => exact ⟨(x14_3), (0), (by first | rfl | (simp; done) | (simp [*]; done)), (by first | rfl | (simp; done) | (simp [*]; done)), H', ⟨Nat.le_refl _⟩, ⟨rk_ HO_10.out⟩, ⟨rk_ HO_13.out⟩, ⟨rk_ HO_46.out⟩, ⟨rk_ HO_13.out⟩, ⟨be_ HB.out⟩⟩
              case round =>
               clear H'
               (try clear c1); (try clear c2); (try clear p2); (try clear c3); (try clear p3); (try clear q3); (try clear hx3); (try clear c5); (try clear c7); (try clear c9); (try clear c11); (try clear c17); (try clear c18); (try clear c18b0); (try clear c19); (try clear c19b0); (try clear c20); (try clear c20b0); (try clear c24); (try clear c24b0); (try clear c25); (try clear c25b0); (try clear c26); (try clear c26b0); (try clear hx315_0); (try clear hx322_0); (try clear p2); (try clear p3); (try clear p315); (try clear p322); (try clear q3); (try clear q315); (try clear q322)
               obtain ⟨x14_4, x55_4, rfl, rfl, HA, HK4, HO_10, HO_13, HO_46, HO_53, HB⟩ := hrel
               cases gk with
               | zero => exact absurd HA.out (by simp [spec_NearIn.l2])
               | succ k4 =>
                have H := HA.out
                clear HA
                simp only [spec_NearIn.l2] at H
                by_cases c27 : x55_4 < (t316.length : Int)
                ·rw [if_pos c27] at H
                 have c27b0 : decide (x55_4 < (t316.length : Int)) = true := decide_eq_true c27
                 clear c27
                 by_cases c28 : 0 <= x55_4
                 ·rw [if_pos c28] at H
                  have c28b0 : decide (0 <= x55_4) = true := decide_eq_true c28
                  clear c28
                  by_cases c29 : x55_4 < (t316.length : Int)
                  ·rw [if_pos c29] at H
                   have c29b0 : decide (x55_4 < (t316.length : Int)) = true := decide_eq_true c29
                   clear c29
                   by_cases c30 : (rdOf ByteArray.empty t316 x48_3).toList = a1.toList
                   ·rw [if_pos c30] at H
                    have c30b0 : ((rdOf ByteArray.empty t316 x48_3).toList == a1.toList) = true := beq_iff_eq.mpr c30
                    have c30b1 : ((rdOf ByteArray.empty t316 x48_3).toList != a1.toList) = false := bne_eq_false_iff_eq.mpr c30
                    clear c30
                    by_cases c31 : (rdOf ByteArray.empty t316 x55_4).toList = a2.toList
                    ·rw [if_pos c31] at H
                     have c31b0 : ((rdOf ByteArray.empty t316 x55_4).toList == a2.toList) = true := beq_iff_eq.mpr c31
                     have c31b1 : ((rdOf ByteArray.empty t316 x55_4).toList != a2.toList) = false := bne_eq_false_iff_eq.mpr c31
                     clear c31
                     by_cases c32 : x48_3 = x55_4
                     ·rw [if_pos c32] at H
                      have c32b0 : (x48_3 == x55_4) = true := beq_iff_eq.mpr c32
                      have c32b1 : (x48_3 != x55_4) = false := bne_eq_false_iff_eq.mpr c32
                      clear c32
                      have H' := Aside0.mk H
                      clear H
                      have p323 : 0 <= (x55_4 : Int) := of_decide_eq_true as_
                      have q323 : x55_4 < (t316.length : Int) := of_decide_eq_true as_
                      obtain ⟨ad323, e323, hx323_0⟩ := Kd.at_string (Kd.R_reads' HO_53.out).2.2 x55_4 p323 q323
                      obtain rfl : ad322 = ad323 := (by injection e323)
                      replace p323 := eq_true p323
                      replace q323 := eq_true q323
                      go_wp2
                      go_roundg k4
                      case measure => have := HJ4.out; have := HK2.out; have := HK3.out; have := HK4.out; omega
                      case rel => exact ⟨(x14_4), (wrap64 (x55_4 + 1)), (by first | rfl | (simp; done) | (simp [*]; done)), (by first | rfl | (simp; done) | (simp [*]; done)), H', ⟨by have := HJ4.out; have := HK2.out; have := HK3.out; have := HK4.out; omega⟩, ⟨rk_ HO_10.out⟩, ⟨rk_ HO_13.out⟩, ⟨rk_ HO_46.out⟩, ⟨rk_ HO_53.out⟩, ⟨be_ HB.out⟩⟩
                     ·rw [if_neg c32] at H
                      have c32b0 : (x48_3 == x55_4) = false := beq_eq_false_iff_ne.mpr c32
                      have c32b1 : (x48_3 != x55_4) = true := bne_iff_ne.mpr c32
                      by_cases c33 : (wrap64 (x48_3 - x55_4)) <= a3
                      ·rw [if_pos c33] at H
                       have c33b0 : decide ((wrap64 (x48_3 - x55_4)) <= a3) = true := decide_eq_true c33
                       clear c33
                       by_cases c34 : (wrap64 (x55_4 - x48_3)) <= a3
                       ·rw [if_pos c34] at H
                        have c34b0 : decide ((wrap64 (x55_4 - x48_3)) <= a3) = true := decide_eq_true c34
                        clear c34
                        have H' := Aside0.mk H
                        clear H
                        have p323 : 0 <= (x55_4 : Int) := of_decide_eq_true as_
                        have q323 : x55_4 < (t316.length : Int) := of_decide_eq_true as_
                        obtain ⟨ad323, e323, hx323_0⟩ := Kd.at_string (Kd.R_reads' HO_53.out).2.2 x55_4 p323 q323
                        obtain rfl : ad322 = ad323 := (by injection e323)
                        replace p323 := eq_true p323
                        replace q323 := eq_true q323
                        go_wp2
                        go_roundg k4
                        case measure => have := HJ4.out; have := HK2.out; have := HK3.out; have := HK4.out; omega
                        case rel => exact ⟨(true), (wrap64 (x55_4 + 1)), (by first | rfl | (simp; done) | (simp [*]; done)), (by first | rfl | (simp; done) | (simp [*]; done)), H', ⟨by have := HJ4.out; have := HK2.out; have := HK3.out; have := HK4.out; omega⟩, ⟨rk_ HO_10.out⟩, ⟨rk_ HO_13.out⟩, ⟨rk_ HO_46.out⟩, ⟨rk_ HO_53.out⟩, ⟨be_ HB.out⟩⟩
                       ·rw [if_neg c34] at H
                        have c34b0 : decide ((wrap64 (x55_4 - x48_3)) <= a3) = false := decide_eq_false c34
                        clear c34
                        have H' := Aside0.mk H
                        clear H
                        have p323 : 0 <= (x55_4 : Int) := of_decide_eq_true as_
                        have q323 : x55_4 < (t316.length : Int) := of_decide_eq_true as_
                        obtain ⟨ad323, e323, hx323_0⟩ := Kd.at_string (Kd.R_reads' HO_53.out).2.2 x55_4 p323 q323
                        obtain rfl : ad322 = ad323 := (by injection e323)
                        replace p323 := eq_true p323
                        replace q323 := eq_true q323
                        go_wp2
                        go_roundg k4
                        case measure => have := HJ4.out; have := HK2.out; have := HK3.out; have := HK4.out; omega
                        case rel => exact ⟨(x14_4), (wrap64 (x55_4 + 1)), (by first | rfl | (simp; done) | (simp [*]; done)), (by first | rfl | (simp; done) | (simp [*]; done)), H', ⟨by have := HJ4.out; have := HK2.out; have := HK3.out; have := HK4.out; omega⟩, ⟨rk_ HO_10.out⟩, ⟨rk_ HO_13.out⟩, ⟨rk_ HO_46.out⟩, ⟨rk_ HO_53.out⟩, ⟨be_ HB.out⟩⟩
                      ·rw [if_neg c33] at H
                       have c33b0 : decide ((wrap64 (x48_3 - x55_4)) <= a3) = false := decide_eq_false c33
                       clear c33
                       have H' := Aside0.mk H
                       clear H
                       have p323 : 0 <= (x55_4 : Int) := of_decide_eq_true as_
                       have q323 : x55_4 < (t316.length : Int) := of_decide_eq_true as_
                       obtain ⟨ad323, e323, hx323_0⟩ := Kd.at_string (Kd.R_reads' HO_53.out).2.2 x55_4 p323 q323
                       obtain rfl : ad322 = ad323 := (by injection e323)
                       replace p323 := eq_true p323
                       replace q323 := eq_true q323
                       go_wp2
                       go_roundg k4
                       case measure => have := HJ4.out; have := HK2.out; have := HK3.out; have := HK4.out; omega
                       case rel => exact ⟨(x14_4), (wrap64 (x55_4 + 1)), (by first | rfl | (simp; done) | (simp [*]; done)), (by first | rfl | (simp; done) | (simp [*]; done)), H', ⟨by have := HJ4.out; have := HK2.out; have := HK3.out; have := HK4.out; omega⟩, ⟨rk_ HO_10.out⟩, ⟨rk_ HO_13.out⟩, ⟨rk_ HO_46.out⟩, ⟨rk_ HO_53.out⟩, ⟨be_ HB.out⟩⟩
                    ·rw [if_neg c31] at H
                     have c31b0 : ((rdOf ByteArray.empty t316 x55_4).toList == a2.toList) = false := beq_eq_false_iff_ne.mpr c31
                     have c31b1 : ((rdOf ByteArray.empty t316 x55_4).toList != a2.toList) = true := bne_iff_ne.mpr c31
                     have H' := Aside0.mk H
                     clear H
                     have p323 : 0 <= (x55_4 : Int) := of_decide_eq_true as_
                     have q323 : x55_4 < (t316.length : Int) := of_decide_eq_true as_
                     obtain ⟨ad323, e323, hx323_0⟩ := Kd.at_string (Kd.R_reads' HO_53.out).2.2 x55_4 p323 q323
                     obtain rfl : ad322 = ad323 := (by injection e323)
                     replace p323 := eq_true p323
                     replace q323 := eq_true q323
                     go_wp2
                     go_roundg k4
                     case measure => have := HJ4.out; have := HK2.out; have := HK3.out; have := HK4.out; omega
                     case rel => exact ⟨(x14_4), (wrap64 (x55_4 + 1)), (by first | rfl | (simp; done) | (simp [*]; done)), (by first | rfl | (simp; done) | (simp [*]; done)), H', ⟨by have := HJ4.out; have := HK2.out; have := HK3.out; have := HK4.out; omega⟩, ⟨rk_ HO_10.out⟩, ⟨rk_ HO_13.out⟩, ⟨rk_ HO_46.out⟩, ⟨rk_ HO_53.out⟩, ⟨be_ HB.out⟩⟩
                   ·rw [if_neg c30] at H
                    have c30b0 : ((rdOf ByteArray.empty t316 x48_3).toList == a1.toList) = false := beq_eq_false_iff_ne.mpr c30
                    have c30b1 : ((rdOf ByteArray.empty t316 x48_3).toList != a1.toList) = true := bne_iff_ne.mpr c30
                    have H' := Aside0.mk H
                    clear H
                    have p323 : 0 <= (x55_4 : Int) := of_decide_eq_true as_
                    have q323 : x55_4 < (t316.length : Int) := of_decide_eq_true as_
                    obtain ⟨ad323, e323, hx323_0⟩ := Kd.at_string (Kd.R_reads' HO_53.out).2.2 x55_4 p323 q323
                    obtain rfl : ad322 = ad323 := (by injection e323)
                    replace p323 := eq_true p323
                    replace q323 := eq_true q323
                    go_wp2
                    go_roundg k4
                    case measure => have := HJ4.out; have := HK2.out; have := HK3.out; have := HK4.out; omega
                    case rel => exact ⟨(x14_4), (wrap64 (x55_4 + 1)), (by first | rfl | (simp; done) | (simp [*]; done)), (by first | rfl | (simp; done) | (simp [*]; done)), H', ⟨by have := HJ4.out; have := HK2.out; have := HK3.out; have := HK4.out; omega⟩, ⟨rk_ HO_10.out⟩, ⟨rk_ HO_13.out⟩, ⟨rk_ HO_46.out⟩, ⟨rk_ HO_53.out⟩, ⟨be_ HB.out⟩⟩
                  ·rw [if_neg c29] at H
                   exact absurd H (by simp)
                 ·rw [if_neg c28] at H
                  exact absurd H (by simp)
                ·rw [if_neg c27] at H
                 have c27b0 : decide (x55_4 < (t316.length : Int)) = false := decide_eq_false c27
                 clear c27
                 have H' := Aside0.mk H
                 clear H
                 go_wp2
                 go_roundg k4
                 case measure => have := HJ4.out; have := HK2.out; have := HK3.out; have := HK4.out; omega
                 case rel => exact ⟨(x14_4), (wrap64 (x48_3 + 1)), (by first | rfl | (simp; done) | (simp [*]; done)), (by first | rfl | (simp; done) | (simp [*]; done)), H', ⟨by have := HJ4.out; have := HK2.out; have := HK3.out; have := HK4.out; omega⟩, ⟨rk_ HO_10.out⟩, ⟨rk_ HO_13.out⟩, ⟨rk_ HO_46.out⟩, ⟨be_ HB.out⟩⟩
             ·rw [if_neg c26] at H
              exact absurd H (by simp)
            ·rw [if_neg c25] at H
             exact absurd H (by simp)
           ·rw [if_neg c24] at H
            have c24b0 : decide (x48_3 < (t316.length : Int)) = false := decide_eq_false c24
            clear c24
            by_cases c35 : x14_3 = true
            ·subst c35
             have H1 : (if x10_2.length < 17592186044416 then (spec_NearIn.l0 k3 a1 a2 a3 (x10_2 ++ [x39_2]) l0 (l0.length : Int) (wrap64 (x39_2 + 1))) else (none)) = some (r1, r2) := by rw [if_pos rfl] at H; exact H
             clear H
             have H := H1
             clear H1
             by_cases c36 : x10_2.length < 17592186044416
             ·rw [if_pos c36] at H
              have LMc36 := Aside0.mk c36
              clear c36
              obtain ⟨y319, hy319⟩ : ∃ y_ : List Int, y_ = (x10_2 ++ [x39_2]) := ⟨_, rfl⟩
              replace H : (spec_NearIn.l0 k3 a1 a2 a3 y319 l0 (l0.length : Int) (wrap64 (x39_2 + 1))) = some (r1, r2) := by first | (rw [hy319]; with_reducible exact H) | (have H2_ := (Option.bind_some _ _).symm.trans H; rw [hy319]; with_reducible exact H2_) | (have H2_ := (Option.bind_some _ _).symm.trans H; with_reducible exact H2_) | with_reducible exact H | (rw [hy319]; exact H) | exact H
              have Ny319 := Aside0.mk hy319
              clear hy319
              have H' := Aside0.mk H
              clear H
              go_wp2_with (first | ((with_reducible refine gate_builtin (b := .append) (xs := #[.tmp 90, .tmp 92]) rfl ?_); at_builtin; refine Kd.R_append (Kd.int .i64) (w0 := w) w.heap.size rfl (.tmp 90) (.tmp 92) 47 3 (.int .i64 0) 8 rfl Try.underlying47 info3 rfl (by decide) (by omega) u10 x10_2 x39_2 [.int .i64 x39_2] (fun _ => True) (fun _ => False) rfl rfl ?aP (fun _ hk => hk.elim) ?aF ?aO ?aB ?aS ?aL ?_; (case aP => exact rfl); (case aB => exact (be_ HB.out)); (case aF => exact (fun _ _ => trivial)); (case aO => exact (rk_ HO_10.out)); (case aS => exact (bw_ HB.out)); (case aL => have := LMc36.out; omega); intro v320 w37 ho hb hg hat; rw [<- Ny319.out] at ho; have n0_ := Aside0.mk (Kd.R_over' (rk_ HO_13.out) (Kd.R_typed (rk_ HO_10.out)) (by decide) hg); have n1_ := Aside0.mk (Kd.R_over' (rk_ HO_46.out) (Kd.R_typed (rk_ HO_10.out)) (by decide) hg); have n2_ := Aside0.mk (hb); have n3_ := Aside0.mk (ho); clear HO_13; clear HO_46; clear HB; clear HO_10; have HO_13 := n0_; have HO_46 := n1_; have HB := n2_; have HO321 := n3_; clear n0_ n1_ n2_ n3_; clear ho hb hg hat))
              go_roundg k3
              case measure => have := HJ4.out; have := HK2.out; have := HK3.out; omega
              case rel => exact ⟨(y319), (wrap64 (x39_2 + 1)), (by first | rfl | (simp; done) | (simp [*]; done)), H', ⟨by have := HJ4.out; have := HK2.out; have := HK3.out; omega⟩, ⟨rk_ HO321.out⟩, ⟨be_ HB.out⟩⟩
             ·rw [if_neg c36] at H
              exact absurd H (by simp)
            ·replace c35 := Bool.eq_false_iff.mpr c35
             subst c35
             have H1 : (spec_NearIn.l0 k3 a1 a2 a3 x10_2 l0 (l0.length : Int) (wrap64 (x39_2 + 1))) = some (r1, r2) := by rw [if_neg (show ¬ (false = true) by decide)] at H; exact H
             clear H
             have H := H1
             clear H1
             have H' := Aside0.mk H
             clear H
             go_wp2
             go_roundg k3
             case measure => have := HJ4.out; have := HK2.out; have := HK3.out; omega
             case rel => exact ⟨(x10_2), (wrap64 (x39_2 + 1)), (by first | rfl | (simp; done) | (simp [*]; done)), H', ⟨by have := HJ4.out; have := HK2.out; have := HK3.out; omega⟩, ⟨rk_ HO_10.out⟩, ⟨be_ HB.out⟩⟩
        ·rw [if_neg c20] at H
         exact absurd H (by simp)
       ·rw [if_neg c19] at H
        exact absurd H (by simp)
      ·rw [if_neg c18] at H
       have c18b0 : decide (x39_2 < (l0.length : Int)) = false := decide_eq_false c18
       clear c18
       simp only [Option.some.injEq, Prod.mk.injEq] at H
       obtain ⟨rfl, rfl⟩ := H
       go_wp2
       go_ret2
       exact ⟨_, ew_, by (with_reducible repeat (first | apply Kd.R_alloc | apply Kd.R_drewN | apply Kd.R_drew)); exact HO_10.out, by repeat (first | (with_reducible first | exact HB.out | apply below_alloc | apply pw_below_drewN | apply below_drew1) | exact HB.out)⟩
mutual
def spec_l9Posts.l0 : Nat -> ByteArray -> List (S57) -> List ByteArray -> Int -> Int -> Option ((List (S57)))
 | 0, _, _, _, _, _ => none
 | k + 1, x1, x5, x11, x12, x13 => if x13 < x12 then (if 0 <= x13 then (if x13 < (x11.length : Int) then ((spec_l9Words.f k (rdOf ByteArray.empty x11 x13)).bind fun t126 => (spec_l9Posts.l1 k x1 x5 x11 x12 x13 t126 (t126.length : Int) 0 x13 ([] : List Int))) else (none)) else (none)) else (some x5)
def spec_l9Posts.l1 : Nat -> ByteArray -> List (S57) -> List ByteArray -> Int -> Int -> List ByteArray -> Int -> Int -> Int -> List Int -> Option ((List (S57)))
 | 0, _, _, _, _, _, _, _, _, _, _ => none
 | k + 1, x1, x5, x11, x12, x13, x21, x22, x23, x126000, x126001 => if x23 < x22 then (if 0 <= x23 then (if x23 < (x21.length : Int) then (if (rdOf ByteArray.empty x21 x23).toList = x1.toList then (if x126001.length < 17592186044416 then (spec_l9Posts.l1 k x1 x5 x11 x12 x13 x21 x22 (wrap64 (x23 + 1)) x126000 (x126001 ++ [x23])) else (none)) else (spec_l9Posts.l1 k x1 x5 x11 x12 x13 x21 x22 (wrap64 (x23 + 1)) x126000 x126001)) else (none)) else (none)) else (if (x126001.length : Int) > 0 then (if x5.length < 4398046511104 then (spec_l9Posts.l0 k x1 (x5 ++ [(⟨x126000, x126001⟩ : S57)]) x11 x12 (wrap64 (x13 + 1))) else (none)) else (spec_l9Posts.l0 k x1 x5 x11 x12 (wrap64 (x13 + 1))))
end
def spec_l9Posts.f (k : Nat) (l0 : List ByteArray) (a1 : ByteArray) : Option ((List (S57))) := spec_l9Posts.l0 k a1 ([] : List (S57)) l0 (l0.length : Int) 0
theorem spec_l9Posts.mono_l : ∀ k, (∀ y0 y1 y2 y3 y4, LeO (spec_l9Posts.l0 k y0 y1 y2 y3 y4) (spec_l9Posts.l0 (k + 1) y0 y1 y2 y3 y4)) /\ (∀ y0 y1 y2 y3 y4 y5 y6 y7 y8 y9, LeO (spec_l9Posts.l1 k y0 y1 y2 y3 y4 y5 y6 y7 y8 y9) (spec_l9Posts.l1 (k + 1) y0 y1 y2 y3 y4 y5 y6 y7 y8 y9))
 | 0 => ⟨fun _ _ _ _ _ r h => by simp [spec_l9Posts.l0] at h, fun _ _ _ _ _ _ _ _ _ _ r h => by simp [spec_l9Posts.l1] at h⟩
 | k + 1 => by
  obtain ⟨ih0, ih1⟩ := spec_l9Posts.mono_l k
  refine ⟨?_, ?_⟩
  ·intro y0 y1 y2 y3 y4
   unfold spec_l9Posts.l0
   repeat' (with_reducible first | exact ih0 _ _ _ _ _ | exact ih1 _ _ _ _ _ _ _ _ _ _ | exact spec_l9Words.mono _ _ | exact LeO.refl _ | exact LeO.none _ | refine LeO.ite ?_ ?_ | refine LeO.bind ?_ (fun _ => ?_))
  ·intro y0 y1 y2 y3 y4 y5 y6 y7 y8 y9
   unfold spec_l9Posts.l1
   repeat' (with_reducible first | exact ih0 _ _ _ _ _ | exact ih1 _ _ _ _ _ _ _ _ _ _ | exact spec_l9Words.mono _ _ | exact LeO.refl _ | exact LeO.none _ | refine LeO.ite ?_ ?_ | refine LeO.bind ?_ (fun _ => ?_))
theorem spec_l9Posts.mono : ∀ a0 a1 k, LeO (spec_l9Posts.f k a0 a1) (spec_l9Posts.f (k + 1) a0 a1) := by
 intro a0 a1 k
 obtain ⟨ih0, ih1⟩ := spec_l9Posts.mono_l k
 unfold spec_l9Posts.f
 repeat' (with_reducible first | exact ih0 _ _ _ _ _ | exact ih1 _ _ _ _ _ _ _ _ _ _ | exact spec_l9Words.mono _ _ | exact LeO.refl _ | exact LeO.none _ | refine LeO.ite ?_ ?_ | refine LeO.bind ?_ (fun _ => ?_))
theorem spec_l9Posts.calls (k : Nat) (A0 : Option Addr) (c0 : Nat) (l0 : List ByteArray) (a1 : ByteArray) (r : List (S57)) (w : World) (hr0 : Kd.C Kd.string w A0 l0.length l0) (hc0 : l0.length <= c0) (h : spec_l9Posts.f k l0 a1 = some r) :
  Calls Try.prog 57 #[.slice A0 l0.length c0, .string a1] w fun e w' => ∃ v0_ : Value, e = .returned (v0_) /\ Kd.S k57 57 w' w.heap.size (fun _ => True) v0_ r /\ Below w.heap.size w w' := by
 have hu57 := Try.underlying57
 have HR0 := Aside0.mk hr0
 have HC0 := Aside0.mk hc0
 clear hr0 hc0
 have HB := Aside0.mk (Below.refl w.heap.size w)
 have H : (spec_l9Posts.l0 k a1 ([] : List (S57)) l0 (l0.length : Int) 0) = some r := h
 clear h
 have H' := Aside0.mk H
 clear H
 go_enter Try.func57, Try.ntmps57
 go_wp2
 go_loopg [5, 13] k (fun kq v5 v13 w' => ∃ (x5_1 : List (S57)) (x13_1 : Int), v13 = .int .i64 x13_1 /\ Aside0 (spec_l9Posts.l0 kq a1 x5_1 l0 (l0.length : Int) x13_1 = some r) /\ Aside0 (kq <= k) /\ Aside0 (Kd.S k57 57 w' w.heap.size (fun _ => True) v5 x5_1) /\ Aside0 (Below w.heap.size w w'))
 case atStart => exact ⟨(([] : List (S57))), (0), (by first | rfl | (simp; done) | (simp [*]; done)), H', ⟨Nat.le_refl _⟩, ⟨by first | exact Kd.S_nil _ _ _ _ _ | exact Kd.N_nil _ _ _ _ _ | exact Kd.V_nil _ _ _ _ _ | exact Kd.Q_nil _ _ _ _ _ | exact Kd.R_nil _ _ _ _ _⟩, ⟨be_ HB.out⟩⟩
 case round =>
  clear H'
  (try clear p2)
  obtain ⟨x5_1, x13_1, rfl, HA, HK1, HO_5, HB⟩ := hrel
  cases gk with
  | zero => exact absurd HA.out (by simp [spec_l9Posts.l0])
  | succ k1 =>
   have H := HA.out
   clear HA
   simp only [spec_l9Posts.l0] at H
   by_cases c3 : x13_1 < (l0.length : Int)
   ·rw [if_pos c3] at H
    have c3b0 : decide (x13_1 < (l0.length : Int)) = true := decide_eq_true c3
    clear c3
    by_cases c4 : 0 <= x13_1
    ·rw [if_pos c4] at H
     have c4b0 : decide (0 <= x13_1) = true := decide_eq_true c4
     clear c4
     by_cases c5 : x13_1 < (l0.length : Int)
     ·rw [if_pos c5] at H
      have c5b0 : decide (x13_1 < (l0.length : Int)) = true := decide_eq_true c5
      clear c5
      replace H := Option.bind_eq_some_iff.mp H
      obtain ⟨t126, A60, H⟩ := H
      replace H : (spec_l9Posts.l1 k1 a1 x5_1 l0 (l0.length : Int) x13_1 t126 (t126.length : Int) 0 x13_1 ([] : List Int)) = some r := H
      have A6 := Aside0.mk A60
      clear A60
      have H' := Aside0.mk H
      clear H
      have p124 : 0 <= (x13_1 : Int) := of_decide_eq_true as_
      have q124 : x13_1 < (l0.length : Int) := of_decide_eq_true as_
      obtain ⟨ad124, e124, hx124_0⟩ := Kd.at_string HR0.out x13_1 p124 q124
      cases e124
      replace hx124_0 := (HB.out.cell (World.block_lt_of_cell? w _ hx124_0)).trans hx124_0
      replace p124 := eq_true p124
      replace q124 := eq_true q124
      go_wp2_with (first | ((with_reducible refine gate_dst (N := 8) rfl ?_); refine box_event ?hg (N := 8) ?hd (cs := #[.int .i64 0, .slice none 0 0]) (t := 57) ?hr ?_; (case hd => rfl); (case hg => rfl); (case hr => first | (go_simp; done) | (go_simp; rfl)); intro gb125 hg w7 hbox hb; have n0_ := Aside0.mk (Kd.S_below (Kd.S_elderB (sk_ HO_5.out) gb125 (Nat.le_of_eq hg.symm)) hb); have n1_ := Aside0.mk (bs_ HB.out hb); have n2_ := Aside0.mk (hbox); have n3_ := Aside0.mk ((by rw [hg]; exact (bw_ HB.out) : w.heap.size <= gb125)); have n4_ := Aside0.mk ((by rw [hg]; exact (bw_ HB.out) : w.heap.size <= gb125)); clear HO_5; clear HB; have HO_5 := n0_; have HB := n1_; have BK125 := n2_; have GW125 := n3_; have GE125 := n4_; clear n0_ n1_ n2_ n3_ n4_; clear hb hbox hg; have hcz8_0 : w7.cell? ⟨gb125, 0, none⟩ = some (.int .i64 0) := (blk_cell BK125.out 0).trans rfl; have hcz8_1 : w7.cell? ⟨gb125, 1, none⟩ = some (.slice none 0 0) := (blk_cell BK125.out 1).trans rfl; have hfz8_0 := blk_frozen BK125.out 0; have hfz8_1 := blk_frozen BK125.out 1) | ((with_reducible refine gate_callee (f := 52) rfl ?_); refine goesL_ (some 21) rfl rfl Try.func52 (by kernel_rfl) rfl #[.string (rdOf ByteArray.empty l0 x13_1)] rfl (ag_) ?_; (with_reducible refine (spec_l9Words.calls k1 (rdOf ByteArray.empty l0 x13_1) t126 _ A6.out).mono ?_); rintro e w9 ⟨v127, rfl, ho0, hb⟩; refine ⟨_, rfl, ?_⟩; have n0_ := Aside0.mk (Kd.S_below (by (with_reducible repeat (first | apply Kd.S_alloc | apply Kd.S_drewN | apply Kd.S_drew)); exact (Kd.S_mono (Kd.S_far (p := ⟨gb125, 1, none⟩) (Kd.S_far (p := ⟨gb125, 0, none⟩) (Kd.S_mono HO_5.out (fun k_ hk => (⟨hk, hk.2⟩ : _ /\ k_ ≠ gb125))) (fun _ hk => hk.2) (.int .i64 x13_1)) (fun _ hk => hk.2) (.slice none 0 0)) (fun _ h_ => h_.1))) hb); have n1_ := Aside0.mk (Kd.R_lower ho0 (bw_ HB.out)); have n2_ := Aside0.mk (blk_below (g := gb125) (o := .cells #[.int .i64 x13_1, .slice none 0 0] 57 (0, 0)) (by refine pk_ ?_; refine blk_put (cs := #[.int .i64 x13_1, .slice none 0 0]) ?_ 1 _ rfl; (with_reducible repeat (first | refine blk_drewN ?_ _ | refine blk_drew ?_ | refine blk_alloc ?_ _)); refine blk_put (cs := #[.int .i64 0, .slice none 0 0]) ?_ 0 _ rfl; (with_reducible repeat (first | refine blk_drewN ?_ _ | refine blk_drew ?_ | refine blk_alloc ?_ _)); exact BK125.out) hb); have n3_ := Aside0.mk (bs_ HB.out hb); clear HO_5; clear BK125; clear HB; have HO_5 := n0_; have HO128 := n1_; have BK125 := n2_; have HB := n3_; clear n0_ n1_ n2_ n3_; (try clear hb); (try clear hb2); (try clear hk); (try clear hi); (try clear ho0); obtain ⟨Ao10, co10, eo10⟩ := Kd.R_slice HO128.out; subst eo10))
      go_loopg [23] k1 (fun kq v23 w' => ∃ (x23_2 : Int) (x126001_2 : List Int) (u126001 : Value), v23 = .int .i64 x23_2 /\ Aside0 (spec_l9Posts.l1 kq a1 x5_1 l0 (l0.length : Int) x13_1 t126 (t126.length : Int) x23_2 x13_1 x126001_2 = some r) /\ Aside0 (kq <= k1) /\ Aside0 (Kd.S k57 57 w' w.heap.size (fun k_ => some k_ ≠ (u126001 : Value).ownBlock /\ k_ ≠ gb125) u5 x5_1) /\ Aside0 (Kd.R Kd.string 9 w' w.heap.size (fun _ => True) (.slice Ao10 t126.length co10) t126) /\ Aside0 (Kd.R (Kd.int .i64) 3 w' w.heap.size (fun _ => True) u126001 x126001_2) /\ Aside0 (w'.heap[gb125]? = some (.cells #[.int .i64 x13_1, u126001] 57 (0, 0))) /\ Aside0 (Below w.heap.size w w'))
      case atStart => exact ⟨(0), (([] : List Int)), (.slice none 0 0), (by first | rfl | (simp; done) | (simp [*]; done)), H', ⟨Nat.le_refl _⟩, ⟨by (with_reducible repeat (first | apply Kd.S_alloc | apply Kd.S_drewN | apply Kd.S_drew)); exact Kd.S_mono HO_5.out (fun _ hk => ⟨(by simp [Value.ownBlock]), hk.2⟩)⟩, ⟨rk_ HO128.out⟩, ⟨by first | exact Kd.R_nil _ _ _ _ _ | exact Kd.N_nil _ _ _ _ _ | exact Kd.V_nil _ _ _ _ _ | exact Kd.Q_nil _ _ _ _ _ | exact Kd.S_nil _ _ _ _ _⟩, ⟨pk_ BK125.out⟩, ⟨be_ HB.out⟩⟩
      case round =>
       clear H'
       (try clear p1); (try clear q1); (try clear hx1); (try clear p2); (try clear c3); (try clear c3b0); (try clear c4); (try clear c4b0); (try clear c5); (try clear c5b0); (try clear hcz8_0); (try clear hcz8_1); (try clear hfz8_0); (try clear hfz8_1); (try clear hx124_0); (try clear p124); (try clear p2); (try clear q124)
       obtain ⟨x23_2, x126001_2, u126001, rfl, HA, HK2, HO_5, HO_21, HO_126001, BK125, HB⟩ := hrel
       cases gk with
       | zero => exact absurd HA.out (by simp [spec_l9Posts.l1])
       | succ k2 =>
        have H := HA.out
        clear HA
        simp only [spec_l9Posts.l1] at H
        by_cases c11 : x23_2 < (t126.length : Int)
        ·rw [if_pos c11] at H
         have c11b0 : decide (x23_2 < (t126.length : Int)) = true := decide_eq_true c11
         clear c11
         by_cases c12 : 0 <= x23_2
         ·rw [if_pos c12] at H
          have c12b0 : decide (0 <= x23_2) = true := decide_eq_true c12
          clear c12
          by_cases c13 : x23_2 < (t126.length : Int)
          ·rw [if_pos c13] at H
           have c13b0 : decide (x23_2 < (t126.length : Int)) = true := decide_eq_true c13
           clear c13
           by_cases c14 : (rdOf ByteArray.empty t126 x23_2).toList = a1.toList
           ·rw [if_pos c14] at H
            have c14b0 : ((rdOf ByteArray.empty t126 x23_2).toList == a1.toList) = true := beq_iff_eq.mpr c14
            have c14b1 : ((rdOf ByteArray.empty t126 x23_2).toList != a1.toList) = false := bne_eq_false_iff_eq.mpr c14
            clear c14
            by_cases c15 : x126001_2.length < 17592186044416
            ·rw [if_pos c15] at H
             have LMc15 := Aside0.mk c15
             clear c15
             obtain ⟨y130, hy130⟩ : ∃ y_ : List Int, y_ = (x126001_2 ++ [x23_2]) := ⟨_, rfl⟩
             replace H : (spec_l9Posts.l1 k2 a1 x5_1 l0 (l0.length : Int) x13_1 t126 (t126.length : Int) (wrap64 (x23_2 + 1)) x13_1 y130) = some r := by first | (rw [hy130]; with_reducible exact H) | (have H2_ := (Option.bind_some _ _).symm.trans H; rw [hy130]; with_reducible exact H2_) | (have H2_ := (Option.bind_some _ _).symm.trans H; with_reducible exact H2_) | with_reducible exact H | (rw [hy130]; exact H) | exact H
             have Ny130 := Aside0.mk hy130
             clear hy130
             have H' := Aside0.mk H
             clear H
             have p129 : 0 <= (x23_2 : Int) := of_decide_eq_true as_
             have q129 : x23_2 < (t126.length : Int) := of_decide_eq_true as_
             obtain ⟨ad129, e129, hx129_0⟩ := Kd.at_string (Kd.R_reads' HO_21.out).2.2 x23_2 p129 q129
             cases e129
             replace p129 := eq_true p129
             replace q129 := eq_true q129
             have hcz16_0 : wr.cell? ⟨gb125, 0, none⟩ = some (.int .i64 x13_1) := (blk_cell BK125.out 0).trans rfl
             have hcz16_1 : wr.cell? ⟨gb125, 1, none⟩ = some (u126001) := (blk_cell BK125.out 1).trans rfl
             have hfz16_0 := blk_frozen BK125.out 0
             have hfz16_1 := blk_frozen BK125.out 1
             go_wp2_with (first | ((with_reducible refine gate_builtin (b := .append) (xs := #[.tmp 32, .tmp 34]) rfl ?_); at_builtin; refine Kd.R_append (Kd.int .i64) (w0 := w) w.heap.size rfl (.tmp 32) (.tmp 34) 47 3 (.int .i64 0) 8 rfl Try.underlying47 info3 rfl (by decide) (by omega) u126001 x126001_2 x23_2 [.int .i64 x23_2] (fun _ => True) (fun _ => False) rfl rfl ?aP (fun _ hk => hk.elim) ?aF ?aO ?aB ?aS ?aL ?_; (case aP => exact rfl); (case aB => exact (be_ HB.out)); (case aF => exact (fun _ _ => trivial)); (case aO => exact (rk_ HO_126001.out)); (case aS => exact (bw_ HB.out)); (case aL => have := LMc15.out; omega); intro v131 w17 ho hb hg hat; rw [<- Ny130.out] at ho; have n0_ := Aside0.mk (Kd.S_after (ok := (fun k_ => k_ ≠ gb125)) (by (with_reducible repeat (first | apply Kd.S_alloc | apply Kd.S_drewN | apply Kd.S_drew)); exact Kd.S_mono HO_5.out (fun _ hk => ⟨hk.2, hk.1⟩)) hg hat); have n1_ := Aside0.mk (Kd.R_over' (rk_ HO_21.out) (Kd.R_typed (rk_ HO_126001.out)) (by decide) hg); have n2_ := Aside0.mk (blk_grown (g := gb125) (o := .cells #[.int .i64 x13_1, u126001] 57 (0, 0)) (pk_ BK125.out) hg (Kd.R_ne HO_126001.out BK125.out (by decide))); have n3_ := Aside0.mk (hb); have n4_ := Aside0.mk (ho); clear HO_5; clear HO_21; clear BK125; clear HB; clear HO_126001; have HO_5 := n0_; have HO_21 := n1_; have BK125 := n2_; have HB := n3_; have HO132 := n4_; clear n0_ n1_ n2_ n3_ n4_; clear ho hb hg hat; obtain ⟨Ao18, co18, eo18⟩ := Kd.R_slice HO132.out; subst eo18; have hcz19_0 : w17.cell? ⟨gb125, 0, none⟩ = some (.int .i64 x13_1) := (blk_cell BK125.out 0).trans rfl; have hcz19_1 : w17.cell? ⟨gb125, 1, none⟩ = some (u126001) := (blk_cell BK125.out 1).trans rfl; have hfz19_0 := blk_frozen BK125.out 0; have hfz19_1 := blk_frozen BK125.out 1))
             go_roundg k2
             case measure => have := HK1.out; have := HK2.out; omega
             case rel => exact ⟨(wrap64 (x23_2 + 1)), (y130), (.slice Ao18 y130.length co18), (by first | rfl | (simp; done) | (simp [*]; done)), H', ⟨by have := HK1.out; have := HK2.out; omega⟩, ⟨by (with_reducible repeat (first | apply Kd.S_alloc | apply Kd.S_drewN | apply Kd.S_drew)); exact Kd.S_mono (Kd.S_far (p := ⟨gb125, 1, none⟩) (Kd.S_mono HO_5.out (fun k_ hk => (⟨hk, hk.1⟩ : _ /\ k_ ≠ gb125))) (fun _ hk => hk.2) (.slice Ao18 y130.length co18)) (fun _ hk => ⟨hk.1.2, hk.1.1⟩)⟩, ⟨by (with_reducible repeat (first | apply Kd.R_alloc | apply Kd.R_drewN | apply Kd.R_drew)); exact Kd.R_mono (Kd.R_far (p := ⟨gb125, 1, none⟩) (Kd.R_types HO_21.out BK125.out (by decide)) (fun _ hk => hk.2) (.slice Ao18 y130.length co18)) (fun _ hk => trivial)⟩, ⟨by (with_reducible repeat (first | apply Kd.R_alloc | apply Kd.R_drewN | apply Kd.R_drew)); exact Kd.R_mono (Kd.R_far (p := ⟨gb125, 1, none⟩) (Kd.R_types HO132.out BK125.out (by decide)) (fun _ hk => hk.2) (.slice Ao18 y130.length co18)) (fun _ hk => trivial)⟩, ⟨by (with_reducible repeat (first | refine blk_drewN ?_ _ | refine blk_drew ?_ | refine blk_alloc ?_ _)); refine blk_put (cs := #[.int .i64 x13_1, u126001]) ?_ 1 _ rfl; (with_reducible repeat (first | refine blk_drewN ?_ _ | refine blk_drew ?_ | refine blk_alloc ?_ _)); exact BK125.out⟩, ⟨be_ HB.out⟩⟩
            ·rw [if_neg c15] at H
             exact absurd H (by simp)
           ·rw [if_neg c14] at H
            have c14b0 : ((rdOf ByteArray.empty t126 x23_2).toList == a1.toList) = false := beq_eq_false_iff_ne.mpr c14
            have c14b1 : ((rdOf ByteArray.empty t126 x23_2).toList != a1.toList) = true := bne_iff_ne.mpr c14
            have H' := Aside0.mk H
            clear H
            have p129 : 0 <= (x23_2 : Int) := of_decide_eq_true as_
            have q129 : x23_2 < (t126.length : Int) := of_decide_eq_true as_
            obtain ⟨ad129, e129, hx129_0⟩ := Kd.at_string (Kd.R_reads' HO_21.out).2.2 x23_2 p129 q129
            cases e129
            replace p129 := eq_true p129
            replace q129 := eq_true q129
            go_wp2
            go_roundg k2
            case measure => have := HK1.out; have := HK2.out; omega
            case rel => exact ⟨(wrap64 (x23_2 + 1)), (x126001_2), (u126001), (by first | rfl | (simp; done) | (simp [*]; done)), H', ⟨by have := HK1.out; have := HK2.out; omega⟩, ⟨sk_ HO_5.out⟩, ⟨rk_ HO_21.out⟩, ⟨rk_ HO_126001.out⟩, ⟨pk_ BK125.out⟩, ⟨be_ HB.out⟩⟩
          ·rw [if_neg c13] at H
           exact absurd H (by simp)
         ·rw [if_neg c12] at H
          exact absurd H (by simp)
        ·rw [if_neg c11] at H
         have c11b0 : decide (x23_2 < (t126.length : Int)) = false := decide_eq_false c11
         clear c11
         by_cases c20 : (x126001_2.length : Int) > 0
         ·rw [if_pos c20] at H
          have c20b0 : decide (0 < (x126001_2.length : Int)) = true := decide_eq_true c20
          have c20b1 : decide (0 < x126001_2.length) = true := decide_eq_true (by omega)
          clear c20
          by_cases c21 : x5_1.length < 4398046511104
          ·rw [if_pos c21] at H
           have LMc21 := Aside0.mk c21
           clear c21
           obtain ⟨y133, hy133⟩ : ∃ y_ : List (S57), y_ = (x5_1 ++ [(⟨x13_1, x126001_2⟩ : S57)]) := ⟨_, rfl⟩
           replace H : (spec_l9Posts.l0 k2 a1 y133 l0 (l0.length : Int) (wrap64 (x13_1 + 1))) = some r := by first | (rw [hy133]; with_reducible exact H) | (have H2_ := (Option.bind_some _ _).symm.trans H; rw [hy133]; with_reducible exact H2_) | (have H2_ := (Option.bind_some _ _).symm.trans H; with_reducible exact H2_) | with_reducible exact H | (rw [hy133]; exact H) | exact H
           have Ny133 := Aside0.mk hy133
           clear hy133
           have H' := Aside0.mk H
           clear H
           have hcz22_0 : wr.cell? ⟨gb125, 0, none⟩ = some (.int .i64 x13_1) := (blk_cell BK125.out 0).trans rfl
           have hcz22_1 : wr.cell? ⟨gb125, 1, none⟩ = some (u126001) := (blk_cell BK125.out 1).trans rfl
           have hfz22_0 := blk_frozen BK125.out 0
           have hfz22_1 := blk_frozen BK125.out 1
           obtain ⟨Ao23, co23, eo23⟩ := Kd.R_slice HO_126001.out
           subst eo23
           go_wp2_with (first | ((with_reducible refine gate_builtin (b := .append) (xs := #[.tmp 42, .tmp 44]) rfl ?_); at_builtin; refine Kd.S_append k57 (w0 := w) w.heap.size rfl (.tmp 42) (.tmp 44) 28 57 (.agg #[(.int .i64 0), (.slice none 0 0)]) 32 rfl Try.underlying28 info57 rfl (by decide) (by omega) u5 x5_1 (⟨x13_1, x126001_2⟩ : S57) [.int .i64 x13_1, .slice Ao23 x126001_2.length co23] (fun k_ => k_ ≠ gb125) (fun k_ => some k_ = (.slice Ao23 x126001_2.length co23 : Value).ownBlock) rfl rfl ?aP (fun k_ hk_ => ((Kd.R_mono (ok' := fun k_ => ((fun k_ => k_ ≠ gb125)) k_ /\ some k_ ≠ (u5 : Value).ownBlock) (Kd.R_types (Kd.R_apart' (HO_126001.out) (Kd.S_typed HO_5.out) (by decide)) BK125.out (by decide)) (fun k_ hk => ⟨hk.2, hk.1.2⟩))).1 k_ hk_.symm) ?aF ?aO ?aB ?aS ?aL ?_; (case aP => exact k57_mkM _ _ _ (⟨x13_1, x126001_2⟩ : S57) (Kd.R_mono (Kd.R_tight rfl (Kd.R_mono (ok' := fun k_ => ((fun k_ => k_ ≠ gb125)) k_ /\ some k_ ≠ (u5 : Value).ownBlock) (Kd.R_types (Kd.R_apart' (HO_126001.out) (Kd.S_typed HO_5.out) (by decide)) BK125.out (by decide)) (fun k_ hk => ⟨hk.2, hk.1.2⟩))) (fun _ h_ => h_))); (case aB => exact (be_ HB.out)); (case aF => exact (fun k_ hk => Kd.freshB (g := gb125) (o := .cells #[.int .i64 x13_1, .slice Ao23 x126001_2.length co23] 57 (0, 0)) (pk_ BK125.out) k_ hk)); (case aO => exact (by (with_reducible repeat (first | apply Kd.S_alloc | apply Kd.S_drewN | apply Kd.S_drew)); exact Kd.S_mono HO_5.out (fun k_ hk => ⟨hk.2, fun e_ => hk.1 e_⟩))); (case aS => exact (bw_ HB.out)); (case aL => have := LMc21.out; omega); intro v134 w24 ho hb hg hat; rw [<- Ny133.out] at ho; have n0_ := Aside0.mk (Kd.R_over' (rk_ HO_21.out) (Kd.S_typed (sk_ HO_5.out)) (by decide) hg); have n1_ := Aside0.mk (blk_grown (g := gb125) (o := .cells #[.int .i64 x13_1, .slice Ao23 x126001_2.length co23] 57 (0, 0)) (pk_ BK125.out) hg (Kd.S_away HO_5.out (fun _ hk => hk.2))); have n2_ := Aside0.mk (hb); have n3_ := Aside0.mk (ho); clear HO_21; clear BK125; clear HB; clear HO_5; clear HO_126001; have HO_21 := n0_; have BK125 := n1_; have HB := n2_; have HO135 := n3_; clear n0_ n1_ n2_ n3_; clear ho hb hg hat))
           go_roundg k2
           case measure => have := HK1.out; have := HK2.out; omega
           case rel => exact ⟨(y133), (wrap64 (x13_1 + 1)), (by first | rfl | (simp; done) | (simp [*]; done)), H', ⟨by have := HK1.out; have := HK2.out; omega⟩, ⟨by (with_reducible repeat (first | apply Kd.S_alloc | apply Kd.S_drewN | apply Kd.S_drew)); exact Kd.S_mono HO135.out (fun _ hk => trivial)⟩, ⟨be_ HB.out⟩⟩
          ·rw [if_neg c21] at H
           exact absurd H (by simp)
         ·rw [if_neg c20] at H
          have c20b0 : decide (0 < (x126001_2.length : Int)) = false := decide_eq_false c20
          have c20b1 : decide (0 < x126001_2.length) = false := decide_eq_false (by omega)
          clear c20
          have H' := Aside0.mk H
          clear H
          have hcz25_0 : wr.cell? ⟨gb125, 0, none⟩ = some (.int .i64 x13_1) := (blk_cell BK125.out 0).trans rfl
          have hcz25_1 : wr.cell? ⟨gb125, 1, none⟩ = some (u126001) := (blk_cell BK125.out 1).trans rfl
          have hfz25_0 := blk_frozen BK125.out 0
          have hfz25_1 := blk_frozen BK125.out 1
          obtain ⟨Ao26, co26, eo26⟩ := Kd.R_slice HO_126001.out
          subst eo26
          go_wp2
          go_roundg k2
          case measure => have := HK1.out; have := HK2.out; omega
          case rel => exact ⟨(x5_1), (wrap64 (x13_1 + 1)), (by first | rfl | (simp; done) | (simp [*]; done)), H', ⟨by have := HK1.out; have := HK2.out; omega⟩, ⟨by (with_reducible repeat (first | apply Kd.S_alloc | apply Kd.S_drewN | apply Kd.S_drew)); exact Kd.S_mono HO_5.out (fun _ hk => trivial)⟩, ⟨be_ HB.out⟩⟩
     ·rw [if_neg c5] at H
      exact absurd H (by simp)
    ·rw [if_neg c4] at H
     exact absurd H (by simp)
   ·rw [if_neg c3] at H
    have c3b0 : decide (x13_1 < (l0.length : Int)) = false := decide_eq_false c3
    clear c3
    obtain rfl := Option.some.inj H
    go_wp2
    go_ret
    exact ⟨_, ew_, by (with_reducible repeat (first | apply Kd.S_alloc | apply Kd.S_drewN | apply Kd.S_drew)); exact HO_5.out, by repeat (first | (with_reducible first | exact HB.out | apply below_alloc | apply pw_below_drewN | apply below_drew1) | exact HB.out)⟩
mutual
def spec_PhraseIn.l0 : Nat -> List ByteArray -> List ByteArray -> List ByteArray -> Int -> Int -> Option ((List (S57)) × Bool)
 | 0, _, _, _, _, _ => none
 | k + 1, x0, x1, x10, x11, x12 => if x12 < x11 then (if 0 <= x12 then (if x12 < (x10.length : Int) then ((spec_l9Word.f k (rdOf ByteArray.empty x10 x12)).bind fun t360 => (if t360 = true then (spec_PhraseIn.l0 k x0 x1 x10 x11 (wrap64 (x12 + 1))) else (some (([] : List (S57)), false)))) else (none)) else (none)) else ((spec_l9Docs.f k x0).bind fun t361 => (if t361 = true then ((spec_l1In.f (x1.length : Int) 1 4).bind fun t362 => (spec_PhraseIn.j1 k x0 x1 (!t362))) else (spec_PhraseIn.j1 k x0 x1 true)))
def spec_PhraseIn.j1 : Nat -> List ByteArray -> List ByteArray -> Bool -> Option ((List (S57)) × Bool)
 | 0, _, _, _ => none
 | k + 1, x0, x1, x28 => if x28 = true then (some (([] : List (S57)), false)) else (if 0 < (x1.length : Int) then ((spec_l9Posts.f k x0 (rdOf ByteArray.empty x1 0)).bind fun t364 => (spec_PhraseIn.l1 k x0 x1 t364 1)) else (none))
def spec_PhraseIn.l1 : Nat -> List ByteArray -> List ByteArray -> List (S57) -> Int -> Option ((List (S57)) × Bool)
 | 0, _, _, _, _ => none
 | k + 1, x0, x1, x8, x9 => if x9 < (x1.length : Int) then (if 0 <= x9 then ((spec_l9Posts.f k x0 (rdOf ByteArray.empty x1 x9)).bind fun t368 => ((spec_l9Meet.f k x8 t368 x9).bind fun t371 => (spec_PhraseIn.l1 k x0 x1 t371 (wrap64 (x9 + 1))))) else (none)) else (some (x8, true))
end
def spec_PhraseIn.f (k : Nat) (l0 : List ByteArray) (l1 : List ByteArray) : Option ((List (S57)) × Bool) := spec_PhraseIn.l0 k l0 l1 l1 (l1.length : Int) 0
theorem spec_PhraseIn.mono_l : ∀ k, (∀ y0 y1 y2 y3 y4, LeO (spec_PhraseIn.l0 k y0 y1 y2 y3 y4) (spec_PhraseIn.l0 (k + 1) y0 y1 y2 y3 y4)) /\ (∀ y0 y1 y2, LeO (spec_PhraseIn.j1 k y0 y1 y2) (spec_PhraseIn.j1 (k + 1) y0 y1 y2)) /\ (∀ y0 y1 y2 y3, LeO (spec_PhraseIn.l1 k y0 y1 y2 y3) (spec_PhraseIn.l1 (k + 1) y0 y1 y2 y3))
 | 0 => ⟨fun _ _ _ _ _ r h => by simp [spec_PhraseIn.l0] at h, fun _ _ _ r h => by simp [spec_PhraseIn.j1] at h, fun _ _ _ _ r h => by simp [spec_PhraseIn.l1] at h⟩
 | k + 1 => by
  obtain ⟨ih0, ih1, ih2⟩ := spec_PhraseIn.mono_l k
  refine ⟨?_, ?_, ?_⟩
  ·intro y0 y1 y2 y3 y4
   unfold spec_PhraseIn.l0
   repeat' (with_reducible first | exact ih0 _ _ _ _ _ | exact ih1 _ _ _ | exact ih2 _ _ _ _ | exact spec_l9Docs.mono _ _ | exact spec_l9Meet.mono _ _ _ _ | exact spec_l9Posts.mono _ _ _ | exact spec_l9Word.mono _ _ | exact LeO.refl _ | exact LeO.none _ | refine LeO.ite ?_ ?_ | refine LeO.bind ?_ (fun _ => ?_))
  ·intro y0 y1 y2
   unfold spec_PhraseIn.j1
   repeat' (with_reducible first | exact ih0 _ _ _ _ _ | exact ih1 _ _ _ | exact ih2 _ _ _ _ | exact spec_l9Docs.mono _ _ | exact spec_l9Meet.mono _ _ _ _ | exact spec_l9Posts.mono _ _ _ | exact spec_l9Word.mono _ _ | exact LeO.refl _ | exact LeO.none _ | refine LeO.ite ?_ ?_ | refine LeO.bind ?_ (fun _ => ?_))
  ·intro y0 y1 y2 y3
   unfold spec_PhraseIn.l1
   repeat' (with_reducible first | exact ih0 _ _ _ _ _ | exact ih1 _ _ _ | exact ih2 _ _ _ _ | exact spec_l9Docs.mono _ _ | exact spec_l9Meet.mono _ _ _ _ | exact spec_l9Posts.mono _ _ _ | exact spec_l9Word.mono _ _ | exact LeO.refl _ | exact LeO.none _ | refine LeO.ite ?_ ?_ | refine LeO.bind ?_ (fun _ => ?_))
theorem spec_PhraseIn.mono : ∀ a0 a1 k, LeO (spec_PhraseIn.f k a0 a1) (spec_PhraseIn.f (k + 1) a0 a1) := by
 intro a0 a1 k
 obtain ⟨ih0, ih1, ih2⟩ := spec_PhraseIn.mono_l k
 unfold spec_PhraseIn.f
 repeat' (with_reducible first | exact ih0 _ _ _ _ _ | exact ih1 _ _ _ | exact ih2 _ _ _ _ | exact spec_l9Docs.mono _ _ | exact spec_l9Meet.mono _ _ _ _ | exact spec_l9Posts.mono _ _ _ | exact spec_l9Word.mono _ _ | exact LeO.refl _ | exact LeO.none _ | refine LeO.ite ?_ ?_ | refine LeO.bind ?_ (fun _ => ?_))
theorem spec_PhraseIn.calls (k : Nat) (A0 : Option Addr) (c0 : Nat) (l0 : List ByteArray) (A1 : Option Addr) (c1 : Nat) (l1 : List ByteArray) (r1 : List (S57)) (r2 : Bool) (w : World) (hr0 : Kd.C Kd.string w A0 l0.length l0) (hc0 : l0.length <= c0) (hr1 : Kd.C Kd.string w A1 l1.length l1) (hc1 : l1.length <= c1) (h : spec_PhraseIn.f k l0 l1 = some (r1, r2)) :
  Calls Try.prog 35 #[.slice A0 l0.length c0, .slice A1 l1.length c1] w fun e w' => ∃ v0_ : Value, e = .returned (.tuple #[v0_, .bool r2]) /\ Kd.S k57 57 w' w.heap.size (fun _ => True) v0_ r1 /\ Below w.heap.size w w' := by
 have HR0 := Aside0.mk hr0
 have HC0 := Aside0.mk hc0
 clear hr0 hc0
 have HR1 := Aside0.mk hr1
 have HC1 := Aside0.mk hc1
 clear hr1 hc1
 have HB := Aside0.mk (Below.refl w.heap.size w)
 have H : (spec_PhraseIn.l0 k l0 l1 l1 (l1.length : Int) 0) = some (r1, r2) := h
 clear h
 have H' := Aside0.mk H
 clear H
 go_enter Try.func35, Try.ntmps35
 go_wp2
 go_loopg [12] k (fun kq v12 w' => ∃ (x12_1 : Int), v12 = .int .i64 x12_1 /\ Aside0 (spec_PhraseIn.l0 kq l0 l1 l1 (l1.length : Int) x12_1 = some (r1, r2)) /\ Aside0 (kq <= k) /\ Aside0 (Below w.heap.size w w'))
 case atStart => exact ⟨(0), (by first | rfl | (simp; done) | (simp [*]; done)), H', ⟨Nat.le_refl _⟩, ⟨be_ HB.out⟩⟩
 case round =>
  clear H'
  (try clear c1); (try clear p2)
  obtain ⟨x12_1, rfl, HA, HK1, HB⟩ := hrel
  cases gk with
  | zero => exact absurd HA.out (by simp [spec_PhraseIn.l0])
  | succ k1 =>
   have H := HA.out
   clear HA
   simp only [spec_PhraseIn.l0] at H
   by_cases c3 : x12_1 < (l1.length : Int)
   ·rw [if_pos c3] at H
    have c3b0 : decide (x12_1 < (l1.length : Int)) = true := decide_eq_true c3
    clear c3
    by_cases c4 : 0 <= x12_1
    ·rw [if_pos c4] at H
     have c4b0 : decide (0 <= x12_1) = true := decide_eq_true c4
     clear c4
     by_cases c5 : x12_1 < (l1.length : Int)
     ·rw [if_pos c5] at H
      have c5b0 : decide (x12_1 < (l1.length : Int)) = true := decide_eq_true c5
      clear c5
      replace H := Option.bind_eq_some_iff.mp H
      obtain ⟨t360, A60, H⟩ := H
      replace H : (if t360 = true then (spec_PhraseIn.l0 k1 l0 l1 l1 (l1.length : Int) (wrap64 (x12_1 + 1))) else (some (([] : List (S57)), false))) = some (r1, r2) := H
      have A6 := Aside0.mk A60
      clear A60
      by_cases c7 : t360 = true
      ·subst c7
       have H1 : (spec_PhraseIn.l0 k1 l0 l1 l1 (l1.length : Int) (wrap64 (x12_1 + 1))) = some (r1, r2) := by rw [if_pos rfl] at H; exact H
       clear H
       have H := H1
       clear H1
       have H' := Aside0.mk H
       clear H
       have p359 : 0 <= (x12_1 : Int) := of_decide_eq_true as_
       have q359 : x12_1 < (l1.length : Int) := of_decide_eq_true as_
       obtain ⟨ad359, e359, hx359_0⟩ := Kd.at_string HR1.out x12_1 p359 q359
       cases e359
       replace hx359_0 := (HB.out.cell (World.block_lt_of_cell? w _ hx359_0)).trans hx359_0
       replace p359 := eq_true p359
       replace q359 := eq_true q359
       go_wp2_with (first | ((with_reducible refine gate_callee (f := 56) rfl ?_); refine goesL_ (some 17) rfl rfl Try.func56 (by kernel_rfl) rfl #[.string (rdOf ByteArray.empty l1 x12_1)] rfl (ag_) ?_; (with_reducible refine (spec_l9Word.calls k1 (rdOf ByteArray.empty l1 x12_1) true _ A6.out).mono ?_); rintro e w' ⟨rfl, ⟨nd, rfl⟩⟩; refine ⟨_, rfl, ?_⟩))
       go_roundg k1
       case measure => have := HK1.out; omega
       case rel => exact ⟨(wrap64 (x12_1 + 1)), (by first | rfl | (simp; done) | (simp [*]; done)), H', ⟨by have := HK1.out; omega⟩, ⟨be_ HB.out⟩⟩
      ·replace c7 := Bool.eq_false_iff.mpr c7
       subst c7
       have H1 : (some (([] : List (S57)), false)) = some (r1, r2) := by rw [if_neg (show ¬ (false = true) by decide)] at H; exact H
       clear H
       have H := H1
       clear H1
       simp only [Option.some.injEq, Prod.mk.injEq] at H
       obtain ⟨rfl, rfl⟩ := H
       have p359 : 0 <= (x12_1 : Int) := of_decide_eq_true as_
       have q359 : x12_1 < (l1.length : Int) := of_decide_eq_true as_
       obtain ⟨ad359, e359, hx359_0⟩ := Kd.at_string HR1.out x12_1 p359 q359
       cases e359
       replace hx359_0 := (HB.out.cell (World.block_lt_of_cell? w _ hx359_0)).trans hx359_0
       replace p359 := eq_true p359
       replace q359 := eq_true q359
       go_wp2_with (first | ((with_reducible refine gate_callee (f := 56) rfl ?_); refine goesL_ (some 17) rfl rfl Try.func56 (by kernel_rfl) rfl #[.string (rdOf ByteArray.empty l1 x12_1)] rfl (ag_) ?_; (with_reducible refine (spec_l9Word.calls k1 (rdOf ByteArray.empty l1 x12_1) false _ A6.out).mono ?_); rintro e w' ⟨rfl, ⟨nd, rfl⟩⟩; refine ⟨_, rfl, ?_⟩))
       go_ret2
       exact ⟨_, ew_, by first | exact Kd.S_nil _ _ _ _ _ | exact Kd.N_nil _ _ _ _ _ | exact Kd.V_nil _ _ _ _ _ | exact Kd.Q_nil _ _ _ _ _ | exact Kd.R_nil _ _ _ _ _, by repeat (first | (with_reducible first | exact HB.out | apply below_alloc | apply pw_below_drewN | apply below_drew1) | exact HB.out)⟩
     ·rw [if_neg c5] at H
      exact absurd H (by simp)
    ·rw [if_neg c4] at H
     exact absurd H (by simp)
   ·rw [if_neg c3] at H
    have c3b0 : decide (x12_1 < (l1.length : Int)) = false := decide_eq_false c3
    clear c3
    have HC8 := Aside0.mk H
    clear H
    go_upto_region 7 with (fail)
    go_cut [28] (fun v28 wc => ∃ (kq : Nat) (x28_7 : Bool), v28 = .bool x28_7 /\ Aside0 (spec_PhraseIn.j1 kq l0 l1 x28_7 = some (r1, r2)) /\ Aside0 (kq <= k1) /\ Aside0 (Below w.heap.size w wc))
    case first =>
     have H := HC8.out
     clear HC8
     replace H := Option.bind_eq_some_iff.mp H
     obtain ⟨t361, A90, H⟩ := H
     replace H : (if t361 = true then ((spec_l1In.f (l1.length : Int) 1 4).bind fun t362 => (spec_PhraseIn.j1 k1 l0 l1 (!t362))) else (spec_PhraseIn.j1 k1 l0 l1 true)) = some (r1, r2) := H
     have A9 := Aside0.mk A90
     clear A90
     by_cases c10 : t361 = true
     ·subst c10
      have H1 : ((spec_l1In.f (l1.length : Int) 1 4).bind fun t362 => (spec_PhraseIn.j1 k1 l0 l1 (!t362))) = some (r1, r2) := by rw [if_pos rfl] at H; exact H
      clear H
      have H := H1
      clear H1
      replace H := Option.bind_eq_some_iff.mp H
      obtain ⟨t362, A110, H⟩ := H
      replace H : (spec_PhraseIn.j1 k1 l0 l1 (!t362)) = some (r1, r2) := H
      have A11 := Aside0.mk A110
      clear A110
      have H' := Aside0.mk H
      clear H
      go_wp2_with (first | ((with_reducible refine gate_callee (f := 55) rfl ?_); refine goesL_ (some 21) rfl rfl Try.func55 (by kernel_rfl) rfl #[.slice A0 l0.length c0] rfl (ag_) ?_; (with_reducible refine (spec_l9Docs.calls k1 _ _ l0 true _ ?side1 ?side2 A9.out).mono ?_); (case side1 => refine cd_ ?_; exact (Kd.C_below HR0.out HB.out)); (case side2 => exact HC0.out); rintro e w12 ⟨rfl, hb⟩; refine ⟨_, rfl, ?_⟩; have n0_ := Aside0.mk (bs_ HB.out hb); clear HB; have HB := n0_; clear n0_; (try clear hb); (try clear hb2); (try clear hk); (try clear hi)) | (go_at_call 67; (with_reducible refine (spec_l1In.calls (l1.length : Int) 1 4 t362 _ A11.out).mono ?_); rintro e w' ⟨rfl, ⟨nd, rfl⟩⟩))
      go_meet
      case rel => exact ⟨_, (!t362), (by first | rfl | (simp; done) | (simp [*]; done)), H', ⟨by have := HK1.out; first | omega | exact Nat.le_refl _⟩, ⟨be_ HB.out⟩⟩
     ·replace c10 := Bool.eq_false_iff.mpr c10
      subst c10
      have H1 : (spec_PhraseIn.j1 k1 l0 l1 true) = some (r1, r2) := by rw [if_neg (show ¬ (false = true) by decide)] at H; exact H
      clear H
      have H := H1
      clear H1
      have H' := Aside0.mk H
      clear H
      go_wp2_with (first | ((with_reducible refine gate_callee (f := 55) rfl ?_); refine goesL_ (some 21) rfl rfl Try.func55 (by kernel_rfl) rfl #[.slice A0 l0.length c0] rfl (ag_) ?_; (with_reducible refine (spec_l9Docs.calls k1 _ _ l0 false _ ?side1 ?side2 A9.out).mono ?_); (case side1 => refine cd_ ?_; exact (Kd.C_below HR0.out HB.out)); (case side2 => exact HC0.out); rintro e w13 ⟨rfl, hb⟩; refine ⟨_, rfl, ?_⟩; have n0_ := Aside0.mk (bs_ HB.out hb); clear HB; have HB := n0_; clear n0_; (try clear hb); (try clear hb2); (try clear hk); (try clear hi)))
      go_meet
      case rel => exact ⟨_, (true), (by first | rfl | (simp; done) | (simp [*]; done)), H', ⟨by have := HK1.out; first | omega | exact Nat.le_refl _⟩, ⟨be_ HB.out⟩⟩
    case rest =>
     clear HC8
     (try clear c1); (try clear p2); (try clear c3); (try clear c3b0); (try clear p3); (try clear q3); (try clear hx3); (try clear c4); (try clear c4b0); (try clear c5); (try clear c5b0); (try clear p6); (try clear c7); (try clear c10); (try clear hx359_0); (try clear p2); (try clear p359); (try clear q359)
     obtain ⟨kq, x28_7, rfl, HA, HJ7, HB⟩ := hcut
     cases kq with
     | zero => exact absurd HA.out (by simp [spec_PhraseIn.j1])
     | succ kj7 =>
      have H := HA.out
      clear HA
      simp only [spec_PhraseIn.j1] at H
      by_cases c14 : x28_7 = true
      ·subst c14
       have H1 : (some (([] : List (S57)), false)) = some (r1, r2) := by rw [if_pos rfl] at H; exact H
       clear H
       have H := H1
       clear H1
       simp only [Option.some.injEq, Prod.mk.injEq] at H
       obtain ⟨rfl, rfl⟩ := H
       go_wp2
       go_ret2
       exact ⟨_, ew_, by first | exact Kd.S_nil _ _ _ _ _ | exact Kd.N_nil _ _ _ _ _ | exact Kd.V_nil _ _ _ _ _ | exact Kd.Q_nil _ _ _ _ _ | exact Kd.R_nil _ _ _ _ _, by repeat (first | (with_reducible first | exact HB.out | apply below_alloc | apply pw_below_drewN | apply below_drew1) | exact HB.out)⟩
      ·replace c14 := Bool.eq_false_iff.mpr c14
       subst c14
       have H1 : (if 0 < (l1.length : Int) then ((spec_l9Posts.f kj7 l0 (rdOf ByteArray.empty l1 0)).bind fun t364 => (spec_PhraseIn.l1 kj7 l0 l1 t364 1)) else (none)) = some (r1, r2) := by rw [if_neg (show ¬ (false = true) by decide)] at H; exact H
       clear H
       have H := H1
       clear H1
       by_cases c15 : 0 < (l1.length : Int)
       ·rw [if_pos c15] at H
        have c15b0 : decide (0 < (l1.length : Int)) = true := decide_eq_true c15
        have c15b1 : decide (0 < l1.length) = true := decide_eq_true (by omega)
        clear c15
        replace H := Option.bind_eq_some_iff.mp H
        obtain ⟨t364, A160, H⟩ := H
        replace H : (spec_PhraseIn.l1 kj7 l0 l1 t364 1) = some (r1, r2) := H
        have A16 := Aside0.mk A160
        clear A160
        have H' := Aside0.mk H
        clear H
        have p363 : 0 <= (0 : Int) := (by omega)
        have q363 : 0 < (l1.length : Int) := of_decide_eq_true as_
        obtain ⟨ad363, e363, hx363_0⟩ := Kd.at_string HR1.out 0 p363 q363
        cases e363
        have qi363 : (0 < l1.length) = True := eq_true (by omega)
        (try rw [show ((0 : Int)).toNat = 0 from rfl] at hx363_0)
        (try rw [Addr.add_zero'] at hx363_0)
        replace hx363_0 := (HB.out.cell (World.block_lt_of_cell? w _ hx363_0)).trans hx363_0
        replace p363 := eq_true p363
        replace q363 := eq_true q363
        go_wp2_with (first | ((with_reducible refine gate_callee (f := 57) rfl ?_); refine goesL_ (some 33) rfl rfl Try.func57 (by kernel_rfl) rfl #[.slice A0 l0.length c0, .string (rdOf ByteArray.empty l1 0)] rfl (ag_) ?_; (with_reducible refine (spec_l9Posts.calls kj7 _ _ l0 (rdOf ByteArray.empty l1 0) t364 _ ?side1 ?side2 A16.out).mono ?_); (case side1 => refine cd_ ?_; exact (Kd.C_below HR0.out HB.out)); (case side2 => exact HC0.out); rintro e w17 ⟨v365, rfl, ho0, hb⟩; refine ⟨_, rfl, ?_⟩; have n0_ := Aside0.mk (Kd.S_lower ho0 (bw_ HB.out)); have n1_ := Aside0.mk (bs_ HB.out hb); clear HB; have HO366 := n0_; have HB := n1_; clear n0_ n1_; (try clear hb); (try clear hb2); (try clear hk); (try clear hi); (try clear ho0)))
        go_loopg [8, 9] kj7 (fun kq v8 v9 w' => ∃ (x8_3 : List (S57)) (x9_3 : Int), v9 = .int .i64 x9_3 /\ Aside0 (spec_PhraseIn.l1 kq l0 l1 x8_3 x9_3 = some (r1, r2)) /\ Aside0 (kq <= kj7) /\ Aside0 (Kd.S k57 57 w' w.heap.size (fun _ => True) v8 x8_3) /\ Aside0 (Below w.heap.size w w'))
        case atStart => exact ⟨(t364), (1), (by first | rfl | (simp; done) | (simp [*]; done)), H', ⟨Nat.le_refl _⟩, ⟨sk_ HO366.out⟩, ⟨be_ HB.out⟩⟩
        case round =>
         clear H'
         (try clear c1); (try clear p2); (try clear c3); (try clear c3b0); (try clear p3); (try clear q3); (try clear hx3); (try clear qi3); (try clear c4); (try clear c4b0); (try clear c5); (try clear c5b0); (try clear p6); (try clear c7); (try clear c10); (try clear c14); (try clear c15); (try clear c15b0); (try clear c15b1); (try clear hx359_0); (try clear hx363_0); (try clear p2); (try clear p3); (try clear p359); (try clear p363); (try clear p6); (try clear q3); (try clear q359); (try clear q363)
         obtain ⟨x8_3, x9_3, rfl, HA, HK3, HO_8, HB⟩ := hrel
         cases gk with
         | zero => exact absurd HA.out (by simp [spec_PhraseIn.l1])
         | succ k3 =>
          have H := HA.out
          clear HA
          simp only [spec_PhraseIn.l1] at H
          by_cases c18 : x9_3 < (l1.length : Int)
          ·rw [if_pos c18] at H
           have c18b0 : decide (x9_3 < (l1.length : Int)) = true := decide_eq_true c18
           clear c18
           by_cases c19 : 0 <= x9_3
           ·rw [if_pos c19] at H
            have c19b0 : decide (0 <= x9_3) = true := decide_eq_true c19
            clear c19
            replace H := Option.bind_eq_some_iff.mp H
            obtain ⟨t368, A200, H⟩ := H
            replace H : ((spec_l9Meet.f k3 x8_3 t368 x9_3).bind fun t371 => (spec_PhraseIn.l1 k3 l0 l1 t371 (wrap64 (x9_3 + 1)))) = some (r1, r2) := H
            have A20 := Aside0.mk A200
            clear A200
            replace H := Option.bind_eq_some_iff.mp H
            obtain ⟨t371, A210, H⟩ := H
            replace H : (spec_PhraseIn.l1 k3 l0 l1 t371 (wrap64 (x9_3 + 1))) = some (r1, r2) := H
            have A21 := Aside0.mk A210
            clear A210
            have H' := Aside0.mk H
            clear H
            have p367 : 0 <= (x9_3 : Int) := of_decide_eq_true as_
            have q367 : x9_3 < (l1.length : Int) := of_decide_eq_true as_
            obtain ⟨ad367, e367, hx367_0⟩ := Kd.at_string HR1.out x9_3 p367 q367
            obtain rfl : ad363 = ad367 := (by injection e367)
            replace hx367_0 := (HB.out.cell (World.block_lt_of_cell? w _ hx367_0)).trans hx367_0
            replace p367 := eq_true p367
            replace q367 := eq_true q367
            go_wp2_with (first | ((with_reducible refine gate_callee (f := 57) rfl ?_); refine goesL_ (some 46) rfl rfl Try.func57 (by kernel_rfl) rfl #[.slice A0 l0.length c0, .string (rdOf ByteArray.empty l1 x9_3)] rfl (ag_) ?_; (with_reducible refine (spec_l9Posts.calls k3 _ _ l0 (rdOf ByteArray.empty l1 x9_3) t368 _ ?side1 ?side2 A20.out).mono ?_); (case side1 => refine cd_ ?_; exact (Kd.C_below HR0.out HB.out)); (case side2 => exact HC0.out); rintro e w22 ⟨v369, rfl, ho0, hb⟩; refine ⟨_, rfl, ?_⟩; have n0_ := Aside0.mk (Kd.S_elder' (sk_ HO_8.out) (Kd.S_base ho0) hb); have n1_ := Aside0.mk (Kd.S_lower (Kd.S_new' ho0 (Kd.S_lt (sk_ HO_8.out))) (bw_ HB.out)); have n2_ := Aside0.mk (bs_ HB.out hb); clear HO_8; clear HB; have HO_8 := n0_; have HO370 := n1_; have HB := n2_; clear n0_ n1_ n2_; (try clear hb); (try clear hb2); (try clear hk); (try clear hi); (try clear ho0); obtain ⟨Ao23, co23, eo23⟩ := Kd.S_slice HO_8.out; subst eo23; obtain ⟨Ao24, co24, eo24⟩ := Kd.S_slice HO370.out; subst eo24) | ((with_reducible refine gate_callee (f := 71) rfl ?_); refine goesL_ (some 48) rfl rfl Try.func71 (by kernel_rfl) rfl #[.slice Ao23 x8_3.length co23, .slice Ao24 t368.length co24, .int .i64 x9_3] rfl (ag_) ?_; (with_reducible refine (spec_l9Meet.calls k3 _ _ x8_3 _ _ t368 x9_3 t371 _ ?side1 ?side2 ?side3 ?side4 A21.out).mono ?_); (case side1 => refine cd_ ?_; exact (Kd.S_reads' HO_8.out).2.2); (case side2 => exact (Kd.S_reads' HO_8.out).2.1); (case side3 => refine cd_ ?_; exact (Kd.S_reads' HO370.out).2.2); (case side4 => exact (Kd.S_reads' HO370.out).2.1); rintro e w25 ⟨v372, rfl, ho0, hb⟩; refine ⟨_, rfl, ?_⟩; have n0_ := Aside0.mk (Kd.S_elder' (sk_ HO_8.out) (Kd.S_base ho0) hb); have n1_ := Aside0.mk (Kd.S_elder' (sk_ HO370.out) (Kd.S_base ho0) hb); have n2_ := Aside0.mk (Kd.S_lower (Kd.S_new' (Kd.S_new' ho0 (Kd.S_lt (sk_ HO_8.out))) (Kd.S_lt (sk_ HO370.out))) (bw_ HB.out)); have n3_ := Aside0.mk (bs_ HB.out hb); clear HO_8; clear HO370; clear HB; have HO_8 := n0_; have HO370 := n1_; have HO373 := n2_; have HB := n3_; clear n0_ n1_ n2_ n3_; (try clear hb); (try clear hb2); (try clear hk); (try clear hi); (try clear ho0)))
            go_roundg k3
            case measure => have := HK1.out; have := HJ7.out; have := HK3.out; omega
            case rel => exact ⟨(t371), (wrap64 (x9_3 + 1)), (by first | rfl | (simp; done) | (simp [*]; done)), H', ⟨by have := HK1.out; have := HJ7.out; have := HK3.out; omega⟩, ⟨by (with_reducible repeat (first | apply Kd.S_alloc | apply Kd.S_drewN | apply Kd.S_drew)); exact Kd.S_mono HO373.out (fun _ hk => trivial)⟩, ⟨be_ HB.out⟩⟩
           ·rw [if_neg c19] at H
            exact absurd H (by simp)
          ·rw [if_neg c18] at H
           have c18b0 : decide (x9_3 < (l1.length : Int)) = false := decide_eq_false c18
           clear c18
           simp only [Option.some.injEq, Prod.mk.injEq] at H
           obtain ⟨rfl, rfl⟩ := H
           go_wp2
           go_ret2
           exact ⟨_, ew_, by (with_reducible repeat (first | apply Kd.S_alloc | apply Kd.S_drewN | apply Kd.S_drew)); exact HO_8.out, by repeat (first | (with_reducible first | exact HB.out | apply below_alloc | apply pw_below_drewN | apply below_drew1) | exact HB.out)⟩
       ·rw [if_neg c15] at H
        exact absurd H (by simp)
def impl_PhraseIn_1.f (k : Nat) (a0 : ByteArray) : Option (Bool) := (impl_isWord.f k a0).bind fun t374 => (some (!t374))
theorem impl_PhraseIn_1.mono : ∀ a0 k, LeO (impl_PhraseIn_1.f k a0) (impl_PhraseIn_1.f (k + 1) a0) := by
 intro a0 k
 unfold impl_PhraseIn_1.f
 repeat' (with_reducible first | exact impl_isWord.mono _ _ | exact LeO.refl _ | exact LeO.none _ | refine LeO.ite ?_ ?_ | refine LeO.bind ?_ (fun _ => ?_))
theorem impl_PhraseIn_1.calls (k : Nat) (a0 : ByteArray) (r : Bool) (w : World) (h : impl_PhraseIn_1.f k a0 = some r) :
  Calls Try.prog 74 #[.string a0] w fun e w' => e = .returned (.bool r) /\ Drawn0 w w' := by
 have H : ((impl_isWord.f k a0).bind fun t374 => (some (!t374))) = some r := h
 clear h
 replace H := Option.bind_eq_some_iff.mp H
 obtain ⟨t374, A20, H⟩ := H
 replace H : (some (!t374)) = some r := H
 have A2 := Aside0.mk A20
 clear A20
 obtain rfl := Option.some.inj H
 go_enter Try.func74, Try.ntmps74
 go_wp2_with (first | ((with_reducible refine gate_callee (f := 59) rfl ?_); refine goesL_ (some 4) rfl rfl Try.func59 (by kernel_rfl) rfl #[.string a0] rfl (ag_) ?_; (with_reducible refine (impl_isWord.calls k a0 t374 _ A2.out).mono ?_); rintro e w' ⟨rfl, ⟨nd, rfl⟩⟩; refine ⟨_, rfl, ?_⟩))
 go_ret
 exact ⟨by first | rfl | (simp; done) | (simp [*]; done), by repeat (first | exact Drawn0.refl _ | apply Drawn0.step)⟩
end Go.Proofs.Ytcopakljdenolaa.Fn
